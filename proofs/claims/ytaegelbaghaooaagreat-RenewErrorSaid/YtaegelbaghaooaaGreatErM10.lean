/- Summaries: a number in a row of numbers. (trees printed by program, wip/auto.py) -/
import Derived.Test.YtaegelbaghaooaaGreatErQA8
import Derived.WalkKit
import Derived.Test.YtaegelbaghaooaaGreatErLxMrg
set_option linter.all false
open Go.IntKind (i64 u64 u32 u8)
namespace Go.Proofs.YtaegelbaghaooaaGreat.Lx
open Go
set_option maxRecDepth 1000000
end Go.Proofs.YtaegelbaghaooaaGreat.Lx
namespace Go.Proofs.YtaegelbaghaooaaGreat.Lx
open Go
set_option maxRecDepth 1000000
end Go.Proofs.YtaegelbaghaooaaGreat.Lx
namespace Go.Proofs.YtaegelbaghaooaaGreat.Lx
open Go
set_option maxRecDepth 1000000
end Go.Proofs.YtaegelbaghaooaaGreat.Lx
namespace Go.Proofs.YtaegelbaghaooaaGreat.Lx
open Go
set_option maxRecDepth 1000000
def ka8e : List (Nat × Sm) := ka8
variable {σ : Type} {I : Port Tryz.prog σ}
theorem xgX : SoundL I ka8e := s_ka8
end Go.Proofs.YtaegelbaghaooaaGreat.Lx
namespace Go.Proofs.YtaegelbaghaooaaGreat.Lx
open Go
set_option maxRecDepth 1000000
def xbJ {β : Type} (g : Geo) (c it fi : Int) (κ : Bool -> T β) : T β :=
 (acqT g).bind fun r0 =>
 bif r0 == 0 then (κ (false)) else
 .op (.store (atF g 18 (inF (i64.wrap (r0 - 1)) 0 8)) (it)) fun _ =>
 .op (.store (atF g 18 (inF (i64.wrap (r0 - 1)) 1 8)) (0)) fun _ =>
 .op (.store (atF g 18 (inF (i64.wrap (r0 - 1)) 2 8)) (0)) fun _ =>
 .op (.store (atF g 18 (inF (i64.wrap (r0 - 1)) 3 8)) (0)) fun _ =>
 .op (.store (atF g 18 (inF (i64.wrap (r0 - 1)) 4 8)) (0)) fun _ =>
 .op (.store (atF g 18 (inF (i64.wrap (r0 - 1)) 5 8)) (0)) fun _ =>
 .op (.store (atF g 18 (inF (i64.wrap (r0 - 1)) 6 8)) (0)) fun _ =>
 .op (.store (atF g 18 (inF (i64.wrap (r0 - 1)) 7 8)) (0)) fun _ =>
 .op (.store (atF g 17 (inF (i64.wrap (r0 - 1)) 0 1)) (Ref.word (Ref.mk fi false 0))) fun _ =>
 .op (.self ) fun x11 =>
 .op (.store (atF g 13 (inF x11 c 4)) (Ref.word (Ref.mk r0 false 0))) fun _ =>
 κ (true)
def KE (g : Geo) (c it fi : Int) : T Bool := xbJ g c it fi .ret
theorem xjT {β : Type} (g : Geo) (c it fi : Int) (κ : Bool -> T β) : (KE g c it fi).bind κ = xbJ g c it fi κ := by
 unfold KE xbJ
 first | rfl | (simp only [xa, xb, xe, xc, T.bind_assoc])
def WS {β : Type} (a0 a1 a2 : Int) (b3 : Bool) (g5 : Geo) (κ0 : Int -> T β) (κ1 : Unit -> T β) (κ2 : Unit -> T β) (i : Int × Int × Bool × Int) (k : Int × Int × Bool × Int -> T β) : T β :=
 bif i.2.1 != 0 then ((kJ g5 i.2.1).bind fun r1 =>
 bif r1.2 then (κ0 (r1.1)) else
 (xbs g5 (i64.wrap (1 - i.1)) (atF g5 17 (inF (i64.wrap (i.2.1 - 1)) 0 1))).bind fun r3 =>
 bif r3.mark then (κ1 ()) else
 k (i64.wrap (1 - i.1), r3.1, r3.mark, r3.ver)) else
 κ2 ()
def jy {β : Type} (a0 a1 a2 : Int) (b3 : Bool) (g5 : Geo) (a4 a6 : Int) (b7 : Bool) (a8 : Int) (κ0 : Int -> T β) (κ1 : Unit -> T β) (κ2 : Unit -> T β) : T β := xz xd (WS a0 a1 a2 b3 g5 κ0 κ1 κ2) (a4, a6, b7, a8)
theorem xeV {β γ : Type} (a0 a1 a2 : Int) (b3 : Bool) (g5 : Geo) (a4 a6 : Int) (b7 : Bool) (a8 : Int) (κ0 : Int -> T β) (κ1 : Unit -> T β) (κ2 : Unit -> T β) (κ : β -> T γ) : (jy a0 a1 a2 b3 g5 a4 a6 b7 a8 κ0 κ1 κ2).bind κ = jy a0 a1 a2 b3 g5 a4 a6 b7 a8 (fun ae2 => (κ0 ae2).bind κ) (fun u => (κ1 u).bind κ) (fun u => (κ2 u).bind κ) := by
 unfold jy
 refine xn κ (fun i k => ?_) _ _
 unfold WS
 first | rfl | (simp only [xa, xb, xe, xc, T.bind_assoc])
def xfI : Pat := ⟨xu 47 0 [(0, .c (.raw (.port))), (2, .c (.int .i64)), (3, .c (.int .i64)), (5, .c (.raw (.ptr 0 0))), (8, .c (.int .u64)), (9, .c (.bool)), (10, .c (.int .i64)), (11, .c (.raw (.ptr 1 0)))], [some ⟨[.geo], 24, false, none⟩, some ⟨[.int .i64, .bool, .int .u32], 162, false, none⟩]⟩
def vb : Pat := ⟨xu 47 0 [(0, .c (.raw (.port))), (2, .c (.int .i64)), (3, .c (.int .i64)), (5, .c (.raw (.ptr 0 0))), (8, .c (.int .u64)), (9, .c (.bool))], [some ⟨[.geo], 24, false, none⟩]⟩
def jz : St -> (Ex -> St -> T R) -> Option (T R) := fun st K => match xx xfI st with
 | some [.i a0, .i a1, .i a2, .b b3, .i a4, .g g5, .i a6, .b b7, .i a8] => some (jy a0 a1 a2 b3 g5 a4 a6 b7 a8 (fun ae2 => K (.ret) (xf vb [.i a0, .i a1, .i ae2, .b true, .g g5])) (fun _ => K (.exit 1) (xf vb [.i a0, .i a1, .i a2, .b b3, .g g5])) (fun _ => K (.exit 2) (xf vb [.i a0, .i a1, .i a2, .b b3, .g g5])))
 | _ => none
theorem xp5 : ∀ st K t, jz st K = some t -> xF xd (lf ka8e xd 0 .no [1, 0, 1, 0, 0, 0, 1, 1, 0, 0] Tryz.f275 K) st = t := by
 intro st K t h
 unfold jz at h
 split at h
 ·rename_i a0 a1 a2 b3 a4 g5 a6 b7 a8 hm
  cases h
  rw [xp hm]
  exact cast (by kernel_rfl) (xy (F := lf ka8e xd 0 .no [1, 0, 1, 0, 0, 0, 1, 1, 0, 0] Tryz.f275 K) (S := fun i => xf xfI [.i a0, .i a1, .i a2, .b b3, .i (i.1), .g g5, .i (i.2.1), .b (i.2.2.1), .i (i.2.2.2)]) (B := WS a0 a1 a2 b3 g5 (fun ae2 => K (.ret) (xf vb [.i a0, .i a1, .i ae2, .b true, .g g5])) (fun _ => K (.exit 1) (xf vb [.i a0, .i a1, .i a2, .b b3, .g g5])) (fun _ => K (.exit 2) (xf vb [.i a0, .i a1, .i a2, .b b3, .g g5]))) (fun i k => by kernel_rfl) xd (a4, a6, b7, a8))
 ·cases h
def WT {β : Type} (a0 a1 a2 : Int) (b3 : Bool) (g4 : Geo) (κ0 : Int -> T β) (κ1 : Unit -> T β) (i : Unit) (k : Unit -> T β) : T β :=
 (xbs g4 0 (atF g4 13 (inF a1 a0 4))).bind fun r0 =>
 jy a0 a1 a2 b3 g4 (0) (r0.1) (r0.mark) (r0.ver) (fun y1_0 =>
 κ0 y1_0) (fun y1_0 =>
 k ()) (fun y1_0 =>
 κ1 ())
def jA {β : Type} (a0 a1 a2 : Int) (b3 : Bool) (g4 : Geo)  (κ0 : Int -> T β) (κ1 : Unit -> T β) : T β := xz xd (WT a0 a1 a2 b3 g4 κ0 κ1) ()
theorem xeW {β γ : Type} (a0 a1 a2 : Int) (b3 : Bool) (g4 : Geo)  (κ0 : Int -> T β) (κ1 : Unit -> T β) (κ : β -> T γ) : (jA a0 a1 a2 b3 g4  κ0 κ1).bind κ = jA a0 a1 a2 b3 g4  (fun ae0 => (κ0 ae0).bind κ) (fun u => (κ1 u).bind κ) := by
 unfold jA
 refine xn κ (fun i k => ?_) _ _
 unfold WT
 first | rfl | (simp only [xa, xb, xe, xc, T.bind_assoc, xeV])
def qq : Pat := ⟨xu 47 0 [(8, .c (.int .u64)), (9, .c (.bool))], []⟩
def WU : St -> (Ex -> St -> T R) -> Option (T R) := fun st K => match xx vb st with
 | some [.i a0, .i a1, .i a2, .b b3, .g g4] => some (jA a0 a1 a2 b3 g4  (fun ae0 => K (.ret) (xf qq [.i ae0, .b true])) (fun _ => K (.ret) (xf qq [.i 0, .b false])))
 | _ => none
theorem xp6 : ∀ st K t, WU st K = some t -> xF xd (lf ka8e xd 0 (lsAt jz .no [0, 1, 1, 0, 0]) [1, 0, 1, 0] Tryz.f275 K) st = t := by
 intro st K t h
 unfold WU at h
 split at h
 ·rename_i a0 a1 a2 b3 g4 hm
  cases h
  rw [xp hm]
  exact cast (by kernel_rfl) (xy (F := lf ka8e xd 0 (lsAt jz .no [0, 1, 1, 0, 0]) [1, 0, 1, 0] Tryz.f275 K) (S := fun i => xf vb [.i a0, .i a1, .i a2, .b b3, .g g4]) (B := WT a0 a1 a2 b3 g4 (fun ae0 => K (.ret) (xf qq [.i ae0, .b true])) (fun _ => K (.ret) (xf qq [.i 0, .b false]))) (fun i k => by kernel_rfl) xd ())
 ·cases h
def xgY {β : Type} (g : Geo) (c t : Int) (κ : (Int × Bool) -> T β) : T β :=
 jA (c) (t) (0) (false) (g) (fun y0_0 =>
 κ (y0_0, (true))) (fun y0_0 =>
 κ ((0), (false)))
def xfJ (g : Geo) (c t : Int) : T (Int × Bool) := xgY g c t .ret
theorem xmI {β : Type} (g : Geo) (c t : Int) (κ : (Int × Bool) -> T β) : (xfJ g c t).bind κ = xgY g c t κ := by
 unfold xfJ xgY
 first | rfl | (simp only [xa, xb, xe, xc, T.bind_assoc, xeW])
def WV {β : Type} (g : Geo) (κ : Unit -> T β) : T β :=
 (WC g 0).bind fun r0 =>
 (WC g 1).bind fun r1 =>
 κ ()
def qr (g : Geo) : T Unit := WV g .ret
theorem xgZ {β : Type} (g : Geo) (κ : Unit -> T β) : (qr g).bind κ = WV g κ := by
 unfold qr WV
 first | rfl | (simp only [xa, xb, xe, xc, T.bind_assoc])
def xcO : Sm := fun args H => match args, H with
 | [.c .port, .agg gc, .c (.int .i64 c), .c (.int .u64 it), .c (.int .i64 fi)], [] => (match xr gc with
   | some g => some (mkS (Bool) (KE g c it fi) fun r => some (.c (.bool r), []))
   | _ => none)
 | _, _ => none
variable {σ : Type} {I : Port Tryz.prog σ}
theorem xmJ (hl : SoundL I ka8e) : SoundF I 238 xcO := by
 refine sq hl 10 Tryz.func238 fun args H t ht => ?_
 unfold xcO at ht
 split at ht
 ·rename_i gc c it fi
  split at ht
  ·rename_i g hg
   obtain rfl := xi hg
   cases ht
   refine Eq.trans ?_ (xjT g c it fi _).symm
   kernel_rfl
  ·cases ht
 ·cases ht
def xg0 : Sm := fun args H => match args, H with
 | [.c .port, .agg gc, .c (.int .i64 c), .c (.int .i64 t)], [] => (match xr gc with
   | some g => some (mkS ((Int × Bool)) (xfJ g c t) fun r => some (.tup [.c (.int .u64 r.1), .c (.bool r.2)], []))
   | _ => none)
 | _, _ => none
theorem xmK : Good Tryz.prog (xw ka8e) xd 0 (lsAt WU (lsAt jz .no [0, 1, 1, 0, 0]) [1, 0, 1, 0]) (Tryz.f275.body.getD .skip) (xC Tryz.f275.results.toList) := (xL (xo (by kernel_rfl)) (vu (p := [1, 0, 1, 0]) (q := [0, 1, 1, 0, 0]) (xo (fn := Tryz.f275) (by kernel_rfl)) xK xp5 (by kernel_rfl)) xp6)
theorem xp7 (hl : SoundL I ka8e) : SoundF I 275 xg0 := by
 refine sq hl xd Tryz.func275 fun args H t ht => ?_
 unfold xg0 at ht
 split at ht
 ·rename_i gc c t
  split at ht
  ·rename_i g hg
   obtain rfl := xi hg
   cases ht
   refine (xP (P := Tryz.prog) (n := xd) (x := (lsAt WU (lsAt jz .no [0, 1, 1, 0, 0]) [1, 0, 1, 0])) (fn := Tryz.f275) (H := []) (c := Tryz.f275.body.getD .skip) (xo (by kernel_rfl)) xmK).symm.trans ?_
   refine Eq.trans ?_ (xmI g c t _).symm
   kernel_rfl
  ·cases ht
 ·cases ht
def KF : Sm := fun args H => match args, H with
 | [.c .port, .agg gc], [] => (match xr gc with
   | some g => some (mkS (Unit) (qr g) fun r => some (.tup [], []))
   | _ => none)
 | _, _ => none
theorem xjU (hl : SoundL I ka8e) : SoundF I 276 KF := by
 refine sq hl 1 Tryz.func276 fun args H t ht => ?_
 unfold KF at ht
 split at ht
 ·rename_i gc
  split at ht
  ·rename_i g hg
   obtain rfl := xi hg
   cases ht
   refine Eq.trans ?_ (xgZ g _).symm
   kernel_rfl
  ·cases ht
 ·cases ht
def ka9 : List (Nat × Sm) := (238, xcO) :: (275, xg0) :: (276, KF) :: ka8e
theorem s_ka9 : SoundL I ka9 := (.cons (xmJ xgX) (.cons (xp7 xgX) (.cons (xjU xgX) xgX)))
end Go.Proofs.YtaegelbaghaooaaGreat.Lx
namespace Go.Proofs.YtaegelbaghaooaaGreat.Lx
open Go
set_option maxRecDepth 1000000
def WW {β : Type} (a0 a1 : Int) (b2 : Bool) (a3 : Int) (g5 : Geo) (κ0 : Unit -> T β) (κ1 : Unit -> T β) (i : Int) (k : Int -> T β) : T β :=
 bif i != 0 then ((Wl g5 i a1).bind fun r1 =>
 bif r1 then (κ0 ()) else
 .op (.load (atF g5 17 (inF (i64.wrap (i - 1)) 0 1))) fun x3 =>
 k (ofW i64 x3 0 24)) else
 κ1 ()
def jB {β : Type} (a0 a1 : Int) (b2 : Bool) (a3 : Int) (g5 : Geo) (a4 : Int) (κ0 : Unit -> T β) (κ1 : Unit -> T β) : T β := xz xd (WW a0 a1 b2 a3 g5 κ0 κ1) a4
theorem xeX {β γ : Type} (a0 a1 : Int) (b2 : Bool) (a3 : Int) (g5 : Geo) (a4 : Int) (κ0 : Unit -> T β) (κ1 : Unit -> T β) (κ : β -> T γ) : (jB a0 a1 b2 a3 g5 a4 κ0 κ1).bind κ = jB a0 a1 b2 a3 g5 a4 (fun u => (κ0 u).bind κ) (fun u => (κ1 u).bind κ) := by
 unfold jB
 refine xn κ (fun i k => ?_) _ _
 unfold WW
 first | rfl | (simp only [xa, xb, xe, xc, T.bind_assoc])
def xfK : Pat := ⟨xu 47 0 [(0, .c (.raw (.port))), (2, .c (.int .i64)), (3, .c (.int .u64)), (5, .c (.raw (.ptr 0 0))), (8, .c (.bool)), (9, .c (.int .i64)), (10, .c (.int .i64))], [some ⟨[.geo], 24, false, none⟩]⟩
def qs : Pat := ⟨xu 47 0 [(0, .c (.raw (.port))), (2, .c (.int .i64)), (3, .c (.int .u64)), (5, .c (.raw (.ptr 0 0))), (8, .c (.bool)), (9, .c (.int .i64))], [some ⟨[.geo], 24, false, none⟩]⟩
def WX : St -> (Ex -> St -> T R) -> Option (T R) := fun st K => match xx xfK st with
 | some [.i a0, .i a1, .b b2, .i a3, .i a4, .g g5] => some (jB a0 a1 b2 a3 g5 a4 (fun _ => K (.ret) (xf qs [.i a0, .i a1, .b true, .i a3, .g g5])) (fun _ => K (.exit 0) (xf qs [.i a0, .i a1, .b b2, .i a3, .g g5])))
 | _ => none
theorem xp8 : ∀ st K t, WX st K = some t -> xF xd (lf ka9 xd 0 .no [1, 1, 0, 1, 0] Tryz.f174 K) st = t := by
 intro st K t h
 unfold WX at h
 split at h
 ·rename_i a0 a1 b2 a3 a4 g5 hm
  cases h
  rw [xp hm]
  exact cast (by kernel_rfl) (xy (F := lf ka9 xd 0 .no [1, 1, 0, 1, 0] Tryz.f174 K) (S := fun i => xf xfK [.i a0, .i a1, .b b2, .i a3, .i i, .g g5]) (B := WW a0 a1 b2 a3 g5 (fun _ => K (.ret) (xf qs [.i a0, .i a1, .b true, .i a3, .g g5])) (fun _ => K (.exit 0) (xf qs [.i a0, .i a1, .b b2, .i a3, .g g5]))) (fun i k => by kernel_rfl) xd a4)
 ·cases h
def xg1 {β : Type} (g : Geo) (c it : Int) (κ : Bool -> T β) : T β :=
 .op (.self ) fun x0 =>
 .op (.load (atF g 13 (inF x0 c 4))) fun x1 =>
 jB (c) (it) (false) (ofW i64 x1 0 24) (g) (ofW i64 x1 0 24) (fun y2_0 =>
 κ (true)) (fun y2_0 =>
 (KE g c it (ofW i64 x1 0 24)).bind fun r3 =>
 κ r3)
def xfL (g : Geo) (c it : Int) : T Bool := xg1 g c it .ret
theorem xmL {β : Type} (g : Geo) (c it : Int) (κ : Bool -> T β) : (xfL g c it).bind κ = xg1 g c it κ := by
 unfold xfL xg1
 first | rfl | (simp only [xa, xb, xe, xc, T.bind_assoc, xeX])
def Xl {β : Type} (a0 a1 : Int) (b2 : Bool) (a3 a4 : Int) (g6 : Geo) (κ0 : Int -> T β) (κ1 : Unit -> T β) (i : Int) (k : Int -> T β) : T β :=
 bif decide (i < a4) then (.op (.self ) fun x1 =>
 bif bif g6.threads == 0 then false else true then ((xfJ g6 a0 (Int.tmod (i64.wrap (x1 + i)) g6.threads)).bind fun r3 =>
 bif r3.2 then ((qr g6).bind fun r5 =>
 κ0 (r3.1)) else
 k (i64.wrap (i + 1))) else
 .fail) else
 κ1 ()
def wX {β : Type} (a0 a1 : Int) (b2 : Bool) (a3 a4 : Int) (g6 : Geo) (a5 : Int) (κ0 : Int -> T β) (κ1 : Unit -> T β) : T β := xz xd (Xl a0 a1 b2 a3 a4 g6 κ0 κ1) a5
theorem xcP {β γ : Type} (a0 a1 : Int) (b2 : Bool) (a3 a4 : Int) (g6 : Geo) (a5 : Int) (κ0 : Int -> T β) (κ1 : Unit -> T β) (κ : β -> T γ) : (wX a0 a1 b2 a3 a4 g6 a5 κ0 κ1).bind κ = wX a0 a1 b2 a3 a4 g6 a5 (fun ae1 => (κ0 ae1).bind κ) (fun u => (κ1 u).bind κ) := by
 unfold wX
 refine xn κ (fun i k => ?_) _ _
 unfold Xl
 first | rfl | (simp only [xa, xb, xe, xc, T.bind_assoc])
def xcQ : Pat := ⟨xu 62 0 [(0, .c (.raw (.port))), (2, .c (.int .i64)), (4, .c (.raw (.ptr 0 0))), (6, .c (.int .u64)), (7, .c (.bool)), (8, .c (.int .u64)), (25, .c (.int .i64)), (26, .c (.int .i64))], [some ⟨[.geo], 24, false, none⟩]⟩
def kP : Pat := ⟨xu 62 0 [(0, .c (.raw (.port))), (2, .c (.int .i64)), (4, .c (.raw (.ptr 0 0))), (6, .c (.int .u64)), (7, .c (.bool)), (8, .c (.int .u64))], [some ⟨[.geo], 24, false, none⟩]⟩
def wY : St -> (Ex -> St -> T R) -> Option (T R) := fun st K => match xx xcQ st with
 | some [.i a0, .i a1, .b b2, .i a3, .i a4, .i a5, .g g6] => some (wX a0 a1 b2 a3 a4 g6 a5 (fun ae1 => K (.ret) (xf kP [.i a0, .i ae1, .b true, .i a3, .g g6])) (fun _ => K (.exit 2) (xf kP [.i a0, .i a1, .b b2, .i a3, .g g6])))
 | _ => none
theorem xmM : ∀ st K t, wY st K = some t -> xF xd (lf ka9 xd 0 .no [1, 1, 0, 0, 0, 1, 0, 1, 0] Tryz.f258 K) st = t := by
 intro st K t h
 unfold wY at h
 split at h
 ·rename_i a0 a1 b2 a3 a4 a5 g6 hm
  cases h
  rw [xp hm]
  exact cast (by kernel_rfl) (xy (F := lf ka9 xd 0 .no [1, 1, 0, 0, 0, 1, 0, 1, 0] Tryz.f258 K) (S := fun i => xf xcQ [.i a0, .i a1, .b b2, .i a3, .i a4, .i i, .g g6]) (B := Xl a0 a1 b2 a3 a4 g6 (fun ae1 => K (.ret) (xf kP [.i a0, .i ae1, .b true, .i a3, .g g6])) (fun _ => K (.exit 2) (xf kP [.i a0, .i a1, .b b2, .i a3, .g g6]))) (fun i k => by kernel_rfl) xd a5)
 ·cases h
def Xm {β : Type} (a0 a1 : Int) (b2 : Bool) (g3 : Geo) (κ0 : Int -> T β) (κ1 : Unit -> T β) (i : Unit) (k : Unit -> T β) : T β :=
 .op (.load (atF g3 5 a0)) fun x0 =>
 wX a0 a1 b2 x0 (g3.threads) g3 (0) (fun y1_0 =>
 κ0 y1_0) (fun y1_0 =>
 .op (.load (atF g3 5 a0)) fun x2 =>
 bif x2 == x0 then ((qr g3).bind fun r4 =>
 κ1 ()) else
 k ())
def wZ {β : Type} (a0 a1 : Int) (b2 : Bool) (g3 : Geo)  (κ0 : Int -> T β) (κ1 : Unit -> T β) : T β := xz xd (Xm a0 a1 b2 g3 κ0 κ1) ()
theorem xcR {β γ : Type} (a0 a1 : Int) (b2 : Bool) (g3 : Geo)  (κ0 : Int -> T β) (κ1 : Unit -> T β) (κ : β -> T γ) : (wZ a0 a1 b2 g3  κ0 κ1).bind κ = wZ a0 a1 b2 g3  (fun ae0 => (κ0 ae0).bind κ) (fun u => (κ1 u).bind κ) := by
 unfold wZ
 refine xn κ (fun i k => ?_) _ _
 unfold Xm
 first | rfl | (simp only [xa, xb, xe, xc, T.bind_assoc, xcP])
def xcS : Pat := ⟨xu 62 0 [(0, .c (.raw (.port))), (2, .c (.int .i64)), (4, .c (.raw (.ptr 0 0))), (6, .c (.int .u64)), (7, .c (.bool))], [some ⟨[.geo], 24, false, none⟩]⟩
def kQ : Pat := ⟨xu 62 0 [(6, .c (.int .u64)), (7, .c (.bool))], []⟩
def Xn : St -> (Ex -> St -> T R) -> Option (T R) := fun st K => match xx xcS st with
 | some [.i a0, .i a1, .b b2, .g g3] => some (wZ a0 a1 b2 g3  (fun ae0 => K (.ret) (xf kQ [.i ae0, .b true])) (fun _ => K (.ret) (xf kQ [.i 0, .b false])))
 | _ => none
theorem xmN : ∀ st K t, Xn st K = some t -> xF xd (lf ka9 xd 0 (lsAt wY .no [0, 1, 0, 1, 0]) [1, 1, 0] Tryz.f258 K) st = t := by
 intro st K t h
 unfold Xn at h
 split at h
 ·rename_i a0 a1 b2 g3 hm
  cases h
  rw [xp hm]
  exact cast (by kernel_rfl) (xy (F := lf ka9 xd 0 (lsAt wY .no [0, 1, 0, 1, 0]) [1, 1, 0] Tryz.f258 K) (S := fun i => xf xcS [.i a0, .i a1, .b b2, .g g3]) (B := Xm a0 a1 b2 g3 (fun ae0 => K (.ret) (xf kQ [.i ae0, .b true])) (fun _ => K (.ret) (xf kQ [.i 0, .b false]))) (fun i k => by kernel_rfl) xd ())
 ·cases h
def xbK {β : Type} (g : Geo) (c : Int) (κ : (Int × Bool) -> T β) : T β :=
 (Wk g c).bind fun r0 =>
 bif r0 then (κ ((0), (false))) else
 wZ (c) (0) (false) (g) (fun y2_0 =>
 κ (y2_0, (true))) (fun y2_0 =>
 κ ((0), (false)))
def qt (g : Geo) (c : Int) : T (Int × Bool) := xbK g c .ret
theorem xjV {β : Type} (g : Geo) (c : Int) (κ : (Int × Bool) -> T β) : (qt g c).bind κ = xbK g c κ := by
 unfold qt xbK
 first | rfl | (simp only [xa, xb, xe, xc, T.bind_assoc, xcR])
def xg2 : Sm := fun args H => match args, H with
 | [.c .port, .agg gc, .c (.int .i64 c), .c (.int .u64 it)], [] => (match xr gc with
   | some g => some (mkS (Bool) (xfL g c it) fun r => some (.c (.bool r), []))
   | _ => none)
 | _, _ => none
theorem xmO : Good Tryz.prog (xw ka9) xd 0 (lsAt WX .no [1, 1, 0, 1, 0]) (Tryz.f174.body.getD .skip) (xC Tryz.f174.results.toList) := xL (xo (by kernel_rfl)) xK xp8
variable {σ : Type} {I : Port Tryz.prog σ}
theorem xp9 (hl : SoundL I ka9) : SoundF I 174 xg2 := by
 refine sq hl xd Tryz.func174 fun args H t ht => ?_
 unfold xg2 at ht
 split at ht
 ·rename_i gc c it
  split at ht
  ·rename_i g hg
   obtain rfl := xi hg
   cases ht
   refine (xP (P := Tryz.prog) (n := xd) (x := (lsAt WX .no [1, 1, 0, 1, 0])) (fn := Tryz.f174) (H := []) (c := Tryz.f174.body.getD .skip) (xo (by kernel_rfl)) xmO).symm.trans ?_
   refine Eq.trans ?_ (xmL g c it _).symm
   kernel_rfl
  ·cases ht
 ·cases ht
def xcT : Sm := fun args H => match args, H with
 | [.c .port, .agg gc, .c (.int .i64 c)], [] => (match xr gc with
   | some g => some (mkS ((Int × Bool)) (qt g c) fun r => some (.tup [.c (.int .u64 r.1), .c (.bool r.2)], []))
   | _ => none)
 | _, _ => none
theorem xjW : Good Tryz.prog (xw ka9) xd 0 (lsAt Xn (lsAt wY .no [0, 1, 0, 1, 0]) [1, 1, 0]) (Tryz.f258.body.getD .skip) (xC Tryz.f258.results.toList) := xL (xo (by kernel_rfl)) (vu (p := [1, 1, 0]) (q := [0, 1, 0, 1, 0]) (xo (fn := Tryz.f258) (by kernel_rfl)) xK xmM (by kernel_rfl)) xmN
theorem xmP (hl : SoundL I ka9) : SoundF I 258 xcT := by
 refine sq hl xd Tryz.func258 fun args H t ht => ?_
 unfold xcT at ht
 split at ht
 ·rename_i gc c
  split at ht
  ·rename_i g hg
   obtain rfl := xi hg
   cases ht
   refine (xP (P := Tryz.prog) (n := xd) (x := (lsAt Xn (lsAt wY .no [0, 1, 0, 1, 0]) [1, 1, 0])) (fn := Tryz.f258) (H := []) (c := Tryz.f258.body.getD .skip) (xo (by kernel_rfl)) xjW).symm.trans ?_
   refine Eq.trans ?_ (xjV g c _).symm
   kernel_rfl
  ·cases ht
 ·cases ht
def ka10 : List (Nat × Sm) := (174, xg2) :: (258, xcT) :: ka9
theorem xg3 : SoundL I ka10 := (.cons (xp9 s_ka9) (.cons (xmP s_ka9) s_ka9))
end Go.Proofs.YtaegelbaghaooaaGreat.Lx
namespace Go.Proofs.YtaegelbaghaooaaGreat.Lx
open Go
set_option maxRecDepth 1000000
def xg4 {β : Type} (g : Geo) (c it : Int) (κ : Bool -> T β) : T β :=
 (Wk g c).bind fun r0 =>
 bif r0 then (κ (false)) else
 bif it == 0 then (κ (false)) else
 (xfL g c it).bind fun r3 =>
 bif !r3 then (κ (false)) else
 .op (.add (atF g 5 c) (1)) fun x5 =>
 κ (true)
def xfM (g : Geo) (c it : Int) : T Bool := xg4 g c it .ret
theorem xmQ {β : Type} (g : Geo) (c it : Int) (κ : Bool -> T β) : (xfM g c it).bind κ = xg4 g c it κ := by
 unfold xfM xg4
 first | rfl | (simp only [xa, xb, xe, xc, T.bind_assoc])
def WY {β : Type} (g : Geo) (o c : Int) (κ : (Fnd × Int) -> T β) : T β :=
 (qt g c).bind fun r0 =>
 κ (⟨(i64.wrap (i64.wrap r0.1 - 1)), (r0.2), (0)⟩, (o))
def WZ (g : Geo) (o c : Int) : T (Fnd × Int) := WY g o c .ret
theorem xg5 {β : Type} (g : Geo) (o c : Int) (κ : (Fnd × Int) -> T β) : (WZ g o c).bind κ = WY g o c κ := by
 unfold WZ WY
 first | rfl | (simp only [xa, xb, xe, xc, T.bind_assoc])
def Va {β : Type} (a0 a3 : Int) (g4 : Geo) (κ0 : Int -> T β) (i : Int × Bool × Int) (k : Int × Bool × Int -> T β) : T β :=
 bif i.2.1 then ((xl g4 i.2.2 (i64.wrap (i64.wrap i.1 - 1))).bind fun r1 =>
 (qt g4 a0).bind fun r2 =>
 k (r2.1, r2.2, r1.2)) else
 κ0 (i.2.2)
def jC {β : Type} (a0 a3 : Int) (g4 : Geo) (a1 : Int) (b2 : Bool) (a5 : Int) (κ0 : Int -> T β) : T β := xz xd (Va a0 a3 g4 κ0) (a1, b2, a5)
theorem xeY {β γ : Type} (a0 a3 : Int) (g4 : Geo) (a1 : Int) (b2 : Bool) (a5 : Int) (κ0 : Int -> T β) (κ : β -> T γ) : (jC a0 a3 g4 a1 b2 a5 κ0).bind κ = jC a0 a3 g4 a1 b2 a5 (fun ae2 => (κ0 ae2).bind κ) := by
 unfold jC
 refine xn κ (fun i k => ?_) _ _
 unfold Va
 first | rfl | (simp only [xa, xb, xe, xc, T.bind_assoc])
def xfN : Pat := ⟨xu 40 0 [(0, .c (.raw (.ptr 0 0))), (2, .c (.int .i64)), (3, .c (.int .u64)), (4, .c (.bool)), (5, .c (.int .i64))], [some ⟨[.raw (.port), .geo, .int .u64], 150, false, none⟩]⟩
def qu : Pat := ⟨xu 40 0 [(0, .c (.raw (.ptr 0 0))), (5, .c (.int .i64))], [some ⟨[.raw (.port), .geo, .int .u64], 150, false, none⟩]⟩
def jD : St -> (Ex -> St -> T R) -> Option (T R) := fun st K => match xx xfN st with
 | some [.i a0, .i a1, .b b2, .i a3, .g g4, .i a5] => some (jC a0 a3 g4 a1 b2 a5 (fun ae2 => K (.exit 2) (xf qu [.i a3, .g g4, .i ae2])))
 | _ => none
theorem xqa : ∀ st K t, jD st K = some t -> xF xd (lf ka10 xd 1 .no [1, 0, 0, 1, 1, 0, 0, 1, 1, 0] Tryz.f241 K) st = t := by
 intro st K t h
 unfold jD at h
 split at h
 ·rename_i a0 a1 b2 a3 g4 a5 hm
  cases h
  rw [xp hm]
  exact cast (by kernel_rfl) (xy (F := lf ka10 xd 1 .no [1, 0, 0, 1, 1, 0, 0, 1, 1, 0] Tryz.f241 K) (S := fun i => xf xfN [.i a0, .i (i.1), .b (i.2.1), .i a3, .g g4, .i (i.2.2)]) (B := Va a0 a3 g4 (fun ae2 => K (.exit 2) (xf qu [.i a3, .g g4, .i ae2]))) (fun i k => by kernel_rfl) xd (a1, b2, a5))
 ·cases h
def Vb {β : Type} (g1 : Geo) (κ0 : Int -> T β) (i : Int × Int) (k : Int × Int -> T β) : T β :=
 bif decide (i.1 < 4) then ((qt g1 i.1).bind fun r1 =>
 jC (i.1) (i.1) g1 (r1.1) (r1.2) (i.2) (fun y2_0 =>
 k (i64.wrap (i.1 + 1), y2_0))) else
 κ0 (i.2)
def jE {β : Type} (g1 : Geo) (a0 a2 : Int) (κ0 : Int -> T β) : T β := xz xd (Vb g1 κ0) (a0, a2)
theorem xeZ {β γ : Type} (g1 : Geo) (a0 a2 : Int) (κ0 : Int -> T β) (κ : β -> T γ) : (jE g1 a0 a2 κ0).bind κ = jE g1 a0 a2 (fun ae1 => (κ0 ae1).bind κ) := by
 unfold jE
 refine xn κ (fun i k => ?_) _ _
 unfold Vb
 first | rfl | (simp only [xa, xb, xe, xc, T.bind_assoc, xeY])
def xcU : Pat := ⟨xu 40 0 [], [some ⟨[.raw (.port), .geo, .int .u64], 150, false, none⟩]⟩
def Vc : St -> (Ex -> St -> T R) -> Option (T R) := fun st K => match xx qu st with
 | some [.i a0, .g g1, .i a2] => some (jE g1 a0 a2 (fun ae1 => K (.exit 0) (xf xcU [.g g1, .i ae1])))
 | _ => none
theorem xqb : ∀ st K t, Vc st K = some t -> xF xd (lf ka10 xd 1 (lsAt jD .no [1, 1, 0, 0, 1, 1, 0]) [1, 0] Tryz.f241 K) st = t := by
 intro st K t h
 unfold Vc at h
 split at h
 ·rename_i a0 g1 a2 hm
  cases h
  rw [xp hm]
  exact cast (by kernel_rfl) (xy (F := lf ka10 xd 1 (lsAt jD .no [1, 1, 0, 0, 1, 1, 0]) [1, 0] Tryz.f241 K) (S := fun i => xf qu [.i (i.1), .g g1, .i (i.2)]) (B := Vb g1 (fun ae1 => K (.exit 0) (xf xcU [.g g1, .i ae1]))) (fun i k => by kernel_rfl) xd (a0, a2))
 ·cases h
def xg6 {β : Type} (g : Geo) (o : Int) (κ : (Unit × Int) -> T β) : T β :=
 jE (g) (0) (o) (fun y0_0 =>
 κ ((), y0_0))
def xfO (g : Geo) (o : Int) : T (Unit × Int) := xg6 g o .ret
theorem xmR {β : Type} (g : Geo) (o : Int) (κ : (Unit × Int) -> T β) : (xfO g o).bind κ = xg6 g o κ := by
 unfold xfO xg6
 first | rfl | (simp only [xa, xb, xe, xc, T.bind_assoc, xeZ])
def xg7 : Sm := fun args H => match args, H with
 | [.c .port, .agg gc, .c (.int .i64 c), .c (.int .u64 it)], [] => (match xr gc with
   | some g => some (mkS (Bool) (xfM g c it) fun r => some (.c (.bool r), []))
   | _ => none)
 | _, _ => none
variable {σ : Type} {I : Port Tryz.prog σ}
theorem xqc (hl : SoundL I ka10) : SoundF I 90 xg7 := by
 refine sq hl 1 Tryz.func90 fun args H t ht => ?_
 unfold xg7 at ht
 split at ht
 ·rename_i gc c it
  split at ht
  ·rename_i g hg
   obtain rfl := xi hg
   cases ht
   refine Eq.trans ?_ (xmQ g c it _).symm
   kernel_rfl
  ·cases ht
 ·cases ht
def KG : Sm := fun args H => match args, H with
 | [.c (.ptr 0 0), .c (.int .i64 c)], [some ⟨.port :: gc, 150, false, none⟩] => (match hdOf gc with
   | some (g, o) => some (mkS ((Fnd × Int)) (WZ g o c) fun r => some (.agg r.1.cells, [some ⟨.port :: (g.cells ++ [.int .u64 r.2]), 150, false, none⟩]))
   | _ => none)
 | _, _ => none
theorem xjX (hl : SoundL I ka10) : SoundF I 225 KG := by
 refine sq hl 1 Tryz.func225 fun args H t ht => ?_
 unfold KG at ht
 split at ht
 ·rename_i c gc
  split at ht
  ·rename_i g o hg
   obtain rfl := yz hg
   cases ht
   refine Eq.trans ?_ (xg5 g o c _).symm
   kernel_rfl
  ·cases ht
 ·cases ht
def xg8 : Sm := fun args H => match args, H with
 | [.c (.ptr 0 0)], [some ⟨.port :: gc, 150, false, none⟩] => (match hdOf gc with
   | some (g, o) => some (mkS ((Unit × Int)) (xfO g o) fun r => some (.tup [], [some ⟨.port :: (g.cells ++ [.int .u64 r.2]), 150, false, none⟩]))
   | _ => none)
 | _, _ => none
theorem xmS : Good Tryz.prog (xw ka10) xd 1 (lsAt Vc (lsAt jD .no [1, 1, 0, 0, 1, 1, 0]) [1, 0]) (Tryz.f241.body.getD .skip) (xC Tryz.f241.results.toList) := xL (xo (by kernel_rfl)) (vu (p := [1, 0]) (q := [1, 1, 0, 0, 1, 1, 0]) (xo (fn := Tryz.f241) (by kernel_rfl)) xK xqa (by kernel_rfl)) xqb
theorem xqd (hl : SoundL I ka10) : SoundF I 241 xg8 := by
 refine sq hl xd Tryz.func241 fun args H t ht => ?_
 unfold xg8 at ht
 split at ht
 ·rename_i gc
  split at ht
  ·rename_i g o hg
   obtain rfl := yz hg
   cases ht
   refine (xP (P := Tryz.prog) (n := xd) (x := (lsAt Vc (lsAt jD .no [1, 1, 0, 0, 1, 1, 0]) [1, 0])) (fn := Tryz.f241) (H := [some ⟨.port :: (g.cells ++ [.int .u64 o]), 150, false, none⟩]) (c := Tryz.f241.body.getD .skip) (xo (by kernel_rfl)) xmS).symm.trans ?_
   refine Eq.trans ?_ (xmR g o _).symm
   kernel_rfl
  ·cases ht
 ·cases ht
def ka11 : List (Nat × Sm) := (90, xg7) :: (225, KG) :: (241, xg8) :: ka10
theorem xg9 : SoundL I ka11 := (.cons (xqc xg3) (.cons (xjX xg3) (.cons (xqd xg3) xg3)))
end Go.Proofs.YtaegelbaghaooaaGreat.Lx
namespace Go.Proofs.YtaegelbaghaooaaGreat.Lx
open Go
set_option maxRecDepth 1000000
def xbL {β : Type} (g : Geo) (o : Int) (κ : (Bool × Int) -> T β) : T β :=
 (Yn g o).bind fun r0 =>
 (xfO g r0.2).bind fun r1 =>
 (qe g r1.2).bind fun r2 =>
 (tryT g).bind fun r3 =>
 bif !r3 then (κ ((false), (r2.2))) else
 (vq g).bind fun r5 =>
 (yJ g r2.2 r5).bind fun r6 =>
 (qf g r6.2).bind fun r7 =>
 (ZW g).bind fun r8 =>
 κ ((true), (r7.2))
def Zv (g : Geo) (o : Int) : T (Bool × Int) := xbL g o .ret
theorem xjY {β : Type} (g : Geo) (o : Int) (κ : (Bool × Int) -> T β) : (Zv g o).bind κ = xbL g o κ := by
 unfold Zv xbL
 first | rfl | (simp only [xa, xb, xe, xc, T.bind_assoc])
def Xo {β : Type} (g : Geo) (k : Int) (κ : Unit -> T β) : T β :=
 (qP g).bind fun r0 =>
 bif r0 then (κ ()) else
 bif atF g 11 k == (-1) then (κ ()) else
 (wx g k).bind fun r3 =>
 bif r3.kind == 4 then ((markT g (i64.wrap (Int.tdiv k 8)) r3.len).bind fun r5 =>
 bif r5 then ((yJ g 0 1).bind fun r7 =>
 (qg g r7.2).bind fun r8 =>
 κ ()) else
 κ ()) else
 bif r3.kind != 3 then (κ ()) else
 .op (.self ) fun x6 =>
 bif r3.owner != x6 then ((xgG g k).bind fun r8 =>
 (yJ g 0 1).bind fun r9 =>
 κ ()) else
 (xgC g r3.cls (u64.wrap (u64.wrap k + 1))).bind fun r8 =>
 bif r8 then ((yJ g 0 1).bind fun r10 =>
 κ ()) else
 (xfM g r3.cls (u64.wrap (u64.wrap k + 1))).bind fun r10 =>
 bif r10 then ((yJ g 0 1).bind fun r12 =>
 κ ()) else
 (Wt g k).bind fun r12 =>
 (yJ g 0 1).bind fun r13 =>
 κ ()
def vL (g : Geo) (k : Int) : T Unit := Xo g k .ret
theorem xe0 {β : Type} (g : Geo) (k : Int) (κ : Unit -> T β) : (vL g k).bind κ = Xo g k κ := by
 unfold vL Xo
 first | rfl | (simp only [xa, xb, xe, xc, T.bind_assoc])
def xcV : Sm := fun args H => match args, H with
 | [.c (.ptr 0 0)], [some ⟨.port :: gc, 150, false, none⟩] => (match hdOf gc with
   | some (g, o) => some (mkS ((Bool × Int)) (Zv g o) fun r => some (.c (.bool r.1), [some ⟨.port :: (g.cells ++ [.int .u64 r.2]), 150, false, none⟩]))
   | _ => none)
 | _, _ => none
variable {σ : Type} {I : Port Tryz.prog σ}
theorem xmT (hl : SoundL I ka11) : SoundF I 179 xcV := by
 refine sq hl 1 Tryz.func179 fun args H t ht => ?_
 unfold xcV at ht
 split at ht
 ·rename_i gc
  split at ht
  ·rename_i g o hg
   obtain rfl := yz hg
   cases ht
   refine Eq.trans ?_ (xjY g o _).symm
   kernel_rfl
  ·cases ht
 ·cases ht
def qv : Sm := fun args H => match args, H with
 | [.c .port, .agg gc, .c (.int .i64 k)], [] => (match xr gc with
   | some g => some (mkS (Unit) (vL g k) fun r => some (.tup [], []))
   | _ => none)
 | _, _ => none
theorem Vd (hl : SoundL I ka11) : SoundF I 27 qv := by
 refine sq hl 1 Tryz.func27 fun args H t ht => ?_
 unfold qv at ht
 split at ht
 ·rename_i gc k
  split at ht
  ·rename_i g hg
   obtain rfl := xi hg
   cases ht
   refine Eq.trans ?_ (xe0 g k _).symm
   kernel_rfl
  ·cases ht
 ·cases ht
def ka12 : List (Nat × Sm) := (179, xcV) :: (27, qv) :: ka11
theorem xmU : SoundL I ka12 := (.cons (xmT xg9) (.cons (Vd xg9) xg9))
end Go.Proofs.YtaegelbaghaooaaGreat.Lx
namespace Go.Proofs.YtaegelbaghaooaaGreat.Lx
open Go
set_option maxRecDepth 1000000
def Ve {β : Type} (g : Geo) (o c : Int) (κ : (Fnd × Int) -> T β) : T β :=
 (Yb g o c).bind fun r0 =>
 bif r0.1.ok then (κ (⟨(r0.1.grain), (r0.1.ok), (r0.1.e)⟩, (r0.2))) else
 bif r0.1.e != 0 then (κ (⟨(r0.1.grain), (r0.1.ok), (r0.1.e)⟩, (r0.2))) else
 (WZ g r0.2 c).bind fun r3 =>
 bif r3.1.ok then (κ (⟨(r3.1.grain), (r3.1.ok), (r3.1.e)⟩, (r3.2))) else
 bif r3.1.e != 0 then (κ (⟨(r3.1.grain), (r3.1.ok), (r3.1.e)⟩, (r3.2))) else
 (Yk g r3.2 c).bind fun r6 =>
 bif r6.1.ok then (κ (⟨(r6.1.grain), (r6.1.ok), (r6.1.e)⟩, (r6.2))) else
 bif r6.1.e != 0 then (κ (⟨(r6.1.grain), (r6.1.ok), (r6.1.e)⟩, (r6.2))) else
 (Wx g r6.2 c).bind fun r9 =>
 bif r9.1.ok then (κ (⟨(r9.1.grain), (r9.1.ok), (r9.1.e)⟩, (r9.2))) else
 bif r9.1.e != 0 then (κ (⟨(r9.1.grain), (r9.1.ok), (r9.1.e)⟩, (r9.2))) else
 (Wy g r9.2 c).bind fun r12 =>
 bif r12.1.ok then (κ (⟨(r12.1.grain), (r12.1.ok), (r12.1.e)⟩, (r12.2))) else
 bif r12.1.e != 0 then (κ (⟨(r12.1.grain), (r12.1.ok), (r12.1.e)⟩, (r12.2))) else
 κ (⟨(0), (false), (0)⟩, (r12.2))
def Xp (g : Geo) (o c : Int) : T (Fnd × Int) := Ve g o c .ret
theorem xha {β : Type} (g : Geo) (o c : Int) (κ : (Fnd × Int) -> T β) : (Xp g o c).bind κ = Ve g o c κ := by
 unfold Xp Ve
 first | rfl | (simp only [xa, xb, xe, xc, T.bind_assoc])
def Xq {β : Type} (g : Geo) (o c : Int) (κ : (Fnd × Int) -> T β) : T β :=
 (Wx g o c).bind fun r0 =>
 bif r0.1.ok then (κ (⟨(r0.1.grain), (r0.1.ok), (r0.1.e)⟩, (r0.2))) else
 bif r0.1.e != 0 then (κ (⟨(r0.1.grain), (r0.1.ok), (r0.1.e)⟩, (r0.2))) else
 (Wy g r0.2 c).bind fun r3 =>
 bif r3.1.ok then (κ (⟨(r3.1.grain), (r3.1.ok), (r3.1.e)⟩, (r3.2))) else
 bif r3.1.e != 0 then (κ (⟨(r3.1.grain), (r3.1.ok), (r3.1.e)⟩, (r3.2))) else
 κ (⟨(0), (false), (0)⟩, (r3.2))
def jF (g : Geo) (o c : Int) : T (Fnd × Int) := Xq g o c .ret
theorem xe1 {β : Type} (g : Geo) (o c : Int) (κ : (Fnd × Int) -> T β) : (jF g o c).bind κ = Xq g o c κ := by
 unfold jF Xq
 first | rfl | (simp only [xa, xb, xe, xc, T.bind_assoc])
def KH : Sm := fun args H => match args, H with
 | [.c (.ptr 0 0), .c (.int .i64 c), .c (.sl 1 0 5 5)], [some ⟨.port :: gc, 150, false, none⟩, some ⟨[.fn 224 [], .fn 225 [], .fn 226 [], .fn 227 [], .fn 228 []], 215, false, none⟩] => (match hdOf gc with
   | some (g, o) => some (mkS ((Fnd × Int)) (Xp g o c) fun r => some (.agg r.1.cells, [some ⟨.port :: (g.cells ++ [.int .u64 r.2]), 150, false, none⟩, some ⟨[.fn 224 [], .fn 225 [], .fn 226 [], .fn 227 [], .fn 228 []], 215, false, none⟩]))
   | _ => none)
 | _, _ => none
variable {σ : Type} {I : Port Tryz.prog σ}
theorem xjZ (hl : SoundL I ka12) : SoundF I 158 KH := by
 refine sq hl 7 Tryz.func158 fun args H t ht => ?_
 unfold KH at ht
 split at ht
 ·rename_i c gc
  split at ht
  ·rename_i g o hg
   obtain rfl := yz hg
   cases ht
   refine Eq.trans ?_ (xha g o c _).symm
   kernel_rfl
  ·cases ht
 ·cases ht
def YL : Sm := fun args H => match args, H with
 | [.c (.ptr 0 0), .c (.int .i64 c), .c (.sl 1 0 2 2)], [some ⟨.port :: gc, 150, false, none⟩, some ⟨[.fn 227 [], .fn 228 []], 217, false, none⟩] => (match hdOf gc with
   | some (g, o) => some (mkS ((Fnd × Int)) (jF g o c) fun r => some (.agg r.1.cells, [some ⟨.port :: (g.cells ++ [.int .u64 r.2]), 150, false, none⟩, some ⟨[.fn 227 [], .fn 228 []], 217, false, none⟩]))
   | _ => none)
 | _, _ => none
theorem xhb (hl : SoundL I ka12) : SoundF I 158 YL := by
 refine sq hl 7 Tryz.func158 fun args H t ht => ?_
 unfold YL at ht
 split at ht
 ·rename_i c gc
  split at ht
  ·rename_i g o hg
   obtain rfl := yz hg
   cases ht
   refine Eq.trans ?_ (xe1 g o c _).symm
   kernel_rfl
  ·cases ht
 ·cases ht
def xfP : List (Nat × Sm) := (158, (orSm KH YL)) :: ka12
theorem Vf : SoundL I xfP := (.cons (SoundF.or (xjZ xmU) (xhb xmU)) xmU)
end Go.Proofs.YtaegelbaghaooaaGreat.Lx
