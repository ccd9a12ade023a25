/- Summaries: bag. (trees printed by program, wip/auto.py) -/
import Derived.Test.YtaegelbaghaooaaGreatAyQA8
import Derived.WalkKit
set_option linter.unusedSimpArgs false
set_option linter.unusedVariables false
set_option linter.unusedSectionVars false
namespace Go.Proofs.YtaegelbaghaooaaGreat.Lx
open Go
set_option maxRecDepth 1000000

def xcn {β : Type} (g : Geo) (c it fi : Int) (κ : Bool → T β) : T β :=
 (acqT g).bind fun r0 =>
 bif r0 == 0 then (κ (false)) else
 .op (.store (atF g 18 (inF (IntKind.i64.wrap (r0 - 1)) 0 8)) (it)) fun _ =>
 .op (.store (atF g 18 (inF (IntKind.i64.wrap (r0 - 1)) 1 8)) (0)) fun _ =>
 .op (.store (atF g 18 (inF (IntKind.i64.wrap (r0 - 1)) 2 8)) (0)) fun _ =>
 .op (.store (atF g 18 (inF (IntKind.i64.wrap (r0 - 1)) 3 8)) (0)) fun _ =>
 .op (.store (atF g 18 (inF (IntKind.i64.wrap (r0 - 1)) 4 8)) (0)) fun _ =>
 .op (.store (atF g 18 (inF (IntKind.i64.wrap (r0 - 1)) 5 8)) (0)) fun _ =>
 .op (.store (atF g 18 (inF (IntKind.i64.wrap (r0 - 1)) 6 8)) (0)) fun _ =>
 .op (.store (atF g 18 (inF (IntKind.i64.wrap (r0 - 1)) 7 8)) (0)) fun _ =>
 .op (.store (atF g 17 (inF (IntKind.i64.wrap (r0 - 1)) 0 1)) (Ref.word (Ref.mk fi false 0))) fun _ =>
 .op (.self ) fun x11 =>
 .op (.store (atF g 13 (inF x11 c 4)) (Ref.word (Ref.mk r0 false 0))) fun _ =>
 κ (true)
def xaT (g : Geo) (c it fi : Int) : T Bool := xcn g c it fi .ret
theorem xlM {β : Type} (g : Geo) (c it fi : Int) (κ : Bool → T β) : (xaT g c it fi).bind κ = xcn g c it fi κ := by
 unfold xaT xcn
 first | rfl | (simp only [xa, xb, xe, xc, T.bind_assoc])
def Kt {β : Type} (a0 a1 a2 : Int) (b3 : Bool) (g5 : Geo) (κ0 : Int → T β) (κ1 : Unit → T β) (κ2 : Unit → T β) (i : Int × Int × Bool × Int) (k : Int × Int × Bool × Int → T β) : T β :=
 bif i.2.1 != 0 then ((kJ g5 i.2.1).bind fun r1 =>
 bif r1.2 then (κ0 (r1.1)) else
 (xbx g5 (IntKind.i64.wrap (1 - i.1))   (atF g5 17 (inF (IntKind.i64.wrap (i.2.1 - 1)) 0 1))).bind fun r3 =>
 bif r3.mark then (κ1 ()) else
 k (IntKind.i64.wrap (1 - i.1), r3.1, r3.mark, r3.ver)) else
 κ2 ()
def qe {β : Type} (a0 a1 a2 : Int) (b3 : Bool) (g5 : Geo) (a4 a6 : Int) (b7 : Bool) (a8 : Int) (κ0 : Int → T β) (κ1 : Unit → T β) (κ2 : Unit → T β) : T β := xA xd (Kt a0 a1 a2 b3 g5 κ0 κ1 κ2) (a4, a6, b7, a8)
theorem xfv {β γ : Type} (a0 a1 a2 : Int) (b3 : Bool) (g5 : Geo) (a4 a6 : Int) (b7 : Bool) (a8 : Int) (κ0 : Int → T β) (κ1 : Unit → T β) (κ2 : Unit → T β) (κ : β → T γ) : (qe a0 a1 a2 b3 g5 a4 a6 b7 a8 κ0 κ1 κ2).bind κ = qe a0 a1 a2 b3 g5 a4 a6 b7 a8 (fun ae2 => (κ0 ae2).bind κ) (fun u => (κ1 u).bind κ) (fun u => (κ2 u).bind κ) := by
 unfold qe
 refine xp κ (fun i k => ?_) _ _
 unfold Kt
 first | rfl | (simp only [xa, xb, xe, xc, T.bind_assoc])
def xgK : Pat := ⟨xr 47 0 [(0, .c (.raw (.port))), (2, .c (.int .i64)), (3, .c (.int .i64)), (5, .c (.raw (.ptr 0 0))), (8, .c (.int .u64)), (9, .c (.bool)), (10, .c (.int .i64)), (11, .c (.raw (.ptr 1 0)))], [some ⟨[.geo], 24, false, none⟩, some ⟨[.int .i64, .bool, .int .u32], 162, false, none⟩]⟩
def vo : Pat := ⟨xr 47 0 [(0, .c (.raw (.port))), (2, .c (.int .i64)), (3, .c (.int .i64)), (5, .c (.raw (.ptr 0 0))), (8, .c (.int .u64)), (9, .c (.bool))], [some ⟨[.geo], 24, false, none⟩]⟩
def qf : St → (Ex → St → T R) → Option (T R) := fun st K => match xy xgK st with
 | some [.i a0, .i a1, .i a2, .b b3, .i a4, .g g5, .i a6, .b b7, .i a8] => some (qe a0 a1 a2 b3 g5 a4 a6 b7 a8 (fun ae2 => K (.ret) (xf vo [.i a0, .i a1, .i ae2, .b true, .g g5])) (fun _ => K (.exit 1) (xf vo [.i a0, .i a1, .i a2, .b b3, .g g5])) (fun _ => K (.exit 2) (xf vo [.i a0, .i a1, .i a2, .b b3, .g g5])))
 | _ => none
theorem xrM : ∀ st K t, qf st K = some t → xK xd (lf ka8 xd 0 .no [1, 0, 1, 0, 0, 0, 1, 1, 0, 0] Tryz.f275 K) st = t := by
 intro st K t h
 unfold qf at h
 split at h
 ·rename_i a0 a1 a2 b3 a4 g5 a6 b7 a8 hm
  cases h
  rw [xn hm]
  exact cast (by kernel_rfl) (xB (F := lf ka8 xd 0 .no [1, 0, 1, 0, 0, 0, 1, 1, 0, 0] Tryz.f275 K) (S := fun i => xf xgK [.i a0, .i a1, .i a2, .b b3, .i (i.1), .g g5, .i (i.2.1), .b (i.2.2.1), .i (i.2.2.2)]) (B := Kt a0 a1 a2 b3 g5 (fun ae2 => K (.ret) (xf vo [.i a0, .i a1, .i ae2, .b true, .g g5])) (fun _ => K (.exit 1) (xf vo [.i a0, .i a1, .i a2, .b b3, .g g5])) (fun _ => K (.exit 2) (xf vo [.i a0, .i a1, .i a2, .b b3, .g g5]))) (fun i k => by kernel_rfl) xd (a4, a6, b7, a8))
 ·cases h
def Ku {β : Type} (a0 a1 a2 : Int) (b3 : Bool) (g4 : Geo) (κ0 : Int → T β) (κ1 : Unit → T β) (i : Unit) (k : Unit → T β) : T β :=
 (xbx g4 0 (atF g4 13 (inF a1 a0 4))).bind fun r0 =>
 qe (a0) (a1) (a2) (b3) (g4) (0) (r0.1) (r0.mark) (r0.ver) (fun y1_0 =>
 κ0 (y1_0)) (fun y1_0 =>
 k ()) (fun y1_0 =>
 κ1 ())
def qg {β : Type} (a0 a1 a2 : Int) (b3 : Bool) (g4 : Geo)  (κ0 : Int → T β) (κ1 : Unit → T β) : T β := xA xd (Ku a0 a1 a2 b3 g4 κ0 κ1) ()
theorem xfw {β γ : Type} (a0 a1 a2 : Int) (b3 : Bool) (g4 : Geo)  (κ0 : Int → T β) (κ1 : Unit → T β) (κ : β → T γ) : (qg a0 a1 a2 b3 g4  κ0 κ1).bind κ = qg a0 a1 a2 b3 g4  (fun ae0 => (κ0 ae0).bind κ) (fun u => (κ1 u).bind κ) := by
 unfold qg
 refine xp κ (fun i k => ?_) _ _
 unfold Ku
 first | rfl | (simp only [xa, xb, xe, xc, T.bind_assoc, xfv])
def Zf : Pat := ⟨xr 47 0 [(8, .c (.int .u64)), (9, .c (.bool))], []⟩
def Kv : St → (Ex → St → T R) → Option (T R) := fun st K => match xy vo st with
 | some [.i a0, .i a1, .i a2, .b b3, .g g4] => some (qg a0 a1 a2 b3 g4  (fun ae0 => K (.ret) (xf Zf [.i ae0, .b true])) (fun _ => K (.ret) (xf Zf [.i 0, .b false])))
 | _ => none
theorem xrN : ∀ st K t, Kv st K = some t → xK xd (lf ka8 xd 0 (lsAt qf .no [0, 1, 1, 0, 0]) [1, 0, 1, 0] Tryz.f275 K) st = t := by
 intro st K t h
 unfold Kv at h
 split at h
 ·rename_i a0 a1 a2 b3 g4 hm
  cases h
  rw [xn hm]
  exact cast (by kernel_rfl) (xB (F := lf ka8 xd 0 (lsAt qf .no [0, 1, 1, 0, 0]) [1, 0, 1, 0] Tryz.f275 K) (S := fun i => xf vo [.i a0, .i a1, .i a2, .b b3, .g g4]) (B := Ku a0 a1 a2 b3 g4 (fun ae0 => K (.ret) (xf Zf [.i ae0, .b true])) (fun _ => K (.ret) (xf Zf [.i 0, .b false]))) (fun i k => by kernel_rfl) xd ())
 ·cases h
def xjb {β : Type} (g : Geo) (c t : Int) (κ : (Int × Bool) → T β) : T β :=
 qg (c) (t) (0) (false) (g) (fun y0_0 =>
 κ ((y0_0), (true))) (fun y0_0 =>
 κ ((0), (false)))
def xgL (g : Geo) (c t : Int) : T (Int × Bool) := xjb g c t .ret
theorem xoA {β : Type} (g : Geo) (c t : Int) (κ : (Int × Bool) → T β) : (xgL g c t).bind κ = xjb g c t κ := by
 unfold xgL xjb
 first | rfl | (simp only [xa, xb, xe, xc, T.bind_assoc, xfw])
def Kw {β : Type} (g : Geo) (κ : Unit → T β) : T β :=
 (Wy g 0).bind fun r0 =>
 (Wy g 1).bind fun r1 =>
 κ ()
def Zg (g : Geo) : T Unit := Kw g .ret
theorem xjc {β : Type} (g : Geo) (κ : Unit → T β) : (Zg g).bind κ = Kw g κ := by
 unfold Zg Kw
 first | rfl | (simp only [xa, xb, xe, xc, T.bind_assoc])
def xeB : Sm := fun args H => match args, H with
 | [.c .port, .agg gc, .c (.int .i64 c), .c (.int .u64 it), .c (.int .i64 fi)], [] => (match xu gc with
   | some g => some (mkS (Bool) (xaT g c it fi) fun r => some (.c (.bool r), []))
   | _ => none)
 | _, _ => none
variable {σ : Type} {I : Port Tryz.prog σ}
theorem xoB (hl : SoundL I ka8) : SoundF I 238 xeB := by
 refine sq hl 10 Tryz.func238 fun args H t ht => ?_
 unfold xeB at ht
 split at ht
 ·rename_i gc c it fi
  split at ht
  ·rename_i g hg
   obtain rfl := xh hg
   cases ht
   refine Eq.trans ?_ (xlM g c it fi _).symm
   kernel_rfl
  ·cases ht
 ·cases ht
def xjd : Sm := fun args H => match args, H with
 | [.c .port, .agg gc, .c (.int .i64 c), .c (.int .i64 t)], [] => (match xu gc with
   | some g => some (mkS ((Int × Bool)) (xgL g c t) fun r => some (.tup [.c (.int .u64 r.1), .c (.bool r.2)], []))
   | _ => none)
 | _, _ => none
theorem xoC : Good Tryz.prog (xt ka8) xd 0 (lsAt Kv (lsAt qf .no [0, 1, 1, 0, 0]) [1, 0, 1, 0]) (Tryz.f275.body.getD .skip) (xv Tryz.f275.results.toList) := xH (xl (by kernel_rfl)) (Vg (p := [1, 0, 1, 0]) (q := [0, 1, 1, 0, 0]) (xl (fn := Tryz.f275) (by kernel_rfl)) xE xrM (by kernel_rfl)) xrN
theorem xrO (hl : SoundL I ka8) : SoundF I 275 xjd := by
 refine sq hl xd Tryz.func275 fun args H t ht => ?_
 unfold xjd at ht
 split at ht
 ·rename_i gc c t
  split at ht
  ·rename_i g hg
   obtain rfl := xh hg
   cases ht
   refine (xG (P := Tryz.prog) (n := xd) (x := (lsAt Kv (lsAt qf .no [0, 1, 1, 0, 0]) [1, 0, 1, 0])) (fn := Tryz.f275) (H := []) (c := Tryz.f275.body.getD .skip) (xl (by kernel_rfl)) xoC).symm.trans ?_
   refine Eq.trans ?_ (xoA g c t _).symm
   kernel_rfl
  ·cases ht
 ·cases ht
def xaU : Sm := fun args H => match args, H with
 | [.c .port, .agg gc], [] => (match xu gc with
   | some g => some (mkS (Unit) (Zg g) fun r => some (.tup [], []))
   | _ => none)
 | _, _ => none
theorem xlN (hl : SoundL I ka8) : SoundF I 276 xaU := by
 refine sq hl 1 Tryz.func276 fun args H t ht => ?_
 unfold xaU at ht
 split at ht
 ·rename_i gc
  split at ht
  ·rename_i g hg
   obtain rfl := xh hg
   cases ht
   refine Eq.trans ?_ (xjc g _).symm
   kernel_rfl
  ·cases ht
 ·cases ht
def ka9 : List (Nat × Sm) := (238, xeB) :: (275, xjd) :: (276, xaU) :: ka8
theorem s_ka9 : SoundL I ka9 := (.cons (xoB xpJ) (.cons (xrO xpJ) (.cons (xlN xpJ) xpJ)))
end Go.Proofs.YtaegelbaghaooaaGreat.Lx
