/- Part. -/
import Derived.Test.YtaegelbaghaooaaGreatCfQA8
import Derived.Test.YtaegelbaghaooaaGreatCfLxMrg
set_option linter.all false
open Go.IntKind (i64 u64 u32 u8)
namespace Go.Proofs.YtaegelbaghaooaaGreat
namespace Lx
open Go
set_option maxRecDepth 1000000
def qy {β : Type} (n0 : Nat) (a1 a2 a3 : Int) (l5 : IntsL) (κ0 : Int -> T β) (κ1 : Unit -> T β) (i : Int) (k : Int -> T β) : T β :=
 bif decide (i < a3) then (bif decide ((0 : Int) <= i /\ i < ↑n0) then (bif inR (List.length l5) i then (bif a1 == getI l5 (Int.toNat i) then (κ0 (i)) else
 k (i64.wrap (i + 1))) else
 .fail) else
 .fail) else
 κ1 ()
def vU {β : Type} (n0 : Nat) (a1 a2 a3 : Int) (l5 : IntsL) (a4 : Int) (κ0 : Int -> T β) (κ1 : Unit -> T β) : T β := xr xa (qy n0 a1 a2 a3 l5 κ0 κ1) a4
theorem xcD {β γ : Type} (n0 : Nat) (a1 a2 a3 : Int) (l5 : IntsL) (a4 : Int) (κ0 : Int -> T β) (κ1 : Unit -> T β) (κ : β -> T γ) : (vU n0 a1 a2 a3 l5 a4 κ0 κ1).bind κ = vU n0 a1 a2 a3 l5 a4 (fun ae0 => (κ0 ae0).bind κ) (fun u => (κ1 u).bind κ) := by
 unfold vU
 refine xj κ (fun i k => ?_) _ _
 unfold qy
 first | rfl | simp only [bz]
def xbX : Pat := ⟨xm 19 0 [(0, .c (.slr 0)), (1, .c (.int .i64)), (4, .c (.int .i64)), (7, .c (.int .i64)), (8, .c (.int .i64))], [some ⟨[], 3, true, some (.col .i64)⟩]⟩
def wE : Pat := ⟨xm 19 0 [(4, .c (.int .i64))], [some ⟨[], 3, true, some (.col .i64)⟩]⟩
def qz : LF := fun st K => match xt xbX st with
 | some [.n n0, .i a1, .i a2, .i a3, .i a4, .l l5] => some (vU n0 a1 a2 a3 l5 a4 (fun ae0 => K (.ret) (xc wE [.i ae0, .l l5])) (fun _ => K (.exit 0) (xc wE [.i a2, .l l5])))
 | _ => none
theorem xly : ∀ st K t, qz st K = some t -> xz xa (lf ka8 xa 1 .no [1, 0, 1, 0] Tryz.f271 K) st = t := by
 intro st K t h
 unfold qz at h
 split at h
 ·rename_i n0 a1 a2 a3 a4 l5 hm
  cases h
  rw [xk hm]
  exact cast (by kernel_rfl) (xv (F := lf ka8 xa 1 .no [1, 0, 1, 0] Tryz.f271 K) (S := fun i => xc xbX [.n n0, .i a1, .i a2, .i a3, .i i, .l l5]) (B := qy n0 a1 a2 a3 l5 (fun ae0 => K (.ret) (xc wE [.i ae0, .l l5])) (fun _ => K (.exit 0) (xc wE [.i a2, .l l5]))) (fun i k => by kernel_rfl) xa a4)
 ·cases h
def VD {β : Type} (n : Nat) (L : IntsL) (x : Int) (κ : Int -> T β) : T β :=
 vU (n) (x) (0) (↑n) (L) (0) (fun y0_0 =>
 κ y0_0) (fun y0_0 =>
 κ ((-1)))
def VE (n : Nat) (L : IntsL) (x : Int) : T Int := VD n L x .ret
theorem xiH {β : Type} (n : Nat) (L : IntsL) (x : Int) (κ : Int -> T β) : (VE n L x).bind κ = VD n L x κ := by
 unfold VE VD
 first | rfl | simp only [bz, xcD]
def xaI : Sm := fun
 | [.c (.slr 0 n), .c (.int .i64 x)], [some ⟨[], 3, true, some (.col .i64 L)⟩] => some (mkS (Int) (VE n L x) fun r => some (.c (.int .i64 r), [some ⟨[], 3, true, some (.col .i64 L)⟩]))
 | _, _ => none
theorem xiI : Good Tryz.prog (xo ka8) xa 1 (lsAt qz .no [1, 0, 1, 0]) (Tryz.f271.body.getD .skip) (xq Tryz.f271.results.toList) := (xB (xi (by kernel_rfl)) xA xly)
variable {σ : Type} {I : Port Tryz.prog σ}
theorem xlz (hl : SoundL I ka8) : SoundF I 271 xaI := by
 refine sq hl xa Tryz.func271 fun args H t ht => ?_
 unfold xaI at ht
 split at ht
 ·rename_i n x L
  cases ht
  refine (xE (P := Tryz.prog) (n := xa) (x := (lsAt qz .no [1, 0, 1, 0])) (fn := Tryz.f271) (H := [some ⟨[], 3, true, some (.col .i64 L)⟩]) (c := Tryz.f271.body.getD .skip) (xi (by kernel_rfl)) xiI).symm.trans ?_
  refine Eq.trans ?_ (xiH n L x _).symm
  kernel_rfl
 ·cases ht
def ka8b : List (Nat × Sm) := (271, xaI) :: ka8
theorem xu8 : SoundL I ka8b := (.cons (xlz s_ka8) s_ka8)
end Lx
namespace Lx
open Go
set_option maxRecDepth 1000000
def xcS {β : Type} (n : Nat) (L : IntsL) (x : Int) (κ : Bool -> T β) : T β :=
 (VE n L x).bind fun r0 =>
 κ (decide (r0 >= 0))
def xaJ (n : Nat) (L : IntsL) (x : Int) : T Bool := xcS n L x .ret
theorem xlA {β : Type} (n : Nat) (L : IntsL) (x : Int) (κ : Bool -> T β) : (xaJ n L x).bind κ = xcS n L x κ := by
 unfold xaJ xcS
 first | rfl | simp only [bz]
def xdX : Sm := fun
 | [.c (.slr 0 n), .c (.int .i64 x)], [some ⟨[], 3, true, some (.col .i64 L)⟩] => some (mkS (Bool) (xaJ n L x) fun r => some (.c (.bool r), [some ⟨[], 3, true, some (.col .i64 L)⟩]))
 | _, _ => none
variable {σ : Type} {I : Port Tryz.prog σ}
theorem xoJ (hl : SoundL I ka8b) : SoundF I 251 xdX := by
 refine sq hl 1 Tryz.func251 fun args H t ht => ?_
 unfold xdX at ht
 split at ht
 ·rename_i n x L
  cases ht
  refine Eq.trans ?_ (xlA n L x _).symm
  kernel_rfl
 ·cases ht
def ka8c : List (Nat × Sm) := (251, xdX) :: ka8b
theorem xoK : SoundL I ka8c := (.cons (xoJ xu8) xu8)
end Lx
namespace Lx
open Go
set_option maxRecDepth 1000000
def XA {β : Type} (a1 a2 a3 : Int) (g5 : Geo) (κ0 : Nat -> IntsL -> T β) (i : Nat × Int × IntsL) (k : Nat × Int × IntsL -> T β) : T β :=
 bif decide (i.2.1 < 2) then (.op (.load (atF g5 14 (inF a1 i.2.1 2))) fun x1 =>
 bif Nat.beq (List.length i.2.2) i.1 && Nat.ble i.1 1000 then (k (i.1 + 1, i64.wrap (i.2.1 + 1), i.2.2 ++ [i64.wrap x1])) else
 .fail) else
 κ0 (i.1) (i.2.2)
def vV {β : Type} (a1 a2 a3 : Int) (g5 : Geo) (n0 : Nat) (a4 : Int) (l6 : IntsL) (κ0 : Nat -> IntsL -> T β) : T β := xr xa (XA a1 a2 a3 g5 κ0) (n0, a4, l6)
theorem xdY {β γ : Type} (a1 a2 a3 : Int) (g5 : Geo) (n0 : Nat) (a4 : Int) (l6 : IntsL) (κ0 : Nat -> IntsL -> T β) (κ : β -> T γ) : (vV a1 a2 a3 g5 n0 a4 l6 κ0).bind κ = vV a1 a2 a3 g5 n0 a4 l6 (fun ne0 le4 => (κ0 ne0 le4).bind κ) := by
 unfold vV
 refine xj κ (fun i k => ?_) _ _
 unfold XA
 first | rfl | simp only [bz]
def xdZ : Pat := ⟨xm 108 0 [(0, .c (.raw (.port))), (3, .c (.raw (.ptr 0 0))), (4, .c (.slr 1)), (5, .c (.int .i64)), (23, .c (.int .i64)), (24, .c (.int .i64)), (27, .c (.int .i64))], [some ⟨[.geo], 24, false, none⟩, some ⟨[], 3, true, some (.col .i64)⟩]⟩
def kX : Pat := ⟨xm 108 0 [(0, .c (.raw (.port))), (3, .c (.raw (.ptr 0 0))), (4, .c (.slr 1)), (23, .c (.int .i64)), (24, .c (.int .i64))], [some ⟨[.geo], 24, false, none⟩, some ⟨[], 3, true, some (.col .i64)⟩]⟩
def wT : LF := fun st K => match xt xdZ st with
 | some [.n n0, .i a1, .i a2, .i a3, .i a4, .g g5, .l l6] => some (vV a1 a2 a3 g5 n0 a4 l6 (fun ne0 le4 => K (.exit 2) (xc kX [.n ne0, .i a2, .i a3, .g g5, .l le4])))
 | _ => none
theorem xoL : ∀ st K t, wT st K = some t -> xz xa (lf ka8c (⟨xa, [⟨4, 3, .col .i64⟩], true⟩ : Fu) 0 .no [1, 1, 1, 0, 1, 0, 0, 1, 1, 0, 0, 1, 1, 0] Tryz.f273 K) st = t := by
 intro st K t h
 unfold wT at h
 split at h
 ·rename_i n0 a1 a2 a3 a4 g5 l6 hm
  cases h
  rw [xk hm]
  exact cast (by kernel_rfl) (xv (F := lf ka8c (⟨xa, [⟨4, 3, .col .i64⟩], true⟩ : Fu) 0 .no [1, 1, 1, 0, 1, 0, 0, 1, 1, 0, 0, 1, 1, 0] Tryz.f273 K) (S := fun i => xc xdZ [.n (i.1), .i a1, .i a2, .i a3, .i (i.2.1), .g g5, .l (i.2.2)]) (B := XA a1 a2 a3 g5 (fun ne0 le4 => K (.exit 2) (xc kX [.n ne0, .i a2, .i a3, .g g5, .l le4]))) (fun i k => by kernel_rfl) xa (n0, a4, l6))
 ·cases h
def XB {β : Type} (a1 : Int) (g3 : Geo) (κ0 : Nat -> IntsL -> T β) (i : Nat × Int × IntsL) (k : Nat × Int × IntsL -> T β) : T β :=
 bif decide (i.2.1 < a1) then (vV (i.2.1) a1 (i.2.1) g3 (i.1) (0) (i.2.2) (fun y1_0 y1_1 =>
 k (y1_0, i64.wrap (i.2.1 + 1), y1_1))) else
 κ0 (i.1) (i.2.2)
def vW {β : Type} (a1 : Int) (g3 : Geo) (n0 : Nat) (a2 : Int) (l4 : IntsL) (κ0 : Nat -> IntsL -> T β) : T β := xr xa (XB a1 g3 κ0) (n0, a2, l4)
theorem xd0 {β γ : Type} (a1 : Int) (g3 : Geo) (n0 : Nat) (a2 : Int) (l4 : IntsL) (κ0 : Nat -> IntsL -> T β) (κ : β -> T γ) : (vW a1 g3 n0 a2 l4 κ0).bind κ = vW a1 g3 n0 a2 l4 (fun ne0 le2 => (κ0 ne0 le2).bind κ) := by
 unfold vW
 refine xj κ (fun i k => ?_) _ _
 unfold XB
 first | rfl | simp only [bz, xdY]
def xbY : Pat := ⟨xm 108 0 [(0, .c (.raw (.port))), (3, .c (.raw (.ptr 0 0))), (4, .c (.slr 1))], [some ⟨[.geo], 24, false, none⟩, some ⟨[], 3, true, some (.col .i64)⟩]⟩
def XC : LF := fun st K => match xt kX st with
 | some [.n n0, .i a1, .i a2, .g g3, .l l4] => some (vW a1 g3 n0 a2 l4 (fun ne0 le2 => K (.exit 0) (xc xbY [.n ne0, .g g3, .l le2])))
 | _ => none
theorem xoM : ∀ st K t, XC st K = some t -> xz xa (lf ka8c (⟨xa, [⟨4, 3, .col .i64⟩], true⟩ : Fu) 0 (lsAt wT .no [1, 1, 0, 0, 1, 1, 0]) [1, 1, 1, 0, 1, 0] Tryz.f273 K) st = t := by
 intro st K t h
 unfold XC at h
 split at h
 ·rename_i n0 a1 a2 g3 l4 hm
  cases h
  rw [xk hm]
  exact cast (by kernel_rfl) (xv (F := lf ka8c (⟨xa, [⟨4, 3, .col .i64⟩], true⟩ : Fu) 0 (lsAt wT .no [1, 1, 0, 0, 1, 1, 0]) [1, 1, 1, 0, 1, 0] Tryz.f273 K) (S := fun i => xc kX [.n (i.1), .i a1, .i (i.2.1), .g g3, .l (i.2.2)]) (B := XB a1 g3 (fun ne0 le2 => K (.exit 0) (xc xbY [.n ne0, .g g3, .l le2]))) (fun i k => by kernel_rfl) xa (n0, a2, l4))
 ·cases h
def XD {β : Type} (n0 : Nat) (a2 : Int) (g4 : Geo) (l5 : IntsL) (κ0 : Int -> T β) (i : Int × Int) (k : Int × Int -> T β) : T β :=
 bif decide (i.2 < a2) then (.op (.self ) fun x1 =>
 bif atF g4 16 (inF x1 i.2 (je g4)) == (-1) then (κ0 (i.1)) else
 .op (.self ) fun x3 =>
 .op (.load (atF g4 16 (inF x3 i.2 (je g4)))) fun x4 =>
 (xaJ n0 l5 (i64.wrap x4)).bind fun r5 =>
 bif r5 then (.op (.self ) fun x7 =>
 .op (.store (atF g4 16 (inF x7 i.1 (je g4))) (u64.wrap (i64.wrap x4))) fun _ =>
 k (i64.wrap (i.1 + 1), i64.wrap (i.2 + 1))) else
 (xip g4 (i64.wrap x4)).bind fun r7 =>
 k (i.1, i64.wrap (i.2 + 1))) else
 κ0 (i.1)
def wV {β : Type} (n0 : Nat) (a2 : Int) (g4 : Geo) (l5 : IntsL) (a1 a3 : Int) (κ0 : Int -> T β) : T β := xr xa (XD n0 a2 g4 l5 κ0) (a1, a3)
theorem xd1 {β γ : Type} (n0 : Nat) (a2 : Int) (g4 : Geo) (l5 : IntsL) (a1 a3 : Int) (κ0 : Int -> T β) (κ : β -> T γ) : (wV n0 a2 g4 l5 a1 a3 κ0).bind κ = wV n0 a2 g4 l5 a1 a3 (fun ae0 => (κ0 ae0).bind κ) := by
 unfold wV
 refine xj κ (fun i k => ?_) _ _
 unfold XD
 first | rfl | simp only [bz]
def xd2 : Pat := ⟨xm 108 0 [(0, .c (.raw (.port))), (3, .c (.raw (.ptr 0 0))), (4, .c (.slr 1)), (7, .c (.int .i64)), (54, .c (.int .i64)), (55, .c (.int .i64))], [some ⟨[.geo], 24, false, none⟩, some ⟨[], 3, true, some (.col .i64)⟩]⟩
def xbZ : Pat := ⟨xm 108 0 [(0, .c (.raw (.port))), (3, .c (.raw (.ptr 0 0))), (7, .c (.int .i64))], [some ⟨[.geo], 24, false, none⟩]⟩
def XE : LF := fun st K => match xt xd2 st with
 | some [.n n0, .i a1, .i a2, .i a3, .g g4, .l l5] => some (wV n0 a2 g4 l5 a1 a3 (fun ae0 => K (.exit 4) (xc xbZ [.i ae0, .g g4])))
 | _ => none
theorem xoN : ∀ st K t, XE st K = some t -> xz xa (lf ka8c (⟨xa, [⟨4, 3, .col .i64⟩], true⟩ : Fu) 0 .no [1, 1, 1, 1, 1, 0, 1, 0] Tryz.f273 K) st = t := by
 intro st K t h
 unfold XE at h
 split at h
 ·rename_i n0 a1 a2 a3 g4 l5 hm
  cases h
  rw [xk hm]
  exact cast (by kernel_rfl) (xv (F := lf ka8c (⟨xa, [⟨4, 3, .col .i64⟩], true⟩ : Fu) 0 .no [1, 1, 1, 1, 1, 0, 1, 0] Tryz.f273 K) (S := fun i => xc xd2 [.n n0, .i (i.1), .i a2, .i (i.2), .g g4, .l l5]) (B := XD n0 a2 g4 l5 (fun ae0 => K (.exit 4) (xc xbZ [.i ae0, .g g4]))) (fun i k => by kernel_rfl) xa (a1, a3))
 ·cases h
def xcT {β : Type} (g : Geo) (κ : Unit -> T β) : T β :=
 .op (.self ) fun x0 =>
 (wO g (atF g 15 x0)).bind fun r1 =>
 bif r1 then (κ ()) else
 vW (g.threads) (g) (0) (0) ([]) (fun y3_0 y3_1 =>
 .op (.self ) fun x4 =>
 .op (.load (atF g 15 x4)) fun x5 =>
 wV y3_0 (i64.wrap x5) (g) y3_1 (0) (0) (fun y6_0 =>
 .op (.self ) fun x7 =>
 .op (.store (atF g 15 x7) (u64.wrap y6_0)) fun _ =>
 κ ()))
def xaK (g : Geo) : T Unit := xcT g .ret
theorem xlB {β : Type} (g : Geo) (κ : Unit -> T β) : (xaK g).bind κ = xcT g κ := by
 unfold xaK xcT
 first | rfl | simp only [bz, xd0, xd1]
def VF : Sm := fun
 | [.c .port, .agg gc], [] => (match xu gc with
   | some g => some (mkS (Unit) (xaK g) fun r => some (.tup [], []))
   | _ => none)
 | _, _ => none
theorem xlC : Good Tryz.prog (xo ka8c) (⟨xa, [⟨4, 3, .col .i64⟩], true⟩ : Fu) 0 (mrg (lsAt XC (lsAt wT .no [1, 1, 0, 0, 1, 1, 0]) [1, 1, 1, 0, 1, 0]) (lsAt XE .no [1, 1, 1, 1, 1, 0, 1, 0])) (Tryz.f273.body.getD .skip) (xq Tryz.f273.results.toList) := (yR (xB (xi (by kernel_rfl)) (qQ (p := [1, 1, 1, 0, 1, 0]) (q := [1, 1, 0, 0, 1, 1, 0]) (xi (fn := Tryz.f273) (by kernel_rfl)) xA xoL (by kernel_rfl)) xoM) (xB (xi (by kernel_rfl)) xA xoN))
variable {σ : Type} {I : Port Tryz.prog σ}
theorem xd3 (hl : SoundL I ka8c) : SoundF I 273 VF := by
 refine ZY hl (⟨xa, [⟨4, 3, .col .i64⟩], true⟩ : Fu) Tryz.func273 (by kernel_rfl) (by kernel_rfl) fun args H t ht => ?_
 unfold VF at ht
 split at ht
 ·rename_i gc
  split at ht
  ·rename_i g hg
   obtain rfl := xe hg
   cases ht
   refine (xE (P := Tryz.prog) (n := (⟨xa, [⟨4, 3, .col .i64⟩], true⟩ : Fu)) (x := (mrg (lsAt XC (lsAt wT .no [1, 1, 0, 0, 1, 1, 0]) [1, 1, 1, 0, 1, 0]) (lsAt XE .no [1, 1, 1, 1, 1, 0, 1, 0]))) (fn := Tryz.f273) (H := []) (c := Tryz.f273.body.getD .skip) (xi (by kernel_rfl)) xlC).symm.trans ?_
   refine Eq.trans ?_ (xlB g _).symm
   kernel_rfl
  ·cases ht
 ·cases ht
def ka8d : List (Nat × Sm) := (273, VF) :: ka8c
theorem s_ka8d : SoundL I ka8d := (.cons (xd3 xoK) xoK)
end Lx
namespace Lx
open Go
set_option maxRecDepth 1000000
def XF {β : Type} (g : Geo) (n : Int) (κ : Unit -> T β) : T β :=
 .op (.self ) fun x0 =>
 (YJ g (atF g 15 x0) (atF g 17 (inF (i64.wrap (n - 1)) 0 1))).bind fun r1 =>
 bif r1 then (κ ()) else
 .op (.self ) fun x3 =>
 .op (.load (atF g 15 x3)) fun x4 =>
 .op (.self ) fun x5 =>
 bif atF g 16 (inF x5 (i64.wrap x4) (je g)) == (-1) then (κ ()) else
 .op (.self ) fun x7 =>
 .op (.store (atF g 16 (inF x7 (i64.wrap x4) (je g))) (u64.wrap n)) fun _ =>
 .op (.self ) fun x9 =>
 .op (.store (atF g 15 x9) (u64.wrap (i64.wrap (i64.wrap x4 + 1)))) fun _ =>
 bif decide (i64.wrap (i64.wrap x4 + 1) > i64.wrap (2 * g.threads)) then ((xaK g).bind fun r12 =>
 κ ()) else
 κ ()
def jI (g : Geo) (n : Int) : T Unit := XF g n .ret
theorem xgh {β : Type} (g : Geo) (n : Int) (κ : Unit -> T β) : (jI g n).bind κ = XF g n κ := by
 unfold jI XF
 first | rfl | simp only [bz]
def xd4 : Sm := gS fun
 | g, [.c (.int .i64 n)] => some (mkS (Unit) (jI g n) fun r => some (.tup [], []))
 | _, _ => none
variable {σ : Type} {I : Port Tryz.prog σ}
theorem xiJ (hl : SoundL I ka8d) : SoundF I 255 xd4 := by
 refine gsq hl 1 Tryz.func255 fun g l t ht => ?_
 split at ht
 ·rename_i n
  cases ht
  refine Eq.trans ?_ (xgh g n _).symm
  kernel_rfl
 ·cases ht
def ka8e : List (Nat × Sm) := (255, xd4) :: (273, VF) :: ka8
theorem xaL : SoundL I ka8e := (.cons (xiJ s_ka8d) (.cons (xd3 xoK) s_ka8))
end Lx
namespace Lx
open Go
set_option maxRecDepth 1000000
def xcU {β : Type} (g : Geo) (c it fi : Int) (κ : Bool -> T β) : T β :=
 (acqT g).bind fun r0 =>
 bif r0 == 0 then (κ (false)) else
 .op (.store (atF g 18 (inF (i64.wrap (r0 - 1)) 0 8)) (it)) fun _ =>
 .op (.store (atF g 18 (inF (i64.wrap (r0 - 1)) 1 8)) (0)) fun _ =>
 .op (.store (atF g 18 (inF (i64.wrap (r0 - 1)) 2 8)) (0)) fun _ =>
 .op (.store (atF g 18 (inF (i64.wrap (r0 - 1)) 3 8)) (0)) fun _ =>
 .op (.store (atF g 18 (inF (i64.wrap (r0 - 1)) 4 8)) (0)) fun _ =>
 .op (.store (atF g 18 (inF (i64.wrap (r0 - 1)) 5 8)) (0)) fun _ =>
 .op (.store (atF g 18 (inF (i64.wrap (r0 - 1)) 6 8)) (0)) fun _ =>
 .op (.store (atF g 18 (inF (i64.wrap (r0 - 1)) 7 8)) (0)) fun _ =>
 .op (.store (atF g 17 (inF (i64.wrap (r0 - 1)) 0 1)) (Ref.word (Ref.mk fi false 0))) fun _ =>
 .op (.self ) fun x11 =>
 .op (.store (atF g 13 (inF x11 c 4)) (Ref.word (Ref.mk r0 false 0))) fun _ =>
 κ (true)
def xaM (g : Geo) (c it fi : Int) : T Bool := xcU g c it fi .ret
theorem xlD {β : Type} (g : Geo) (c it fi : Int) (κ : Bool -> T β) : (xaM g c it fi).bind κ = xcU g c it fi κ := by
 unfold xaM xcU
 first | rfl | simp only [bz]
def VG {β : Type} (a0 a1 a2 : Int) (b3 : Bool) (g5 : Geo) (κ0 : Int -> T β) (κ1 : Unit -> T β) (κ2 : Unit -> T β) (i : Int × Int × Bool × Int) (k : Int × Int × Bool × Int -> T β) : T β :=
 bif i.2.1 != 0 then ((kP g5 i.2.1).bind fun r1 =>
 bif r1.2 then (κ0 (r1.1)) else
 (xcz g5 (i64.wrap (1 - i.1)) (atF g5 17 (inF (i64.wrap (i.2.1 - 1)) 0 1))).bind fun r3 =>
 bif r3.mark then (κ1 ()) else
 k (i64.wrap (1 - i.1), r3.1, r3.mark, r3.ver)) else
 κ2 ()
def jJ {β : Type} (a0 a1 a2 : Int) (b3 : Bool) (g5 : Geo) (a4 a6 : Int) (b7 : Bool) (a8 : Int) (κ0 : Int -> T β) (κ1 : Unit -> T β) (κ2 : Unit -> T β) : T β := xr xa (VG a0 a1 a2 b3 g5 κ0 κ1 κ2) (a4, a6, b7, a8)
theorem xgi {β γ : Type} (a0 a1 a2 : Int) (b3 : Bool) (g5 : Geo) (a4 a6 : Int) (b7 : Bool) (a8 : Int) (κ0 : Int -> T β) (κ1 : Unit -> T β) (κ2 : Unit -> T β) (κ : β -> T γ) : (jJ a0 a1 a2 b3 g5 a4 a6 b7 a8 κ0 κ1 κ2).bind κ = jJ a0 a1 a2 b3 g5 a4 a6 b7 a8 (fun ae2 => (κ0 ae2).bind κ) (fun u => (κ1 u).bind κ) (fun u => (κ2 u).bind κ) := by
 unfold jJ
 refine xj κ (fun i k => ?_) _ _
 unfold VG
 first | rfl | simp only [bz]
def xhd : Pat := ⟨xm 47 0 [(0, .c (.raw (.port))), (2, .c (.int .i64)), (3, .c (.int .i64)), (5, .c (.raw (.ptr 0 0))), (8, .c (.int .u64)), (9, .c (.bool)), (10, .c (.int .i64)), (11, .c (.raw (.ptr 1 0)))], [some ⟨[.geo], 24, false, none⟩, some ⟨[.int .i64, .bool, .int .u32], 162, false, none⟩]⟩
def yU : Pat := ⟨xm 47 0 [(0, .c (.raw (.port))), (2, .c (.int .i64)), (3, .c (.int .i64)), (5, .c (.raw (.ptr 0 0))), (8, .c (.int .u64)), (9, .c (.bool))], [some ⟨[.geo], 24, false, none⟩]⟩
def jK : LF := fun st K => match xt xhd st with
 | some [.i a0, .i a1, .i a2, .b b3, .i a4, .g g5, .i a6, .b b7, .i a8] => some (jJ a0 a1 a2 b3 g5 a4 a6 b7 a8 (fun ae2 => K (.ret) (xc yU [.i a0, .i a1, .i ae2, .b true, .g g5])) (fun _ => K (.exit 1) (xc yU [.i a0, .i a1, .i a2, .b b3, .g g5])) (fun _ => K (.exit 2) (xc yU [.i a0, .i a1, .i a2, .b b3, .g g5])))
 | _ => none
theorem xsN : ∀ st K t, jK st K = some t -> xz xa (lf ka8e xa 0 .no [1, 0, 1, 0, 0, 0, 1, 1, 0, 0] Tryz.f275 K) st = t := by
 intro st K t h
 unfold jK at h
 split at h
 ·rename_i a0 a1 a2 b3 a4 g5 a6 b7 a8 hm
  cases h
  rw [xk hm]
  exact cast (by kernel_rfl) (xv (F := lf ka8e xa 0 .no [1, 0, 1, 0, 0, 0, 1, 1, 0, 0] Tryz.f275 K) (S := fun i => xc xhd [.i a0, .i a1, .i a2, .b b3, .i (i.1), .g g5, .i (i.2.1), .b (i.2.2.1), .i (i.2.2.2)]) (B := VG a0 a1 a2 b3 g5 (fun ae2 => K (.ret) (xc yU [.i a0, .i a1, .i ae2, .b true, .g g5])) (fun _ => K (.exit 1) (xc yU [.i a0, .i a1, .i a2, .b b3, .g g5])) (fun _ => K (.exit 2) (xc yU [.i a0, .i a1, .i a2, .b b3, .g g5]))) (fun i k => by kernel_rfl) xa (a4, a6, b7, a8))
 ·cases h
def VH {β : Type} (a0 a1 a2 : Int) (b3 : Bool) (g4 : Geo) (κ0 : Int -> T β) (κ1 : Unit -> T β) (i : Unit) (k : Unit -> T β) : T β :=
 (xcz g4 0 (atF g4 13 (inF a1 a0 4))).bind fun r0 =>
 jJ a0 a1 a2 b3 g4 (0) (r0.1) (r0.mark) (r0.ver) (fun y1_0 =>
 κ0 y1_0) (fun y1_0 =>
 k ()) (fun y1_0 =>
 κ1 ())
def jL {β : Type} (a0 a1 a2 : Int) (b3 : Bool) (g4 : Geo)  (κ0 : Int -> T β) (κ1 : Unit -> T β) : T β := xr xa (VH a0 a1 a2 b3 g4 κ0 κ1) ()
theorem xgj {β γ : Type} (a0 a1 a2 : Int) (b3 : Bool) (g4 : Geo)  (κ0 : Int -> T β) (κ1 : Unit -> T β) (κ : β -> T γ) : (jL a0 a1 a2 b3 g4  κ0 κ1).bind κ = jL a0 a1 a2 b3 g4  (fun ae0 => (κ0 ae0).bind κ) (fun u => (κ1 u).bind κ) := by
 unfold jL
 refine xj κ (fun i k => ?_) _ _
 unfold VH
 first | rfl | simp only [bz, xgi]
def qA : Pat := ⟨xm 47 0 [(8, .c (.int .u64)), (9, .c (.bool))], []⟩
def VI : LF := fun st K => match xt yU st with
 | some [.i a0, .i a1, .i a2, .b b3, .g g4] => some (jL a0 a1 a2 b3 g4  (fun ae0 => K (.ret) (xc qA [.i ae0, .b true])) (fun _ => K (.ret) (xc qA [.i 0, .b false])))
 | _ => none
theorem xsO : ∀ st K t, VI st K = some t -> xz xa (lf ka8e xa 0 (lsAt jK .no [0, 1, 1, 0, 0]) [1, 0, 1, 0] Tryz.f275 K) st = t := by
 intro st K t h
 unfold VI at h
 split at h
 ·rename_i a0 a1 a2 b3 g4 hm
  cases h
  rw [xk hm]
  exact cast (by kernel_rfl) (xv (F := lf ka8e xa 0 (lsAt jK .no [0, 1, 1, 0, 0]) [1, 0, 1, 0] Tryz.f275 K) (S := fun i => xc yU [.i a0, .i a1, .i a2, .b b3, .g g4]) (B := VH a0 a1 a2 b3 g4 (fun ae0 => K (.ret) (xc qA [.i ae0, .b true])) (fun _ => K (.ret) (xc qA [.i 0, .b false]))) (fun i k => by kernel_rfl) xa ())
 ·cases h
def xiK {β : Type} (g : Geo) (c t : Int) (κ : (Int × Bool) -> T β) : T β :=
 jL (c) (t) (0) (false) (g) (fun y0_0 =>
 κ (y0_0, (true))) (fun y0_0 =>
 κ ((0), (false)))
def xhe (g : Geo) (c t : Int) : T (Int × Bool) := xiK g c t .ret
theorem xoO {β : Type} (g : Geo) (c t : Int) (κ : (Int × Bool) -> T β) : (xhe g c t).bind κ = xiK g c t κ := by
 unfold xhe xiK
 first | rfl | simp only [bz, xgj]
def VJ {β : Type} (g : Geo) (κ : Unit -> T β) : T β :=
 (Vm g 0).bind fun r0 =>
 (Vm g 1).bind fun r1 =>
 κ ()
def qB (g : Geo) : T Unit := VJ g .ret
theorem xiL {β : Type} (g : Geo) (κ : Unit -> T β) : (qB g).bind κ = VJ g κ := by
 unfold qB VJ
 first | rfl | simp only [bz]
def XG {β : Type} (g2 : Geo) (κ0 : Unit -> T β) (i : Int × Int) (k : Int × Int -> T β) : T β :=
 bif i.2 != 0 then ((xid g2 i.2).bind fun r1 =>
 bif !r1 then (.op (.load (atF g2 17 (inF (i64.wrap (i.2 - 1)) 0 1))) fun x3 =>
 k (atF g2 17 (inF (i64.wrap (i.2 - 1)) 0 1), ofW i64 x3 0 24)) else
 .op (.load (atF g2 17 (inF (i64.wrap (i.2 - 1)) 0 1))) fun x3 =>
 .op (.store (i.1) (Ref.word (Ref.mk (ofW i64 x3 0 24) false 0))) fun _ =>
 .op (.store (atF g2 17 (inF (i64.wrap (i.2 - 1)) 0 1)) (Ref.word (Ref.mk (ofW i64 x3 0 24) true 0))) fun _ =>
 (jI g2 i.2).bind fun r6 =>
 .op (.load (i.1)) fun x7 =>
 k (i.1, ofW i64 x7 0 24)) else
 κ0 ()
def wW {β : Type} (g2 : Geo) (a0 a1 : Int) (κ0 : Unit -> T β) : T β := xr xa (XG g2 κ0) (a0, a1)
theorem xd5 {β γ : Type} (g2 : Geo) (a0 a1 : Int) (κ0 : Unit -> T β) (κ : β -> T γ) : (wW g2 a0 a1 κ0).bind κ = wW g2 a0 a1 (fun u => (κ0 u).bind κ) := by
 unfold wW
 refine xj κ (fun i k => ?_) _ _
 unfold XG
 first | rfl | simp only [bz]
def xd6 : Pat := ⟨xm 72 0 [(0, .c (.raw (.port))), (4, .c (.raw (.ptr 0 0))), (6, .c (.int .i64)), (7, .c (.int .i64))], [some ⟨[.geo], 24, false, none⟩]⟩
def xb0 : Pat := ⟨xm 72 0 [], []⟩
def XH : LF := fun st K => match xt xd6 st with
 | some [.i a0, .i a1, .g g2] => some (wW g2 a0 a1 (fun _ => K (.exit 0) (xc xb0 [])))
 | _ => none
theorem xoP : ∀ st K t, XH st K = some t -> xz xa (lf ka8e xa 0 .no [1, 1, 1, 1, 0] Tryz.f215 K) st = t := by
 intro st K t h
 unfold XH at h
 split at h
 ·rename_i a0 a1 g2 hm
  cases h
  rw [xk hm]
  exact cast (by kernel_rfl) (xv (F := lf ka8e xa 0 .no [1, 1, 1, 1, 0] Tryz.f215 K) (S := fun i => xc xd6 [.i (i.1), .i (i.2), .g g2]) (B := XG g2 (fun _ => K (.exit 0) (xc xb0 []))) (fun i k => by kernel_rfl) xa (a0, a1))
 ·cases h
def xcV {β : Type} (g : Geo) (c : Int) (κ : Unit -> T β) : T β :=
 (Xk g c).bind fun r0 =>
 bif r0 then (κ ()) else
 .op (.self ) fun x2 =>
 .op (.load (atF g 13 (inF x2 c 4))) fun x3 =>
 wW (g) (atF g 13 (inF x2 c 4)) (ofW i64 x3 0 24) (fun y4_0 =>
 κ ())
def ZH (g : Geo) (c : Int) : T Unit := xcV g c .ret
theorem xlE {β : Type} (g : Geo) (c : Int) (κ : Unit -> T β) : (ZH g c).bind κ = xcV g c κ := by
 unfold ZH xcV
 first | rfl | simp only [bz, xd5]
def xcW {β : Type} (g : Geo) (c : Cal) (r0 : Res) (κ : Res -> T β) : T β :=
 bif r0.e == 0 then ((kR c).bind fun r1 =>
 (YV g r1).bind fun r2 =>
 κ r0) else
 (wo r0).bind fun r1 =>
 bif r1 then ((kT g).bind fun r3 =>
 κ r0) else
 κ r0
def qC (g : Geo) (c : Cal) (r0 : Res) : T Res := xcW g c r0 .ret
theorem xlF {β : Type} (g : Geo) (c : Cal) (r0 : Res) (κ : Res -> T β) : (qC g c r0).bind κ = xcW g c r0 κ := by
 unfold qC xcW
 first | rfl | simp only [bz]
def xlG : Sm := gS fun
 | g, [.c (.int .i64 c), .c (.int .u64 it), .c (.int .i64 fi)] => some (mkS (Bool) (xaM g c it fi) fun r => some (.c (.bool r), []))
 | _, _ => none
variable {σ : Type} {I : Port Tryz.prog σ}
theorem xoQ (hl : SoundL I ka8e) : SoundF I 238 xlG := by
 refine gsq hl 10 Tryz.func238 fun g l t ht => ?_
 split at ht
 ·rename_i c it fi
  cases ht
  refine Eq.trans ?_ (xlD g c it fi _).symm
  kernel_rfl
 ·cases ht
def xiM : Sm := fun
 | [.c .port, .agg gc, .c (.int .i64 c), .c (.int .i64 t)], [] => (match xu gc with
   | some g => some (mkS ((Int × Bool)) (xhe g c t) fun r => some (.tup [.c (.int .u64 r.1), .c (.bool r.2)], []))
   | _ => none)
 | _, _ => none
theorem xoR : Good Tryz.prog (xo ka8e) xa 0 (lsAt VI (lsAt jK .no [0, 1, 1, 0, 0]) [1, 0, 1, 0]) (Tryz.f275.body.getD .skip) (xq Tryz.f275.results.toList) := (xB (xi (by kernel_rfl)) (qQ (p := [1, 0, 1, 0]) (q := [0, 1, 1, 0, 0]) (xi (fn := Tryz.f275) (by kernel_rfl)) xA xsN (by kernel_rfl)) xsO)
theorem xsP (hl : SoundL I ka8e) : SoundF I 275 xiM := by
 refine sq hl xa Tryz.func275 fun args H t ht => ?_
 unfold xiM at ht
 split at ht
 ·rename_i gc c t
  split at ht
  ·rename_i g hg
   obtain rfl := xe hg
   cases ht
   refine (xE (P := Tryz.prog) (n := xa) (x := (lsAt VI (lsAt jK .no [0, 1, 1, 0, 0]) [1, 0, 1, 0])) (fn := Tryz.f275) (H := []) (c := Tryz.f275.body.getD .skip) (xi (by kernel_rfl)) xoR).symm.trans ?_
   refine Eq.trans ?_ (xoO g c t _).symm
   kernel_rfl
  ·cases ht
 ·cases ht
def xhf : Sm := gS fun
 | g, [] => some (mkS (Unit) (qB g) fun r => some (.tup [], []))
 | _, _ => none
theorem xlH (hl : SoundL I ka8e) : SoundF I 276 xhf := by
 refine gsq hl 1 Tryz.func276 fun g l t ht => ?_
 split at ht
 ·cases ht
  refine Eq.trans ?_ (xiL g _).symm
  kernel_rfl
 ·cases ht
def xd7 : Sm := fun
 | [.c .port, .agg gc, .c (.int .i64 c)], [] => (match xu gc with
   | some g => some (mkS (Unit) (ZH g c) fun r => some (.tup [], []))
   | _ => none)
 | _, _ => none
theorem xlI : Good Tryz.prog (xo ka8e) xa 0 (lsAt XH .no [1, 1, 1, 1, 0]) (Tryz.f215.body.getD .skip) (xq Tryz.f215.results.toList) := (xB (xi (by kernel_rfl)) xA xoP)
theorem xoS (hl : SoundL I ka8e) : SoundF I 215 xd7 := by
 refine sq hl xa Tryz.func215 fun args H t ht => ?_
 unfold xd7 at ht
 split at ht
 ·rename_i gc c
  split at ht
  ·rename_i g hg
   obtain rfl := xe hg
   cases ht
   refine (xE (P := Tryz.prog) (n := xa) (x := (lsAt XH .no [1, 1, 1, 1, 0])) (fn := Tryz.f215) (H := []) (c := Tryz.f215.body.getD .skip) (xi (by kernel_rfl)) xlI).symm.trans ?_
   refine Eq.trans ?_ (xlE g c _).symm
   kernel_rfl
  ·cases ht
 ·cases ht
def xlJ : Sm := gS fun
 | g, [.agg cc, .agg r0c] => (match Cal.of cc with
   | some c => (match Res.of r0c with
   | some r0 => some (mkS (Res) (qC g c r0) fun r => some (.agg r.cells, []))
   | _ => none)
   | _ => none)
 | _, _ => none
theorem xoT (hl : SoundL I ka8e) : SoundF I 128 xlJ := by
 refine gsq hl 1 Tryz.func128 fun g l t ht => ?_
 split at ht
 ·rename_i cc r0c
  split at ht
  ·rename_i c hc
   obtain rfl := Cal.of_eq hc
   split at ht
   ·rename_i r0 hr0
    obtain rfl := Res.of_eq hr0
    cases ht
    refine Eq.trans ?_ (xlF g c r0 _).symm
    kernel_rfl
   ·cases ht
  ·cases ht
 ·cases ht
def ka9 : List (Nat × Sm) := (238, xlG) :: (275, xiM) :: (276, xhf) :: (215, xd7) :: (128, xlJ) :: ka8e
theorem s_ka9 : SoundL I ka9 := (.cons (xoQ xaL) (.cons (xsP xaL) (.cons (xlH xaL) (.cons (xoS xaL) (.cons (xoT xaL) xaL)))))
end Lx
namespace Lx
open Go
set_option maxRecDepth 1000000
def VK {β : Type} (a0 a1 : Int) (b2 : Bool) (a3 : Int) (g5 : Geo) (κ0 : Unit -> T β) (κ1 : Unit -> T β) (i : Int) (k : Int -> T β) : T β :=
 bif i != 0 then ((WU g5 i a1).bind fun r1 =>
 bif r1 then (κ0 ()) else
 .op (.load (atF g5 17 (inF (i64.wrap (i - 1)) 0 1))) fun x3 =>
 k (ofW i64 x3 0 24)) else
 κ1 ()
def jM {β : Type} (a0 a1 : Int) (b2 : Bool) (a3 : Int) (g5 : Geo) (a4 : Int) (κ0 : Unit -> T β) (κ1 : Unit -> T β) : T β := xr xa (VK a0 a1 b2 a3 g5 κ0 κ1) a4
theorem xgk {β γ : Type} (a0 a1 : Int) (b2 : Bool) (a3 : Int) (g5 : Geo) (a4 : Int) (κ0 : Unit -> T β) (κ1 : Unit -> T β) (κ : β -> T γ) : (jM a0 a1 b2 a3 g5 a4 κ0 κ1).bind κ = jM a0 a1 b2 a3 g5 a4 (fun u => (κ0 u).bind κ) (fun u => (κ1 u).bind κ) := by
 unfold jM
 refine xj κ (fun i k => ?_) _ _
 unfold VK
 first | rfl | simp only [bz]
def xhg : Pat := ⟨xm 47 0 [(0, .c (.raw (.port))), (2, .c (.int .i64)), (3, .c (.int .u64)), (5, .c (.raw (.ptr 0 0))), (8, .c (.bool)), (9, .c (.int .i64)), (10, .c (.int .i64))], [some ⟨[.geo], 24, false, none⟩]⟩
def qD : Pat := ⟨xm 47 0 [(0, .c (.raw (.port))), (2, .c (.int .i64)), (3, .c (.int .u64)), (5, .c (.raw (.ptr 0 0))), (8, .c (.bool)), (9, .c (.int .i64))], [some ⟨[.geo], 24, false, none⟩]⟩
def VL : LF := fun st K => match xt xhg st with
 | some [.i a0, .i a1, .b b2, .i a3, .i a4, .g g5] => some (jM a0 a1 b2 a3 g5 a4 (fun _ => K (.ret) (xc qD [.i a0, .i a1, .b true, .i a3, .g g5])) (fun _ => K (.exit 0) (xc qD [.i a0, .i a1, .b b2, .i a3, .g g5])))
 | _ => none
theorem xsQ : ∀ st K t, VL st K = some t -> xz xa (lf ka9 xa 0 .no [1, 1, 0, 1, 0] Tryz.f174 K) st = t := by
 intro st K t h
 unfold VL at h
 split at h
 ·rename_i a0 a1 b2 a3 a4 g5 hm
  cases h
  rw [xk hm]
  exact cast (by kernel_rfl) (xv (F := lf ka9 xa 0 .no [1, 1, 0, 1, 0] Tryz.f174 K) (S := fun i => xc xhg [.i a0, .i a1, .b b2, .i a3, .i i, .g g5]) (B := VK a0 a1 b2 a3 g5 (fun _ => K (.ret) (xc qD [.i a0, .i a1, .b true, .i a3, .g g5])) (fun _ => K (.exit 0) (xc qD [.i a0, .i a1, .b b2, .i a3, .g g5]))) (fun i k => by kernel_rfl) xa a4)
 ·cases h
def xiN {β : Type} (g : Geo) (c it : Int) (κ : Bool -> T β) : T β :=
 .op (.self ) fun x0 =>
 .op (.load (atF g 13 (inF x0 c 4))) fun x1 =>
 jM (c) (it) (false) (ofW i64 x1 0 24) (g) (ofW i64 x1 0 24) (fun y2_0 =>
 κ (true)) (fun y2_0 =>
 (xaM g c it (ofW i64 x1 0 24)).bind fun r3 =>
 κ r3)
def xhh (g : Geo) (c it : Int) : T Bool := xiN g c it .ret
theorem xoU {β : Type} (g : Geo) (c it : Int) (κ : Bool -> T β) : (xhh g c it).bind κ = xiN g c it κ := by
 unfold xhh xiN
 first | rfl | simp only [bz, xgk]
def XI {β : Type} (a0 a1 : Int) (b2 : Bool) (a3 a4 : Int) (g6 : Geo) (κ0 : Int -> T β) (κ1 : Unit -> T β) (i : Int) (k : Int -> T β) : T β :=
 bif decide (i < a4) then (.op (.self ) fun x1 =>
 bif bif g6.threads == 0 then false else true then ((xhe g6 a0 (Int.tmod (i64.wrap (x1 + i)) g6.threads)).bind fun r3 =>
 bif r3.2 then ((qB g6).bind fun r5 =>
 κ0 (r3.1)) else
 k (i64.wrap (i + 1))) else
 .fail) else
 κ1 ()
def wX {β : Type} (a0 a1 : Int) (b2 : Bool) (a3 a4 : Int) (g6 : Geo) (a5 : Int) (κ0 : Int -> T β) (κ1 : Unit -> T β) : T β := xr xa (XI a0 a1 b2 a3 a4 g6 κ0 κ1) a5
theorem xd8 {β γ : Type} (a0 a1 : Int) (b2 : Bool) (a3 a4 : Int) (g6 : Geo) (a5 : Int) (κ0 : Int -> T β) (κ1 : Unit -> T β) (κ : β -> T γ) : (wX a0 a1 b2 a3 a4 g6 a5 κ0 κ1).bind κ = wX a0 a1 b2 a3 a4 g6 a5 (fun ae1 => (κ0 ae1).bind κ) (fun u => (κ1 u).bind κ) := by
 unfold wX
 refine xj κ (fun i k => ?_) _ _
 unfold XI
 first | rfl | simp only [bz]
def xd9 : Pat := ⟨xm 62 0 [(0, .c (.raw (.port))), (2, .c (.int .i64)), (4, .c (.raw (.ptr 0 0))), (6, .c (.int .u64)), (7, .c (.bool)), (8, .c (.int .u64)), (25, .c (.int .i64)), (26, .c (.int .i64))], [some ⟨[.geo], 24, false, none⟩]⟩
def kY : Pat := ⟨xm 62 0 [(0, .c (.raw (.port))), (2, .c (.int .i64)), (4, .c (.raw (.ptr 0 0))), (6, .c (.int .u64)), (7, .c (.bool)), (8, .c (.int .u64))], [some ⟨[.geo], 24, false, none⟩]⟩
def wY : LF := fun st K => match xt xd9 st with
 | some [.i a0, .i a1, .b b2, .i a3, .i a4, .i a5, .g g6] => some (wX a0 a1 b2 a3 a4 g6 a5 (fun ae1 => K (.ret) (xc kY [.i a0, .i ae1, .b true, .i a3, .g g6])) (fun _ => K (.exit 2) (xc kY [.i a0, .i a1, .b b2, .i a3, .g g6])))
 | _ => none
theorem xoV : ∀ st K t, wY st K = some t -> xz xa (lf ka9 xa 0 .no [1, 1, 0, 0, 0, 1, 0, 1, 0] Tryz.f258 K) st = t := by
 intro st K t h
 unfold wY at h
 split at h
 ·rename_i a0 a1 b2 a3 a4 a5 g6 hm
  cases h
  rw [xk hm]
  exact cast (by kernel_rfl) (xv (F := lf ka9 xa 0 .no [1, 1, 0, 0, 0, 1, 0, 1, 0] Tryz.f258 K) (S := fun i => xc xd9 [.i a0, .i a1, .b b2, .i a3, .i a4, .i i, .g g6]) (B := XI a0 a1 b2 a3 a4 g6 (fun ae1 => K (.ret) (xc kY [.i a0, .i ae1, .b true, .i a3, .g g6])) (fun _ => K (.exit 2) (xc kY [.i a0, .i a1, .b b2, .i a3, .g g6]))) (fun i k => by kernel_rfl) xa a5)
 ·cases h
def XJ {β : Type} (a0 a1 : Int) (b2 : Bool) (g3 : Geo) (κ0 : Int -> T β) (κ1 : Unit -> T β) (i : Unit) (k : Unit -> T β) : T β :=
 .op (.load (atF g3 5 a0)) fun x0 =>
 wX a0 a1 b2 x0 (g3.threads) g3 (0) (fun y1_0 =>
 κ0 y1_0) (fun y1_0 =>
 .op (.load (atF g3 5 a0)) fun x2 =>
 bif x2 == x0 then ((qB g3).bind fun r4 =>
 κ1 ()) else
 k ())
def wZ {β : Type} (a0 a1 : Int) (b2 : Bool) (g3 : Geo)  (κ0 : Int -> T β) (κ1 : Unit -> T β) : T β := xr xa (XJ a0 a1 b2 g3 κ0 κ1) ()
theorem xea {β γ : Type} (a0 a1 : Int) (b2 : Bool) (g3 : Geo)  (κ0 : Int -> T β) (κ1 : Unit -> T β) (κ : β -> T γ) : (wZ a0 a1 b2 g3  κ0 κ1).bind κ = wZ a0 a1 b2 g3  (fun ae0 => (κ0 ae0).bind κ) (fun u => (κ1 u).bind κ) := by
 unfold wZ
 refine xj κ (fun i k => ?_) _ _
 unfold XJ
 first | rfl | simp only [bz, xd8]
def xeb : Pat := ⟨xm 62 0 [(0, .c (.raw (.port))), (2, .c (.int .i64)), (4, .c (.raw (.ptr 0 0))), (6, .c (.int .u64)), (7, .c (.bool))], [some ⟨[.geo], 24, false, none⟩]⟩
def kZ : Pat := ⟨xm 62 0 [(6, .c (.int .u64)), (7, .c (.bool))], []⟩
def XK : LF := fun st K => match xt xeb st with
 | some [.i a0, .i a1, .b b2, .g g3] => some (wZ a0 a1 b2 g3  (fun ae0 => K (.ret) (xc kZ [.i ae0, .b true])) (fun _ => K (.ret) (xc kZ [.i 0, .b false])))
 | _ => none
theorem xoW : ∀ st K t, XK st K = some t -> xz xa (lf ka9 xa 0 (lsAt wY .no [0, 1, 0, 1, 0]) [1, 1, 0] Tryz.f258 K) st = t := by
 intro st K t h
 unfold XK at h
 split at h
 ·rename_i a0 a1 b2 g3 hm
  cases h
  rw [xk hm]
  exact cast (by kernel_rfl) (xv (F := lf ka9 xa 0 (lsAt wY .no [0, 1, 0, 1, 0]) [1, 1, 0] Tryz.f258 K) (S := fun i => xc xeb [.i a0, .i a1, .b b2, .g g3]) (B := XJ a0 a1 b2 g3 (fun ae0 => K (.ret) (xc kZ [.i ae0, .b true])) (fun _ => K (.ret) (xc kZ [.i 0, .b false]))) (fun i k => by kernel_rfl) xa ())
 ·cases h
def xcX {β : Type} (g : Geo) (c : Int) (κ : (Int × Bool) -> T β) : T β :=
 (Xk g c).bind fun r0 =>
 bif r0 then (κ ((0), (false))) else
 wZ (c) (0) (false) (g) (fun y2_0 =>
 κ (y2_0, (true))) (fun y2_0 =>
 κ ((0), (false)))
def qE (g : Geo) (c : Int) : T (Int × Bool) := xcX g c .ret
theorem xlK {β : Type} (g : Geo) (c : Int) (κ : (Int × Bool) -> T β) : (qE g c).bind κ = xcX g c κ := by
 unfold qE xcX
 first | rfl | simp only [bz, xea]
def xiO : Sm := fun
 | [.c .port, .agg gc, .c (.int .i64 c), .c (.int .u64 it)], [] => (match xu gc with
   | some g => some (mkS (Bool) (xhh g c it) fun r => some (.c (.bool r), []))
   | _ => none)
 | _, _ => none
theorem xoX : Good Tryz.prog (xo ka9) xa 0 (lsAt VL .no [1, 1, 0, 1, 0]) (Tryz.f174.body.getD .skip) (xq Tryz.f174.results.toList) := xB (xi (by kernel_rfl)) xA xsQ
variable {σ : Type} {I : Port Tryz.prog σ}
theorem xsR (hl : SoundL I ka9) : SoundF I 174 xiO := by
 refine sq hl xa Tryz.func174 fun args H t ht => ?_
 unfold xiO at ht
 split at ht
 ·rename_i gc c it
  split at ht
  ·rename_i g hg
   obtain rfl := xe hg
   cases ht
   refine (xE (P := Tryz.prog) (n := xa) (x := (lsAt VL .no [1, 1, 0, 1, 0])) (fn := Tryz.f174) (H := []) (c := Tryz.f174.body.getD .skip) (xi (by kernel_rfl)) xoX).symm.trans ?_
   refine Eq.trans ?_ (xoU g c it _).symm
   kernel_rfl
  ·cases ht
 ·cases ht
def xec : Sm := fun
 | [.c .port, .agg gc, .c (.int .i64 c)], [] => (match xu gc with
   | some g => some (mkS ((Int × Bool)) (qE g c) fun r => some (.tup [.c (.int .u64 r.1), .c (.bool r.2)], []))
   | _ => none)
 | _, _ => none
theorem xlL : Good Tryz.prog (xo ka9) xa 0 (lsAt XK (lsAt wY .no [0, 1, 0, 1, 0]) [1, 1, 0]) (Tryz.f258.body.getD .skip) (xq Tryz.f258.results.toList) := xB (xi (by kernel_rfl)) (qQ (p := [1, 1, 0]) (q := [0, 1, 0, 1, 0]) (xi (fn := Tryz.f258) (by kernel_rfl)) xA xoV (by kernel_rfl)) xoW
theorem xoY (hl : SoundL I ka9) : SoundF I 258 xec := by
 refine sq hl xa Tryz.func258 fun args H t ht => ?_
 unfold xec at ht
 split at ht
 ·rename_i gc c
  split at ht
  ·rename_i g hg
   obtain rfl := xe hg
   cases ht
   refine (xE (P := Tryz.prog) (n := xa) (x := (lsAt XK (lsAt wY .no [0, 1, 0, 1, 0]) [1, 1, 0])) (fn := Tryz.f258) (H := []) (c := Tryz.f258.body.getD .skip) (xi (by kernel_rfl)) xlL).symm.trans ?_
   refine Eq.trans ?_ (xlK g c _).symm
   kernel_rfl
  ·cases ht
 ·cases ht
def ka10 : List (Nat × Sm) := (174, xiO) :: (258, xec) :: ka9
theorem xiP : SoundL I ka10 := (.cons (xsR s_ka9) (.cons (xoY s_ka9) s_ka9))
end Lx
namespace Lx
open Go
set_option maxRecDepth 1000000
def xiQ {β : Type} (g : Geo) (c it : Int) (κ : Bool -> T β) : T β :=
 (Xk g c).bind fun r0 =>
 bif r0 then (κ (false)) else
 bif it == 0 then (κ (false)) else
 (xhh g c it).bind fun r3 =>
 bif !r3 then (κ (false)) else
 .op (.add (atF g 5 c) (1)) fun x5 =>
 κ (true)
def xhi (g : Geo) (c it : Int) : T Bool := xiQ g c it .ret
theorem xoZ {β : Type} (g : Geo) (c it : Int) (κ : Bool -> T β) : (xhi g c it).bind κ = xiQ g c it κ := by
 unfold xhi xiQ
 first | rfl | simp only [bz]
def VM {β : Type} (g : Geo) (o c : Int) (κ : (Fnd × Int) -> T β) : T β :=
 (qE g c).bind fun r0 =>
 κ (⟨(i64.wrap (i64.wrap r0.1 - 1)), (r0.2), (0)⟩, (o))
def VN (g : Geo) (o c : Int) : T (Fnd × Int) := VM g o c .ret
theorem xiR {β : Type} (g : Geo) (o c : Int) (κ : (Fnd × Int) -> T β) : (VN g o c).bind κ = VM g o c κ := by
 unfold VN VM
 first | rfl | simp only [bz]
def VO {β : Type} (a0 a3 : Int) (g4 : Geo) (κ0 : Int -> T β) (i : Int × Bool × Int) (k : Int × Bool × Int -> T β) : T β :=
 bif i.2.1 then ((xf g4 i.2.2 (i64.wrap (i64.wrap i.1 - 1))).bind fun r1 =>
 (qE g4 a0).bind fun r2 =>
 k (r2.1, r2.2, r1.2)) else
 κ0 (i.2.2)
def jN {β : Type} (a0 a3 : Int) (g4 : Geo) (a1 : Int) (b2 : Bool) (a5 : Int) (κ0 : Int -> T β) : T β := xr xa (VO a0 a3 g4 κ0) (a1, b2, a5)
theorem xgl {β γ : Type} (a0 a3 : Int) (g4 : Geo) (a1 : Int) (b2 : Bool) (a5 : Int) (κ0 : Int -> T β) (κ : β -> T γ) : (jN a0 a3 g4 a1 b2 a5 κ0).bind κ = jN a0 a3 g4 a1 b2 a5 (fun ae2 => (κ0 ae2).bind κ) := by
 unfold jN
 refine xj κ (fun i k => ?_) _ _
 unfold VO
 first | rfl | simp only [bz]
def xhj : Pat := ⟨xm 40 0 [(0, .c (.raw (.ptr 0 0))), (2, .c (.int .i64)), (3, .c (.int .u64)), (4, .c (.bool)), (5, .c (.int .i64))], [some ⟨[.raw (.port), .geo, .int .u64], 150, false, none⟩]⟩
def qF : Pat := ⟨xm 40 0 [(0, .c (.raw (.ptr 0 0))), (5, .c (.int .i64))], [some ⟨[.raw (.port), .geo, .int .u64], 150, false, none⟩]⟩
def jO : LF := fun st K => match xt xhj st with
 | some [.i a0, .i a1, .b b2, .i a3, .g g4, .i a5] => some (jN a0 a3 g4 a1 b2 a5 (fun ae2 => K (.exit 2) (xc qF [.i a3, .g g4, .i ae2])))
 | _ => none
theorem xsS : ∀ st K t, jO st K = some t -> xz xa (lf ka10 xa 1 .no [1, 0, 0, 1, 1, 0, 0, 1, 1, 0] Tryz.f241 K) st = t := by
 intro st K t h
 unfold jO at h
 split at h
 ·rename_i a0 a1 b2 a3 g4 a5 hm
  cases h
  rw [xk hm]
  exact cast (by kernel_rfl) (xv (F := lf ka10 xa 1 .no [1, 0, 0, 1, 1, 0, 0, 1, 1, 0] Tryz.f241 K) (S := fun i => xc xhj [.i a0, .i (i.1), .b (i.2.1), .i a3, .g g4, .i (i.2.2)]) (B := VO a0 a3 g4 (fun ae2 => K (.exit 2) (xc qF [.i a3, .g g4, .i ae2]))) (fun i k => by kernel_rfl) xa (a1, b2, a5))
 ·cases h
def VP {β : Type} (g1 : Geo) (κ0 : Int -> T β) (i : Int × Int) (k : Int × Int -> T β) : T β :=
 bif decide (i.1 < 4) then ((qE g1 i.1).bind fun r1 =>
 jN (i.1) (i.1) g1 (r1.1) (r1.2) (i.2) (fun y2_0 =>
 k (i64.wrap (i.1 + 1), y2_0))) else
 κ0 (i.2)
def jP {β : Type} (g1 : Geo) (a0 a2 : Int) (κ0 : Int -> T β) : T β := xr xa (VP g1 κ0) (a0, a2)
theorem xgm {β γ : Type} (g1 : Geo) (a0 a2 : Int) (κ0 : Int -> T β) (κ : β -> T γ) : (jP g1 a0 a2 κ0).bind κ = jP g1 a0 a2 (fun ae1 => (κ0 ae1).bind κ) := by
 unfold jP
 refine xj κ (fun i k => ?_) _ _
 unfold VP
 first | rfl | simp only [bz, xgl]
def xed : Pat := ⟨xm 40 0 [], [some ⟨[.raw (.port), .geo, .int .u64], 150, false, none⟩]⟩
def VQ : LF := fun st K => match xt qF st with
 | some [.i a0, .g g1, .i a2] => some (jP g1 a0 a2 (fun ae1 => K (.exit 0) (xc xed [.g g1, .i ae1])))
 | _ => none
theorem xsT : ∀ st K t, VQ st K = some t -> xz xa (lf ka10 xa 1 (lsAt jO .no [1, 1, 0, 0, 1, 1, 0]) [1, 0] Tryz.f241 K) st = t := by
 intro st K t h
 unfold VQ at h
 split at h
 ·rename_i a0 g1 a2 hm
  cases h
  rw [xk hm]
  exact cast (by kernel_rfl) (xv (F := lf ka10 xa 1 (lsAt jO .no [1, 1, 0, 0, 1, 1, 0]) [1, 0] Tryz.f241 K) (S := fun i => xc qF [.i (i.1), .g g1, .i (i.2)]) (B := VP g1 (fun ae1 => K (.exit 0) (xc xed [.g g1, .i ae1]))) (fun i k => by kernel_rfl) xa (a0, a2))
 ·cases h
def xiS {β : Type} (g : Geo) (o : Int) (κ : (Unit × Int) -> T β) : T β :=
 jP (g) (0) (o) (fun y0_0 =>
 κ ((), y0_0))
def xhk (g : Geo) (o : Int) : T (Unit × Int) := xiS g o .ret
theorem xo0 {β : Type} (g : Geo) (o : Int) (κ : (Unit × Int) -> T β) : (xhk g o).bind κ = xiS g o κ := by
 unfold xhk xiS
 first | rfl | simp only [bz, xgm]
def xrL : Sm := gS fun
 | g, [.c (.int .i64 c), .c (.int .u64 it)] => some (mkS (Bool) (xhi g c it) fun r => some (.c (.bool r), []))
 | _, _ => none
variable {σ : Type} {I : Port Tryz.prog σ}
theorem xsU (hl : SoundL I ka10) : SoundF I 90 xrL := by
 refine gsq hl 1 Tryz.func90 fun g l t ht => ?_
 split at ht
 ·rename_i c it
  cases ht
  refine Eq.trans ?_ (xoZ g c it _).symm
  kernel_rfl
 ·cases ht
def xaN : Sm := fun
 | [.c (.ptr 0 0), .c (.int .i64 c)], [some ⟨.port :: gc, 150, false, none⟩] => (match hdOf gc with
   | some (g, o) => some (mkS ((Fnd × Int)) (VN g o c) fun r => some (.agg r.1.cells, [some ⟨.port :: (g.cells ++ [.int .u64 r.2]), 150, false, none⟩]))
   | _ => none)
 | _, _ => none
theorem xlM (hl : SoundL I ka10) : SoundF I 225 xaN := by
 refine sq hl 1 Tryz.func225 fun args H t ht => ?_
 unfold xaN at ht
 split at ht
 ·rename_i c gc
  split at ht
  ·rename_i g o hg
   obtain rfl := yt hg
   cases ht
   refine Eq.trans ?_ (xiR g o c _).symm
   kernel_rfl
  ·cases ht
 ·cases ht
def xiT : Sm := fun
 | [.c (.ptr 0 0)], [some ⟨.port :: gc, 150, false, none⟩] => (match hdOf gc with
   | some (g, o) => some (mkS ((Unit × Int)) (xhk g o) fun r => some (.tup [], [some ⟨.port :: (g.cells ++ [.int .u64 r.2]), 150, false, none⟩]))
   | _ => none)
 | _, _ => none
theorem xo1 : Good Tryz.prog (xo ka10) xa 1 (lsAt VQ (lsAt jO .no [1, 1, 0, 0, 1, 1, 0]) [1, 0]) (Tryz.f241.body.getD .skip) (xq Tryz.f241.results.toList) := xB (xi (by kernel_rfl)) (qQ (p := [1, 0]) (q := [1, 1, 0, 0, 1, 1, 0]) (xi (fn := Tryz.f241) (by kernel_rfl)) xA xsS (by kernel_rfl)) xsT
theorem xsV (hl : SoundL I ka10) : SoundF I 241 xiT := by
 refine sq hl xa Tryz.func241 fun args H t ht => ?_
 unfold xiT at ht
 split at ht
 ·rename_i gc
  split at ht
  ·rename_i g o hg
   obtain rfl := yt hg
   cases ht
   refine (xE (P := Tryz.prog) (n := xa) (x := (lsAt VQ (lsAt jO .no [1, 1, 0, 0, 1, 1, 0]) [1, 0])) (fn := Tryz.f241) (H := [some ⟨.port :: (g.cells ++ [.int .u64 o]), 150, false, none⟩]) (c := Tryz.f241.body.getD .skip) (xi (by kernel_rfl)) xo1).symm.trans ?_
   refine Eq.trans ?_ (xo0 g o _).symm
   kernel_rfl
  ·cases ht
 ·cases ht
def ka11 : List (Nat × Sm) := (90, xrL) :: (225, xaN) :: (241, xiT) :: ka10
theorem xee : SoundL I ka11 := (.cons (xsU xiP) (.cons (xlM xiP) (.cons (xsV xiP) xiP)))
end Lx
namespace Lx
open Go
set_option maxRecDepth 1000000
def xcY {β : Type} (g : Geo) (o : Int) (κ : (Bool × Int) -> T β) : T β :=
 (YU g o).bind fun r0 =>
 (xhk g r0.2).bind fun r1 =>
 (qm g r1.2).bind fun r2 =>
 (tryT g).bind fun r3 =>
 bif !r3 then (κ ((false), (r2.2))) else
 (vk g).bind fun r5 =>
 (yC g r2.2 r5).bind fun r6 =>
 (qn g r6.2).bind fun r7 =>
 (Xm g).bind fun r8 =>
 κ ((true), (r7.2))
def ZI (g : Geo) (o : Int) : T (Bool × Int) := xcY g o .ret
theorem xlN {β : Type} (g : Geo) (o : Int) (κ : (Bool × Int) -> T β) : (ZI g o).bind κ = xcY g o κ := by
 unfold ZI xcY
 first | rfl | simp only [bz]
def XL {β : Type} (g : Geo) (k : Int) (κ : Unit -> T β) : T β :=
 (jC g).bind fun r0 =>
 bif r0 then (κ ()) else
 bif atF g 11 k == (-1) then (κ ()) else
 (vQ g k).bind fun r3 =>
 bif r3.kind == 4 then ((markT g (i64.wrap (Int.tdiv k 8)) r3.len).bind fun r5 =>
 bif r5 then ((yC g 0 1).bind fun r7 =>
 (qo g r7.2).bind fun r8 =>
 κ ()) else
 κ ()) else
 bif r3.kind != 3 then (κ ()) else
 .op (.self ) fun x6 =>
 bif r3.owner != x6 then ((xik g k).bind fun r8 =>
 (yC g 0 1).bind fun r9 =>
 κ ()) else
 (xib g r3.cls (u64.wrap (u64.wrap k + 1))).bind fun r8 =>
 bif r8 then ((yC g 0 1).bind fun r10 =>
 κ ()) else
 (xhi g r3.cls (u64.wrap (u64.wrap k + 1))).bind fun r10 =>
 bif r10 then ((yC g 0 1).bind fun r12 =>
 κ ()) else
 (Vb g k).bind fun r12 =>
 (yC g 0 1).bind fun r13 =>
 κ ()
def vE (g : Geo) (k : Int) : T Unit := XL g k .ret
theorem xgn {β : Type} (g : Geo) (k : Int) (κ : Unit -> T β) : (vE g k).bind κ = XL g k κ := by
 unfold vE XL
 first | rfl | simp only [bz]
def XM {β : Type} (a0 a3 : Int) (g4 g5 : Geo) (κ0 : Int -> T β) (i : Int × Bool × Int) (k : Int × Bool × Int -> T β) : T β :=
 bif i.2.1 then ((xf g5 i.2.2 (i64.wrap (i64.wrap i.1 - 1))).bind fun r1 =>
 (jD g4 a0).bind fun r2 =>
 k (r2.1, r2.2, r1.2)) else
 κ0 (i.2.2)
def ka {β : Type} (a0 a3 : Int) (g4 g5 : Geo) (a1 : Int) (b2 : Bool) (a6 : Int) (κ0 : Int -> T β) : T β := xr xa (XM a0 a3 g4 g5 κ0) (a1, b2, a6)
theorem xef {β γ : Type} (a0 a3 : Int) (g4 g5 : Geo) (a1 : Int) (b2 : Bool) (a6 : Int) (κ0 : Int -> T β) (κ : β -> T γ) : (ka a0 a3 g4 g5 a1 b2 a6 κ0).bind κ = ka a0 a3 g4 g5 a1 b2 a6 (fun ae4 => (κ0 ae4).bind κ) := by
 unfold ka
 refine xj κ (fun i k => ?_) _ _
 unfold XM
 first | rfl | simp only [bz]
def xeg : Pat := ⟨xm 42 0 [(0, .c (.raw (.port))), (3, .c (.raw (.ptr 0 0))), (4, .c (.raw (.ptr 1 0))), (5, .c (.int .i64)), (6, .c (.int .u64)), (7, .c (.bool)), (15, .c (.int .i64))], [some ⟨[.geo], 24, false, none⟩, some ⟨[.raw (.port), .geo, .int .u64], 150, false, none⟩]⟩
def xb1 : Pat := ⟨xm 42 0 [(0, .c (.raw (.port))), (3, .c (.raw (.ptr 0 0))), (4, .c (.raw (.ptr 1 0))), (5, .c (.int .i64)), (15, .c (.int .i64))], [some ⟨[.geo], 24, false, none⟩, some ⟨[.raw (.port), .geo, .int .u64], 150, false, none⟩]⟩
def ke : LF := fun st K => match xt xeg st with
 | some [.i a0, .i a1, .b b2, .i a3, .g g4, .g g5, .i a6] => some (ka a0 a3 g4 g5 a1 b2 a6 (fun ae4 => K (.exit 2) (xc xb1 [.i a0, .i a3, .g g4, .g g5, .i ae4])))
 | _ => none
theorem xo2 : ∀ st K t, ke st K = some t -> xz xa (lf ka11 xa 0 .no [1, 1, 1, 1, 0, 0, 1, 1, 0, 0, 1, 0, 1, 0] Tryz.f134 K) st = t := by
 intro st K t h
 unfold ke at h
 split at h
 ·rename_i a0 a1 b2 a3 g4 g5 a6 hm
  cases h
  rw [xk hm]
  exact cast (by kernel_rfl) (xv (F := lf ka11 xa 0 .no [1, 1, 1, 1, 0, 0, 1, 1, 0, 0, 1, 0, 1, 0] Tryz.f134 K) (S := fun i => xc xeg [.i a0, .i (i.1), .b (i.2.1), .i a3, .g g4, .g g5, .i (i.2.2)]) (B := XM a0 a3 g4 g5 (fun ae4 => K (.exit 2) (xc xb1 [.i a0, .i a3, .g g4, .g g5, .i ae4]))) (fun i k => by kernel_rfl) xa (a1, b2, a6))
 ·cases h
def XN {β : Type} (g1 g2 : Geo) (κ0 : Unit -> T β) (i : Int × Int) (k : Int × Int -> T β) : T β :=
 bif decide (i.1 < 4) then ((jD g1 i.1).bind fun r1 =>
 ka (i.1) (i.1) g1 g2 (r1.1) (r1.2) (i.2) (fun y2_0 =>
 (ZH g1 i.1).bind fun r3 =>
 k (i64.wrap (i.1 + 1), y2_0))) else
 κ0 ()
def kf {β : Type} (g1 g2 : Geo) (a0 a3 : Int) (κ0 : Unit -> T β) : T β := xr xa (XN g1 g2 κ0) (a0, a3)
theorem xeh {β γ : Type} (g1 g2 : Geo) (a0 a3 : Int) (κ0 : Unit -> T β) (κ : β -> T γ) : (kf g1 g2 a0 a3 κ0).bind κ = kf g1 g2 a0 a3 (fun u => (κ0 u).bind κ) := by
 unfold kf
 refine xj κ (fun i k => ?_) _ _
 unfold XN
 first | rfl | simp only [bz, xef]
def xei : Pat := ⟨xm 42 0 [(0, .c (.raw (.port))), (3, .c (.raw (.ptr 0 0))), (4, .c (.raw (.ptr 1 0))), (15, .c (.int .i64))], [some ⟨[.geo], 24, false, none⟩, some ⟨[.raw (.port), .geo, .int .u64], 150, false, none⟩]⟩
def xb2 : Pat := ⟨xm 42 0 [], []⟩
def XO : LF := fun st K => match xt xei st with
 | some [.i a0, .g g1, .g g2, .i a3] => some (kf g1 g2 a0 a3 (fun _ => K (.exit 0) (xc xb2 [])))
 | _ => none
theorem xo3 : ∀ st K t, XO st K = some t -> xz xa (lf ka11 xa 0 (lsAt ke .no [1, 1, 0, 0, 1, 0, 1, 0]) [1, 1, 1, 1, 0] Tryz.f134 K) st = t := by
 intro st K t h
 unfold XO at h
 split at h
 ·rename_i a0 g1 g2 a3 hm
  cases h
  rw [xk hm]
  exact cast (by kernel_rfl) (xv (F := lf ka11 xa 0 (lsAt ke .no [1, 1, 0, 0, 1, 0, 1, 0]) [1, 1, 1, 1, 0] Tryz.f134 K) (S := fun i => xc xei [.i (i.1), .g g1, .g g2, .i (i.2)]) (B := XN g1 g2 (fun _ => K (.exit 0) (xc xb2 []))) (fun i k => by kernel_rfl) xa (a0, a3))
 ·cases h
def xcZ {β : Type} (g : Geo) (κ : Unit -> T β) : T β :=
 (jC g).bind fun r0 =>
 bif r0 then (κ ()) else
 kf (g) (g) (0) (0) (fun y2_0 =>
 κ ())
def xaO (g : Geo) : T Unit := xcZ g .ret
theorem xlO {β : Type} (g : Geo) (κ : Unit -> T β) : (xaO g).bind κ = xcZ g κ := by
 unfold xaO xcZ
 first | rfl | simp only [bz, xeh]
def xej : Sm := fun
 | [.c (.ptr 0 0)], [some ⟨.port :: gc, 150, false, none⟩] => (match hdOf gc with
   | some (g, o) => some (mkS ((Bool × Int)) (ZI g o) fun r => some (.c (.bool r.1), [some ⟨.port :: (g.cells ++ [.int .u64 r.2]), 150, false, none⟩]))
   | _ => none)
 | _, _ => none
variable {σ : Type} {I : Port Tryz.prog σ}
theorem xo4 (hl : SoundL I ka11) : SoundF I 179 xej := by
 refine sq hl 1 Tryz.func179 fun args H t ht => ?_
 unfold xej at ht
 split at ht
 ·rename_i gc
  split at ht
  ·rename_i g o hg
   obtain rfl := yt hg
   cases ht
   refine Eq.trans ?_ (xlN g o _).symm
   kernel_rfl
  ·cases ht
 ·cases ht
def Wt : Sm := gS fun
 | g, [.c (.int .i64 k)] => some (mkS (Unit) (vE g k) fun r => some (.tup [], []))
 | _, _ => none
theorem VR (hl : SoundL I ka11) : SoundF I 27 Wt := by
 refine gsq hl 1 Tryz.func27 fun g l t ht => ?_
 split at ht
 ·rename_i k
  cases ht
  refine Eq.trans ?_ (xgn g k _).symm
  kernel_rfl
 ·cases ht
def xek : Sm := fun
 | [.c .port, .agg gc], [] => (match xu gc with
   | some g => some (mkS (Unit) (xaO g) fun r => some (.tup [], []))
   | _ => none)
 | _, _ => none
theorem xlP : Good Tryz.prog (xo ka11) xa 0 (lsAt XO (lsAt ke .no [1, 1, 0, 0, 1, 0, 1, 0]) [1, 1, 1, 1, 0]) (Tryz.f134.body.getD .skip) (xq Tryz.f134.results.toList) := xB (xi (by kernel_rfl)) (qQ (p := [1, 1, 1, 1, 0]) (q := [1, 1, 0, 0, 1, 0, 1, 0]) (xi (fn := Tryz.f134) (by kernel_rfl)) xA xo2 (by kernel_rfl)) xo3
theorem xo5 (hl : SoundL I ka11) : SoundF I 134 xek := by
 refine sq hl xa Tryz.func134 fun args H t ht => ?_
 unfold xek at ht
 split at ht
 ·rename_i gc
  split at ht
  ·rename_i g hg
   obtain rfl := xe hg
   cases ht
   refine (xE (P := Tryz.prog) (n := xa) (x := (lsAt XO (lsAt ke .no [1, 1, 0, 0, 1, 0, 1, 0]) [1, 1, 1, 1, 0])) (fn := Tryz.f134) (H := []) (c := Tryz.f134.body.getD .skip) (xi (by kernel_rfl)) xlP).symm.trans ?_
   refine Eq.trans ?_ (xlO g _).symm
   kernel_rfl
  ·cases ht
 ·cases ht
def ka12 : List (Nat × Sm) := (179, xej) :: (27, Wt) :: (134, xek) :: ka11
theorem xo6 : SoundL I ka12 := (.cons (xo4 xee) (.cons (VR xee) (.cons (xo5 xee) xee)))
end Lx
namespace Lx
open Go
set_option maxRecDepth 1000000
def VS {β : Type} (g : Geo) (o c : Int) (κ : (Fnd × Int) -> T β) : T β :=
 (YH g o c).bind fun r0 =>
 bif r0.1.ok then (κ (⟨(r0.1.grain), (r0.1.ok), (r0.1.e)⟩, (r0.2))) else
 bif r0.1.e != 0 then (κ (⟨(r0.1.grain), (r0.1.ok), (r0.1.e)⟩, (r0.2))) else
 (VN g r0.2 c).bind fun r3 =>
 bif r3.1.ok then (κ (⟨(r3.1.grain), (r3.1.ok), (r3.1.e)⟩, (r3.2))) else
 bif r3.1.e != 0 then (κ (⟨(r3.1.grain), (r3.1.ok), (r3.1.e)⟩, (r3.2))) else
 (YR g r3.2 c).bind fun r6 =>
 bif r6.1.ok then (κ (⟨(r6.1.grain), (r6.1.ok), (r6.1.e)⟩, (r6.2))) else
 bif r6.1.e != 0 then (κ (⟨(r6.1.grain), (r6.1.ok), (r6.1.e)⟩, (r6.2))) else
 (Vf g r6.2 c).bind fun r9 =>
 bif r9.1.ok then (κ (⟨(r9.1.grain), (r9.1.ok), (r9.1.e)⟩, (r9.2))) else
 bif r9.1.e != 0 then (κ (⟨(r9.1.grain), (r9.1.ok), (r9.1.e)⟩, (r9.2))) else
 (Vg g r9.2 c).bind fun r12 =>
 bif r12.1.ok then (κ (⟨(r12.1.grain), (r12.1.ok), (r12.1.e)⟩, (r12.2))) else
 bif r12.1.e != 0 then (κ (⟨(r12.1.grain), (r12.1.ok), (r12.1.e)⟩, (r12.2))) else
 κ (⟨(0), (false), (0)⟩, (r12.2))
def XP (g : Geo) (o c : Int) : T (Fnd × Int) := VS g o c .ret
theorem xiU {β : Type} (g : Geo) (o c : Int) (κ : (Fnd × Int) -> T β) : (XP g o c).bind κ = VS g o c κ := by
 unfold XP VS
 first | rfl | simp only [bz]
def XQ {β : Type} (g : Geo) (o c : Int) (κ : (Fnd × Int) -> T β) : T β :=
 (Vf g o c).bind fun r0 =>
 bif r0.1.ok then (κ (⟨(r0.1.grain), (r0.1.ok), (r0.1.e)⟩, (r0.2))) else
 bif r0.1.e != 0 then (κ (⟨(r0.1.grain), (r0.1.ok), (r0.1.e)⟩, (r0.2))) else
 (Vg g r0.2 c).bind fun r3 =>
 bif r3.1.ok then (κ (⟨(r3.1.grain), (r3.1.ok), (r3.1.e)⟩, (r3.2))) else
 bif r3.1.e != 0 then (κ (⟨(r3.1.grain), (r3.1.ok), (r3.1.e)⟩, (r3.2))) else
 κ (⟨(0), (false), (0)⟩, (r3.2))
def jQ (g : Geo) (o c : Int) : T (Fnd × Int) := XQ g o c .ret
theorem xgo {β : Type} (g : Geo) (o c : Int) (κ : (Fnd × Int) -> T β) : (jQ g o c).bind κ = XQ g o c κ := by
 unfold jQ XQ
 first | rfl | simp only [bz]
def xaP : Sm := fun
 | [.c (.ptr 0 0), .c (.int .i64 c), .c (.sl 1 0 5 5)], [some ⟨.port :: gc, 150, false, none⟩, some ⟨[.fn 224 [], .fn 225 [], .fn 226 [], .fn 227 [], .fn 228 []], 215, false, none⟩] => (match hdOf gc with
   | some (g, o) => some (mkS ((Fnd × Int)) (XP g o c) fun r => some (.agg r.1.cells, [some ⟨.port :: (g.cells ++ [.int .u64 r.2]), 150, false, none⟩, some ⟨[.fn 224 [], .fn 225 [], .fn 226 [], .fn 227 [], .fn 228 []], 215, false, none⟩]))
   | _ => none)
 | _, _ => none
variable {σ : Type} {I : Port Tryz.prog σ}
theorem xlQ (hl : SoundL I ka12) : SoundF I 158 xaP := by
 refine sq hl 7 Tryz.func158 fun args H t ht => ?_
 unfold xaP at ht
 split at ht
 ·rename_i c gc
  split at ht
  ·rename_i g o hg
   obtain rfl := yt hg
   cases ht
   refine Eq.trans ?_ (xiU g o c _).symm
   kernel_rfl
  ·cases ht
 ·cases ht
def Wu : Sm := fun
 | [.c (.ptr 0 0), .c (.int .i64 c), .c (.sl 1 0 2 2)], [some ⟨.port :: gc, 150, false, none⟩, some ⟨[.fn 227 [], .fn 228 []], 217, false, none⟩] => (match hdOf gc with
   | some (g, o) => some (mkS ((Fnd × Int)) (jQ g o c) fun r => some (.agg r.1.cells, [some ⟨.port :: (g.cells ++ [.int .u64 r.2]), 150, false, none⟩, some ⟨[.fn 227 [], .fn 228 []], 217, false, none⟩]))
   | _ => none)
 | _, _ => none
theorem xiV (hl : SoundL I ka12) : SoundF I 158 Wu := by
 refine sq hl 7 Tryz.func158 fun args H t ht => ?_
 unfold Wu at ht
 split at ht
 ·rename_i c gc
  split at ht
  ·rename_i g o hg
   obtain rfl := yt hg
   cases ht
   refine Eq.trans ?_ (xgo g o c _).symm
   kernel_rfl
  ·cases ht
 ·cases ht
def xhl : List (Nat × Sm) := (158, (orSm xaP Wu)) :: ka12
theorem VT : SoundL I xhl := (.cons (SoundF.or (xlQ xo6) (xiV xo6)) xo6)
end Lx
end Go.Proofs.YtaegelbaghaooaaGreat
