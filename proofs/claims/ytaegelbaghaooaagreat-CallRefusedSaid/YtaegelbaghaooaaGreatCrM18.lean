/- Part. -/
import Derived.Test.YtaegelbaghaooaaGreatCrM11
import Derived.Test.YtaegelbaghaooaaGreatCrLxMrg
set_option linter.all false
open Go.IntKind (i64 u64 u32 u8)
set_option maxRecDepth 1000000
namespace Go.Proofs.YtaegelbaghaooaaGreat
namespace Lx
variable {β : Type} (g : Geo)
open Go
def Wq (n0 : Nat) (a1 a2 a3 : Int) (l5 : IntsL) (κ0 : Int -> T β) (κ1 : Unit -> T β) (i : Int) (k : Int -> T β) : T β :=
 bif decide (i < a3) then (bif decide ((0 : Int) <= i /\ i < ↑n0) then (bif inR (List.length l5) i then (bif a1 == getI l5 (Int.toNat i) then (κ0 (i)) else
 k (i64.wrap (i + 1))) else
 .fail) else
 .fail) else
 κ1 ()
def vB (n0 : Nat) (a1 a2 a3 : Int) (l5 : IntsL) (a4 : Int) (κ0 : Int -> T β) (κ1 : Unit -> T β) : T β := xq xa (Wq n0 a1 a2 a3 l5 κ0 κ1) a4
theorem xci {β γ : Type} (n0 : Nat) (a1 a2 a3 : Int) (l5 : IntsL) (a4 : Int) (κ0 : Int -> T β) (κ1 : Unit -> T β) (κ : β -> T γ) : (vB n0 a1 a2 a3 l5 a4 κ0 κ1).bind κ = vB n0 a1 a2 a3 l5 a4 (fun ae0 => (κ0 ae0).bind κ) (fun u => (κ1 u).bind κ) := by
 unfold vB
 refine xj κ (fun i k => ?_) _ _
 unfold Wq
 simp only [bz]
def xbO : Pat := ⟨xm 19 0 [(0, .c (.slr 0)), (1, .c (.int .i64)), (4, .c (.int .i64)), (7, .c (.int .i64)), (8, .c (.int .i64))], [some ⟨[], 3, true, some (.col .i64)⟩]⟩
def VT : Pat := ⟨xm 19 0 [(4, .c (.int .i64))], [some ⟨[], 3, true, some (.col .i64)⟩]⟩
def qw : LF := fun st K => match xt xbO st with
 | some [.n n0, .i a1, .i a2, .i a3, .i a4, .l l5] => some (vB n0 a1 a2 a3 l5 a4 (fun ae0 => K (.ret) (xd VT [.i ae0, .l l5])) (fun _ => K (.exit 0) (xd VT [.i a2, .l l5])))
 | _ => none
theorem xng : ∀ st K t, qw st K = some t -> xB xa (lf ka8 xa 1 .no [1, 0, 1, 0] Tryz.f271 K) st = t := by
 intro st K t h
 unfold qw at h
 split at h
 ·rename_i n0 a1 a2 a3 a4 l5 hm
  cases h
  rw [xk hm]
  unfold vB
  exact xu (S := fun (i : Int) => xd xbO [.n n0, .i a1, .i a2, .i a3, .i i, .l l5]) (fun i k => by kernel_rfl) xa a4
 ·cases h
def VU (n : Nat) (L : IntsL) (x : Int) (κ : Int -> T β) : T β :=
 vB (n) (x) (0) (↑n) (L) (0) (fun y0_0 =>
 κ y0_0) (fun y0_0 =>
 κ ((-1)))
def VV (n : Nat) (L : IntsL) (x : Int) : T Int := VU n L x .ret
theorem xkj (n : Nat) (L : IntsL) (x : Int) (κ : Int -> T β) : (VV n L x).bind κ = VU n L x κ := by
 unfold VV VU
 simp only [bz, xci]
def xaS : Sm := fun
 | [.c (.slr 0 n), .c (.int .i64 x)], [some ⟨[], 3, true, some (.col .i64 L)⟩] => some (mkS (Int) (VV n L x) fun r => some (.c (.int .i64 r), [some ⟨[], 3, true, some (.col .i64 L)⟩]))
 | _, _ => none
theorem xkk : Good Tryz.prog (xo ka8) xa 1 (lsAt qw .no [1, 0, 1, 0]) (Tryz.f271.body.getD .skip) (xr Tryz.f271.results.toList) := (xA (xh (by kernel_rfl)) xz xng)
variable {σ : Type} {I : Port Tryz.prog σ}
theorem xnh (hl : SoundL I ka8) : SoundF I 271 xaS := by
 refine sq hl xa Tryz.func271 fun _ _ t ht => ?_
 unfold xaS at ht
 split at ht
 ·rename_i n x L
  cases ht
  refine (xD (P := Tryz.prog) (n := xa) (x := (lsAt qw .no [1, 0, 1, 0])) (fn := Tryz.f271) (H := [some ⟨[], 3, true, some (.col .i64 L)⟩]) (c := Tryz.f271.body.getD .skip) (xh (by kernel_rfl)) xkk).symm.trans ?_
  exact ey (xkj n L x _)
 ·cases ht
def ka8b : List (Nat × Sm) := (271, xaS) :: ka8
theorem xwb : SoundL I ka8b := (.cons (xnh s_ka8) s_ka8)
end Lx
namespace Lx
variable {β : Type} (g : Geo)
open Go
def xcZ (n : Nat) (L : IntsL) (x : Int) (κ : Bool -> T β) : T β :=
 (VV n L x).bind fun r0 =>
 κ (decide (r0 >= 0))
def xaT (n : Nat) (L : IntsL) (x : Int) : T Bool := xcZ n L x .ret
theorem xni (n : Nat) (L : IntsL) (x : Int) (κ : Bool -> T β) : (xaT n L x).bind κ = xcZ n L x κ := by
 unfold xaT xcZ
 simp only [bz]
def xeJ : Sm := fun
 | [.c (.slr 0 n), .c (.int .i64 x)], [some ⟨[], 3, true, some (.col .i64 L)⟩] => some (mkS (Bool) (xaT n L x) fun r => some (.c (.bool r), [some ⟨[], 3, true, some (.col .i64 L)⟩]))
 | _, _ => none
variable {σ : Type} {I : Port Tryz.prog σ}
theorem xqF (hl : SoundL I ka8b) : SoundF I 251 xeJ := by
 refine sq hl 1 Tryz.func251 fun _ _ t ht => ?_
 unfold xeJ at ht
 split at ht
 ·rename_i n x L
  cases ht
  exact ey (xni n L x _)
 ·cases ht
def ka8c : List (Nat × Sm) := (251, xeJ) :: ka8b
theorem xqG : SoundL I ka8c := (.cons (xqF xwb) xwb)
end Lx
namespace Lx
variable {β : Type} (g : Geo)
open Go
def xaU (a1 a2 a3 : Int) (g5 : Geo) (κ0 : Nat -> IntsL -> T β) (i : Nat × Int × IntsL) (k : Nat × Int × IntsL -> T β) : T β :=
 bif decide (i.2.1 < 2) then (.op (.load (atF g5 14 (inF a1 i.2.1 2))) fun x1 =>
 bif Nat.beq (List.length i.2.2) i.1 && Nat.ble i.1 1000 then (k (i.1 + 1, i64.wrap (i.2.1 + 1), i.2.2 ++ [i64.wrap x1])) else
 .fail) else
 κ0 (i.1) (i.2.2)
def vF (a1 a2 a3 : Int) (g5 : Geo) (n0 : Nat) (a4 : Int) (l6 : IntsL) (κ0 : Nat -> IntsL -> T β) : T β := xq xa (xaU a1 a2 a3 g5 κ0) (n0, a4, l6)
theorem xeK {β γ : Type} (a1 a2 a3 : Int) (g5 : Geo) (n0 : Nat) (a4 : Int) (l6 : IntsL) (κ0 : Nat -> IntsL -> T β) (κ : β -> T γ) : (vF a1 a2 a3 g5 n0 a4 l6 κ0).bind κ = vF a1 a2 a3 g5 n0 a4 l6 (fun ne0 le4 => (κ0 ne0 le4).bind κ) := by
 unfold vF
 refine xj κ (fun i k => ?_) _ _
 unfold xaU
 simp only [bz]
def xeL : Pat := ⟨xm 108 0 [(0, .c (.raw (.port))), (3, .c (.raw (.ptr 0 0))), (4, .c (.slr 1)), (5, .c (.int .i64)), (23, .c (.int .i64)), (24, .c (.int .i64)), (27, .c (.int .i64))], [some ⟨[.geo], 24, false, none⟩, some ⟨[], 3, true, some (.col .i64)⟩]⟩
def Zw : Pat := ⟨xm 108 0 [(0, .c (.raw (.port))), (3, .c (.raw (.ptr 0 0))), (4, .c (.slr 1)), (23, .c (.int .i64)), (24, .c (.int .i64))], [some ⟨[.geo], 24, false, none⟩, some ⟨[], 3, true, some (.col .i64)⟩]⟩
def jI : LF := fun st K => match xt xeL st with
 | some [.n n0, .i a1, .i a2, .i a3, .i a4, .g g5, .l l6] => some (vF a1 a2 a3 g5 n0 a4 l6 (fun ne0 le4 => K (.exit 2) (xd Zw [.n ne0, .i a2, .i a3, .g g5, .l le4])))
 | _ => none
theorem xqH : ∀ st K t, jI st K = some t -> xB xa (lf ka8c (⟨xa, [⟨4, 3, .col .i64⟩], true⟩ : Fu) 0 .no [1, 1, 1, 0, 1, 0, 0, 1, 1, 0, 0, 1, 1, 0] Tryz.f273 K) st = t := by
 intro st K t h
 unfold jI at h
 split at h
 ·rename_i n0 a1 a2 a3 a4 g5 l6 hm
  cases h
  rw [xk hm]
  unfold vF
  exact xu (S := fun (i : Nat × Int × IntsL) => xd xeL [.n (i.1), .i a1, .i a2, .i a3, .i (i.2.1), .g g5, .l (i.2.2)]) (fun i k => by kernel_rfl) xa (n0, a4, l6)
 ·cases h
def xaV (a1 : Int) (g3 : Geo) (κ0 : Nat -> IntsL -> T β) (i : Nat × Int × IntsL) (k : Nat × Int × IntsL -> T β) : T β :=
 bif decide (i.2.1 < a1) then (vF (i.2.1) a1 (i.2.1) g3 (i.1) (0) (i.2.2) (fun y1_0 y1_1 =>
 k (y1_0, i64.wrap (i.2.1 + 1), y1_1))) else
 κ0 (i.1) (i.2.2)
def vG (a1 : Int) (g3 : Geo) (n0 : Nat) (a2 : Int) (l4 : IntsL) (κ0 : Nat -> IntsL -> T β) : T β := xq xa (xaV a1 g3 κ0) (n0, a2, l4)
theorem xeM {β γ : Type} (a1 : Int) (g3 : Geo) (n0 : Nat) (a2 : Int) (l4 : IntsL) (κ0 : Nat -> IntsL -> T β) (κ : β -> T γ) : (vG a1 g3 n0 a2 l4 κ0).bind κ = vG a1 g3 n0 a2 l4 (fun ne0 le2 => (κ0 ne0 le2).bind κ) := by
 unfold vG
 refine xj κ (fun i k => ?_) _ _
 unfold xaV
 simp only [bz, xeK]
def xnj : Pat := ⟨xm 108 0 [(0, .c (.raw (.port))), (3, .c (.raw (.ptr 0 0))), (4, .c (.slr 1))], [some ⟨[.geo], 24, false, none⟩, some ⟨[], 3, true, some (.col .i64)⟩]⟩
def XP : LF := fun st K => match xt Zw st with
 | some [.n n0, .i a1, .i a2, .g g3, .l l4] => some (vG a1 g3 n0 a2 l4 (fun ne0 le2 => K (.exit 0) (xd xnj [.n ne0, .g g3, .l le2])))
 | _ => none
theorem xqI : ∀ st K t, XP st K = some t -> xB xa (lf ka8c (⟨xa, [⟨4, 3, .col .i64⟩], true⟩ : Fu) 0 (lsAt jI .no [1, 1, 0, 0, 1, 1, 0]) [1, 1, 1, 0, 1, 0] Tryz.f273 K) st = t := by
 intro st K t h
 unfold XP at h
 split at h
 ·rename_i n0 a1 a2 g3 l4 hm
  cases h
  rw [xk hm]
  unfold vG
  exact xu (S := fun (i : Nat × Int × IntsL) => xd Zw [.n (i.1), .i a1, .i (i.2.1), .g g3, .l (i.2.2)]) (fun i k => by kernel_rfl) xa (n0, a2, l4)
 ·cases h
def xaW (n0 : Nat) (a2 : Int) (g4 : Geo) (l5 : IntsL) (κ0 : Int -> T β) (i : Int × Int) (k : Int × Int -> T β) : T β :=
 bif decide (i.2 < a2) then (.op (.self ) fun x1 =>
 bif atF g4 16 (inF x1 i.2 (jl g4)) == (-1) then (κ0 (i.1)) else
 .op (.self ) fun x3 =>
 .op (.load (atF g4 16 (inF x3 i.2 (jl g4)))) fun x4 =>
 (xaT n0 l5 (i64.wrap x4)).bind fun r5 =>
 bif r5 then (.op (.self ) fun x7 =>
 .op (.store (atF g4 16 (inF x7 i.1 (jl g4))) (u64.wrap (i64.wrap x4))) fun _ =>
 k (i64.wrap (i.1 + 1), i64.wrap (i.2 + 1))) else
 (xhk g4 (i64.wrap x4)).bind fun r7 =>
 k (i.1, i64.wrap (i.2 + 1))) else
 κ0 (i.1)
def wk (n0 : Nat) (a2 : Int) (g4 : Geo) (l5 : IntsL) (a1 a3 : Int) (κ0 : Int -> T β) : T β := xq xa (xaW n0 a2 g4 l5 κ0) (a1, a3)
theorem xeN {β γ : Type} (n0 : Nat) (a2 : Int) (g4 : Geo) (l5 : IntsL) (a1 a3 : Int) (κ0 : Int -> T β) (κ : β -> T γ) : (wk n0 a2 g4 l5 a1 a3 κ0).bind κ = wk n0 a2 g4 l5 a1 a3 (fun ae0 => (κ0 ae0).bind κ) := by
 unfold wk
 refine xj κ (fun i k => ?_) _ _
 unfold xaW
 simp only [bz]
def xeO : Pat := ⟨xm 108 0 [(0, .c (.raw (.port))), (3, .c (.raw (.ptr 0 0))), (4, .c (.slr 1)), (7, .c (.int .i64)), (54, .c (.int .i64)), (55, .c (.int .i64))], [some ⟨[.geo], 24, false, none⟩, some ⟨[], 3, true, some (.col .i64)⟩]⟩
def xnk : Pat := ⟨xm 108 0 [(0, .c (.raw (.port))), (3, .c (.raw (.ptr 0 0))), (7, .c (.int .i64))], [some ⟨[.geo], 24, false, none⟩]⟩
def XQ : LF := fun st K => match xt xeO st with
 | some [.n n0, .i a1, .i a2, .i a3, .g g4, .l l5] => some (wk n0 a2 g4 l5 a1 a3 (fun ae0 => K (.exit 4) (xd xnk [.i ae0, .g g4])))
 | _ => none
theorem xqJ : ∀ st K t, XQ st K = some t -> xB xa (lf ka8c (⟨xa, [⟨4, 3, .col .i64⟩], true⟩ : Fu) 0 .no [1, 1, 1, 1, 1, 0, 1, 0] Tryz.f273 K) st = t := by
 intro st K t h
 unfold XQ at h
 split at h
 ·rename_i n0 a1 a2 a3 g4 l5 hm
  cases h
  rw [xk hm]
  unfold wk
  exact xu (S := fun (i : Int × Int) => xd xeO [.n n0, .i (i.1), .i a2, .i (i.2), .g g4, .l l5]) (fun i k => by kernel_rfl) xa (a1, a3)
 ·cases h
def xc0 (κ : Unit -> T β) : T β :=
 .op (.self ) fun x0 =>
 (wR g (atF g 15 x0)).bind fun r1 =>
 bif r1 then (κ ()) else
 vG (g.threads) (g) (0) (0) ([]) (fun y3_0 y3_1 =>
 .op (.self ) fun x4 =>
 .op (.load (atF g 15 x4)) fun x5 =>
 wk y3_0 (i64.wrap x5) (g) y3_1 (0) (0) (fun y6_0 =>
 .op (.self ) fun x7 =>
 .op (.store (atF g 15 x7) (u64.wrap y6_0)) fun _ =>
 κ ()))
def xaX : T Unit := xc0 g .ret
theorem xnl (κ : Unit -> T β) : (xaX g).bind κ = xc0 g κ := by
 unfold xaX xc0
 simp only [bz, xeM, xeN]
def VW : Sm := fun
 | [.c .port, .agg gc], [] => (match xv gc with
   | some g => some (mkS (Unit) (xaX g) fun r => some (.tup [], []))
   | _ => none)
 | _, _ => none
theorem xnm : Good Tryz.prog (xo ka8c) (⟨xa, [⟨4, 3, .col .i64⟩], true⟩ : Fu) 0 (mrg (lsAt XP (lsAt jI .no [1, 1, 0, 0, 1, 1, 0]) [1, 1, 1, 0, 1, 0]) (lsAt XQ .no [1, 1, 1, 1, 1, 0, 1, 0])) (Tryz.f273.body.getD .skip) (xr Tryz.f273.results.toList) := (yP (xA (xh (by kernel_rfl)) (qJ (p := [1, 1, 1, 0, 1, 0]) (q := [1, 1, 0, 0, 1, 1, 0]) (xh (fn := Tryz.f273) (by kernel_rfl)) xz xqH (by kernel_rfl)) xqI) (xA (xh (by kernel_rfl)) xz xqJ))
variable {σ : Type} {I : Port Tryz.prog σ}
theorem xeP (hl : SoundL I ka8c) : SoundF I 273 VW := by
 refine ZR hl (⟨xa, [⟨4, 3, .col .i64⟩], true⟩ : Fu) Tryz.func273 (by kernel_rfl) (by kernel_rfl) fun _ _ t ht => ?_
 unfold VW at ht
 split at ht
 ·rename_i gc
  split at ht
  ·rename_i g hg
   obtain rfl := xe hg
   cases ht
   refine (xD (P := Tryz.prog) (n := (⟨xa, [⟨4, 3, .col .i64⟩], true⟩ : Fu)) (x := (mrg (lsAt XP (lsAt jI .no [1, 1, 0, 0, 1, 1, 0]) [1, 1, 1, 0, 1, 0]) (lsAt XQ .no [1, 1, 1, 1, 1, 0, 1, 0]))) (fn := Tryz.f273) (H := []) (c := Tryz.f273.body.getD .skip) (xh (by kernel_rfl)) xnm).symm.trans ?_
   exact ey (xnl g _)
  ·cases ht
 ·cases ht
def ka8d : List (Nat × Sm) := (273, VW) :: ka8c
theorem s_ka8d : SoundL I ka8d := (.cons (xeP xqG) xqG)
end Lx
namespace Lx
variable {β : Type} (g : Geo)
open Go
def XR (n : Int) (κ : Unit -> T β) : T β :=
 .op (.self ) fun x0 =>
 (XC g (atF g 15 x0) (atF g 17 (inF (i64.wrap (n - 1)) 0 1))).bind fun r1 =>
 bif r1 then (κ ()) else
 .op (.self ) fun x3 =>
 .op (.load (atF g 15 x3)) fun x4 =>
 .op (.self ) fun x5 =>
 bif atF g 16 (inF x5 (i64.wrap x4) (jl g)) == (-1) then (κ ()) else
 .op (.self ) fun x7 =>
 .op (.store (atF g 16 (inF x7 (i64.wrap x4) (jl g))) (u64.wrap n)) fun _ =>
 .op (.self ) fun x9 =>
 .op (.store (atF g 15 x9) (u64.wrap (i64.wrap (i64.wrap x4 + 1)))) fun _ =>
 bif decide (i64.wrap (i64.wrap x4 + 1) > i64.wrap (2 * g.threads)) then ((xaX g).bind fun r12 =>
 κ ()) else
 κ ()
def jJ (n : Int) : T Unit := XR g n .ret
theorem xgD (n : Int) (κ : Unit -> T β) : (jJ g n).bind κ = XR g n κ := by
 unfold jJ XR
 simp only [bz]
def xeQ : Sm := gS fun
 | g, [.c (.int .i64 n)] => some (mkS (Unit) (jJ g n) fun r => some (.tup [], []))
 | _, _ => none
variable {σ : Type} {I : Port Tryz.prog σ}
theorem xkl (hl : SoundL I ka8d) : SoundF I 255 xeQ := by
 refine gsq hl 1 Tryz.func255 fun g l t ht => ?_
 split at ht
 ·rename_i n
  cases ht
  exact ey (xgD g n _)
 ·cases ht
def ka8e : List (Nat × Sm) := (255, xeQ) :: (273, VW) :: ka8
theorem xaY : SoundL I ka8e := (.cons (xkl s_ka8d) (.cons (xeP xqG) s_ka8))
end Lx
namespace Lx
variable {β : Type} (g : Geo)
open Go
def xc1 (c it fi : Int) (κ : Bool -> T β) : T β :=
 (acqT g).bind fun r0 =>
 bif r0 == 0 then (κ (false)) else
 .op (.store (atF g 18 (inF (i64.wrap (r0 - 1)) 0 8)) (it)) fun _ =>
 .op (.store (atF g 18 (inF (i64.wrap (r0 - 1)) 1 8)) (0)) fun _ =>
 .op (.store (atF g 18 (inF (i64.wrap (r0 - 1)) 2 8)) (0)) fun _ =>
 .op (.store (atF g 18 (inF (i64.wrap (r0 - 1)) 3 8)) (0)) fun _ =>
 .op (.store (atF g 18 (inF (i64.wrap (r0 - 1)) 4 8)) (0)) fun _ =>
 .op (.store (atF g 18 (inF (i64.wrap (r0 - 1)) 5 8)) (0)) fun _ =>
 .op (.store (atF g 18 (inF (i64.wrap (r0 - 1)) 6 8)) (0)) fun _ =>
 .op (.store (atF g 18 (inF (i64.wrap (r0 - 1)) 7 8)) (0)) fun _ =>
 .op (.store (atF g 17 (inF (i64.wrap (r0 - 1)) 0 1)) (Ref.word (Ref.mk fi false 0))) fun _ =>
 .op (.self ) fun x11 =>
 .op (.store (atF g 13 (inF x11 c 4)) (Ref.word (Ref.mk r0 false 0))) fun _ =>
 κ (true)
def xaZ (c it fi : Int) : T Bool := xc1 g c it fi .ret
theorem xnn (c it fi : Int) (κ : Bool -> T β) : (xaZ g c it fi).bind κ = xc1 g c it fi κ := by
 unfold xaZ xc1
 simp only [bz]
def xeR (a0 a1 a2 : Int) (b3 : Bool) (g5 : Geo) (κ0 : Int -> T β) (κ1 : Unit -> T β) (κ2 : Unit -> T β) (i : Int × Int × Bool × Int) (k : Int × Int × Bool × Int -> T β) : T β :=
 bif i.2.1 != 0 then ((ku g5 i.2.1).bind fun r1 =>
 bif r1.2 then (κ0 (r1.1)) else
 (xbH g5 (i64.wrap (1 - i.1)) (atF g5 17 (inF (i64.wrap (i.2.1 - 1)) 0 1))).bind fun r3 =>
 bif r3.mark then (κ1 ()) else
 k (i64.wrap (1 - i.1), r3.1, r3.mark, r3.ver)) else
 κ2 ()
def kF (a0 a1 a2 : Int) (b3 : Bool) (g5 : Geo) (a4 a6 : Int) (b7 : Bool) (a8 : Int) (κ0 : Int -> T β) (κ1 : Unit -> T β) (κ2 : Unit -> T β) : T β := xq xa (xeR a0 a1 a2 b3 g5 κ0 κ1 κ2) (a4, a6, b7, a8)
theorem xgE {β γ : Type} (a0 a1 a2 : Int) (b3 : Bool) (g5 : Geo) (a4 a6 : Int) (b7 : Bool) (a8 : Int) (κ0 : Int -> T β) (κ1 : Unit -> T β) (κ2 : Unit -> T β) (κ : β -> T γ) : (kF a0 a1 a2 b3 g5 a4 a6 b7 a8 κ0 κ1 κ2).bind κ = kF a0 a1 a2 b3 g5 a4 a6 b7 a8 (fun ae2 => (κ0 ae2).bind κ) (fun u => (κ1 u).bind κ) (fun u => (κ2 u).bind κ) := by
 unfold kF
 refine xj κ (fun i k => ?_) _ _
 unfold xeR
 simp only [bz]
def xhq : Pat := ⟨xm 47 0 [(0, .c (.raw (.port))), (2, .c (.int .i64)), (3, .c (.int .i64)), (5, .c (.raw (.ptr 0 0))), (8, .c (.int .u64)), (9, .c (.bool)), (10, .c (.int .i64)), (11, .c (.raw (.ptr 1 0)))], [some ⟨[.geo], 24, false, none⟩, some ⟨[.int .i64, .bool, .int .u32], 162, false, none⟩]⟩
def kG : Pat := ⟨xm 47 0 [(0, .c (.raw (.port))), (2, .c (.int .i64)), (3, .c (.int .i64)), (5, .c (.raw (.ptr 0 0))), (8, .c (.int .u64)), (9, .c (.bool))], [some ⟨[.geo], 24, false, none⟩]⟩
def Zx : LF := fun st K => match xt xhq st with
 | some [.i a0, .i a1, .i a2, .b b3, .i a4, .g g5, .i a6, .b b7, .i a8] => some (kF a0 a1 a2 b3 g5 a4 a6 b7 a8 (fun ae2 => K (.ret) (xd kG [.i a0, .i a1, .i ae2, .b true, .g g5])) (fun _ => K (.exit 1) (xd kG [.i a0, .i a1, .i a2, .b b3, .g g5])) (fun _ => K (.exit 2) (xd kG [.i a0, .i a1, .i a2, .b b3, .g g5])))
 | _ => none
theorem xt6 : ∀ st K t, Zx st K = some t -> xB xa (lf ka8e xa 0 .no [1, 0, 1, 0, 0, 0, 1, 1, 0, 0] Tryz.f275 K) st = t := by
 intro st K t h
 unfold Zx at h
 split at h
 ·rename_i a0 a1 a2 b3 a4 g5 a6 b7 a8 hm
  cases h
  rw [xk hm]
  unfold kF
  exact xu (S := fun (i : Int × Int × Bool × Int) => xd xhq [.i a0, .i a1, .i a2, .b b3, .i (i.1), .g g5, .i (i.2.1), .b (i.2.2.1), .i (i.2.2.2)]) (fun i k => by kernel_rfl) xa (a4, a6, b7, a8)
 ·cases h
def xeS (a0 a1 a2 : Int) (b3 : Bool) (g4 : Geo) (κ0 : Int -> T β) (κ1 : Unit -> T β) (i : Unit) (k : Unit -> T β) : T β :=
 (xbH g4 0 (atF g4 13 (inF a1 a0 4))).bind fun r0 =>
 kF a0 a1 a2 b3 g4 (0) (r0.1) (r0.mark) (r0.ver) (fun y1_0 =>
 κ0 y1_0) (fun y1_0 =>
 k ()) (fun y1_0 =>
 κ1 ())
def kH (a0 a1 a2 : Int) (b3 : Bool) (g4 : Geo)  (κ0 : Int -> T β) (κ1 : Unit -> T β) : T β := xq xa (xeS a0 a1 a2 b3 g4 κ0 κ1) ()
theorem xgF {β γ : Type} (a0 a1 a2 : Int) (b3 : Bool) (g4 : Geo)  (κ0 : Int -> T β) (κ1 : Unit -> T β) (κ : β -> T γ) : (kH a0 a1 a2 b3 g4  κ0 κ1).bind κ = kH a0 a1 a2 b3 g4  (fun ae0 => (κ0 ae0).bind κ) (fun u => (κ1 u).bind κ) := by
 unfold kH
 refine xj κ (fun i k => ?_) _ _
 unfold xeS
 simp only [bz, xgE]
def xeT : Pat := ⟨xm 47 0 [(8, .c (.int .u64)), (9, .c (.bool))], []⟩
def VX : LF := fun st K => match xt kG st with
 | some [.i a0, .i a1, .i a2, .b b3, .g g4] => some (kH a0 a1 a2 b3 g4  (fun ae0 => K (.ret) (xd xeT [.i ae0, .b true])) (fun _ => K (.ret) (xd xeT [.i 0, .b false])))
 | _ => none
theorem xt7 : ∀ st K t, VX st K = some t -> xB xa (lf ka8e xa 0 (lsAt Zx .no [0, 1, 1, 0, 0]) [1, 0, 1, 0] Tryz.f275 K) st = t := by
 intro st K t h
 unfold VX at h
 split at h
 ·rename_i a0 a1 a2 b3 g4 hm
  cases h
  rw [xk hm]
  unfold kH
  exact xu (S := fun (i : Unit) => xd kG [.i a0, .i a1, .i a2, .b b3, .g g4]) (fun i k => by kernel_rfl) xa ()
 ·cases h
def xkm (c t : Int) (κ : (Int × Bool) -> T β) : T β :=
 kH (c) (t) (0) (false) (g) (fun y0_0 =>
 κ (y0_0, (true))) (fun y0_0 =>
 κ ((0), (false)))
def xhr (c t : Int) : T (Int × Bool) := xkm g c t .ret
theorem xqK (c t : Int) (κ : (Int × Bool) -> T β) : (xhr g c t).bind κ = xkm g c t κ := by
 unfold xhr xkm
 simp only [bz, xgF]
def VY (κ : Unit -> T β) : T β :=
 (Wh g 0).bind fun r0 =>
 (Wh g 1).bind fun r1 =>
 κ ()
def qx : T Unit := VY g .ret
theorem xkn (κ : Unit -> T β) : (qx g).bind κ = VY g κ := by
 unfold qx VY
 simp only [bz]
def xa0 (g2 : Geo) (κ0 : Unit -> T β) (i : Int × Int) (k : Int × Int -> T β) : T β :=
 bif i.2 != 0 then ((xg7 g2 i.2).bind fun r1 =>
 bif !r1 then (.op (.load (atF g2 17 (inF (i64.wrap (i.2 - 1)) 0 1))) fun x3 =>
 k (atF g2 17 (inF (i64.wrap (i.2 - 1)) 0 1), ofW i64 x3 0 24)) else
 .op (.load (atF g2 17 (inF (i64.wrap (i.2 - 1)) 0 1))) fun x3 =>
 .op (.store (i.1) (Ref.word (Ref.mk (ofW i64 x3 0 24) false 0))) fun _ =>
 .op (.store (atF g2 17 (inF (i64.wrap (i.2 - 1)) 0 1)) (Ref.word (Ref.mk (ofW i64 x3 0 24) true 0))) fun _ =>
 (jJ g2 i.2).bind fun r6 =>
 .op (.load (i.1)) fun x7 =>
 k (i.1, ofW i64 x7 0 24)) else
 κ0 ()
def wl (g2 : Geo) (a0 a1 : Int) (κ0 : Unit -> T β) : T β := xq xa (xa0 g2 κ0) (a0, a1)
theorem xeU {β γ : Type} (g2 : Geo) (a0 a1 : Int) (κ0 : Unit -> T β) (κ : β -> T γ) : (wl g2 a0 a1 κ0).bind κ = wl g2 a0 a1 (fun u => (κ0 u).bind κ) := by
 unfold wl
 refine xj κ (fun i k => ?_) _ _
 unfold xa0
 simp only [bz]
def xeV : Pat := ⟨xm 72 0 [(0, .c (.raw (.port))), (4, .c (.raw (.ptr 0 0))), (6, .c (.int .i64)), (7, .c (.int .i64))], [some ⟨[.geo], 24, false, none⟩]⟩
def xno : Pat := ⟨xm 72 0 [], []⟩
def XS : LF := fun st K => match xt xeV st with
 | some [.i a0, .i a1, .g g2] => some (wl g2 a0 a1 (fun _ => K (.exit 0) (xd xno [])))
 | _ => none
theorem xqL : ∀ st K t, XS st K = some t -> xB xa (lf ka8e xa 0 .no [1, 1, 1, 1, 0] Tryz.f215 K) st = t := by
 intro st K t h
 unfold XS at h
 split at h
 ·rename_i a0 a1 g2 hm
  cases h
  rw [xk hm]
  unfold wl
  exact xu (S := fun (i : Int × Int) => xd xeV [.i (i.1), .i (i.2), .g g2]) (fun i k => by kernel_rfl) xa (a0, a1)
 ·cases h
def xc2 (c : Int) (κ : Unit -> T β) : T β :=
 (Zj g c).bind fun r0 =>
 bif r0 then (κ ()) else
 .op (.self ) fun x2 =>
 .op (.load (atF g 13 (inF x2 c 4))) fun x3 =>
 wl (g) (atF g 13 (inF x2 c 4)) (ofW i64 x3 0 24) (fun y4_0 =>
 κ ())
def Zy (c : Int) : T Unit := xc2 g c .ret
theorem xnp (c : Int) (κ : Unit -> T β) : (Zy g c).bind κ = xc2 g c κ := by
 unfold Zy xc2
 simp only [bz, xeU]
def xc3 (c : Cal) (r0 : Res) (κ : Res -> T β) : T β :=
 bif r0.e == 0 then ((xaz c).bind fun r1 =>
 (XK g r1).bind fun r2 =>
 κ r0) else
 (qn r0).bind fun r1 =>
 bif r1 then ((kD g).bind fun r3 =>
 κ r0) else
 κ r0
def qy (c : Cal) (r0 : Res) : T Res := xc3 g c r0 .ret
theorem xnq (c : Cal) (r0 : Res) (κ : Res -> T β) : (qy g c r0).bind κ = xc3 g c r0 κ := by
 unfold qy xc3
 simp only [bz]
def xnr : Sm := gS fun
 | g, [.c (.int .i64 c), .c (.int .u64 it), .c (.int .i64 fi)] => some (mkS (Bool) (xaZ g c it fi) fun r => some (.c (.bool r), []))
 | _, _ => none
variable {σ : Type} {I : Port Tryz.prog σ}
theorem xqM (hl : SoundL I ka8e) : SoundF I 238 xnr := by
 refine gsq hl 10 Tryz.func238 fun g l t ht => ?_
 split at ht
 ·rename_i c it fi
  cases ht
  exact ey (xnn g c it fi _)
 ·cases ht
def xko : Sm := fun
 | [.c .port, .agg gc, .c (.int .i64 c), .c (.int .i64 t)], [] => (match xv gc with
   | some g => some (mkS ((Int × Bool)) (xhr g c t) fun r => some (.tup [.c (.int .u64 r.1), .c (.bool r.2)], []))
   | _ => none)
 | _, _ => none
theorem xqN : Good Tryz.prog (xo ka8e) xa 0 (lsAt VX (lsAt Zx .no [0, 1, 1, 0, 0]) [1, 0, 1, 0]) (Tryz.f275.body.getD .skip) (xr Tryz.f275.results.toList) := (xA (xh (by kernel_rfl)) (qJ (p := [1, 0, 1, 0]) (q := [0, 1, 1, 0, 0]) (xh (fn := Tryz.f275) (by kernel_rfl)) xz xt6 (by kernel_rfl)) xt7)
theorem xt8 (hl : SoundL I ka8e) : SoundF I 275 xko := by
 refine sq hl xa Tryz.func275 fun _ _ t ht => ?_
 unfold xko at ht
 split at ht
 ·rename_i gc c t
  split at ht
  ·rename_i g hg
   obtain rfl := xe hg
   cases ht
   refine (xD (P := Tryz.prog) (n := xa) (x := (lsAt VX (lsAt Zx .no [0, 1, 1, 0, 0]) [1, 0, 1, 0])) (fn := Tryz.f275) (H := []) (c := Tryz.f275.body.getD .skip) (xh (by kernel_rfl)) xqN).symm.trans ?_
   exact ey (xqK g c t _)
  ·cases ht
 ·cases ht
def xhs : Sm := gS fun
 | g, [] => some (mkS (Unit) (qx g) fun r => some (.tup [], []))
 | _, _ => none
theorem xns (hl : SoundL I ka8e) : SoundF I 276 xhs := by
 refine gsq hl 1 Tryz.func276 fun g l t ht => ?_
 split at ht
 ·cases ht
  exact ey (xkn g _)
 ·cases ht
def xeW : Sm := fun
 | [.c .port, .agg gc, .c (.int .i64 c)], [] => (match xv gc with
   | some g => some (mkS (Unit) (Zy g c) fun r => some (.tup [], []))
   | _ => none)
 | _, _ => none
theorem xnt : Good Tryz.prog (xo ka8e) xa 0 (lsAt XS .no [1, 1, 1, 1, 0]) (Tryz.f215.body.getD .skip) (xr Tryz.f215.results.toList) := (xA (xh (by kernel_rfl)) xz xqL)
theorem xqO (hl : SoundL I ka8e) : SoundF I 215 xeW := by
 refine sq hl xa Tryz.func215 fun _ _ t ht => ?_
 unfold xeW at ht
 split at ht
 ·rename_i gc c
  split at ht
  ·rename_i g hg
   obtain rfl := xe hg
   cases ht
   refine (xD (P := Tryz.prog) (n := xa) (x := (lsAt XS .no [1, 1, 1, 1, 0])) (fn := Tryz.f215) (H := []) (c := Tryz.f215.body.getD .skip) (xh (by kernel_rfl)) xnt).symm.trans ?_
   exact ey (xnp g c _)
  ·cases ht
 ·cases ht
def xnu : Sm := gS fun
 | g, [.agg cc, .agg r0c] => (match Cal.of cc with
   | some c => (match Res.of r0c with
   | some r0 => some (mkS (Res) (qy g c r0) fun r => some (.agg r.cells, []))
   | _ => none)
   | _ => none)
 | _, _ => none
theorem xqP (hl : SoundL I ka8e) : SoundF I 128 xnu := by
 refine gsq hl 1 Tryz.func128 fun g l t ht => ?_
 split at ht
 ·rename_i cc r0c
  split at ht
  ·rename_i c hc
   obtain rfl := Cal.of_eq hc
   split at ht
   ·rename_i r0 hr0
    obtain rfl := Res.of_eq hr0
    cases ht
    exact ey (xnq g c r0 _)
   ·cases ht
  ·cases ht
 ·cases ht
def ka9 : List (Nat × Sm) := (238, xnr) :: (275, xko) :: (276, xhs) :: (215, xeW) :: (128, xnu) :: ka8e
theorem s_ka9 : SoundL I ka9 := (.cons (xqM xaY) (.cons (xt8 xaY) (.cons (xns xaY) (.cons (xqO xaY) (.cons (xqP xaY) xaY)))))
end Lx
namespace Lx
variable {β : Type} (g : Geo)
open Go
def xeX (a0 a1 : Int) (b2 : Bool) (a3 : Int) (g5 : Geo) (κ0 : Unit -> T β) (κ1 : Unit -> T β) (i : Int) (k : Int -> T β) : T β :=
 bif i != 0 then ((YN g5 i a1).bind fun r1 =>
 bif r1 then (κ0 ()) else
 .op (.load (atF g5 17 (inF (i64.wrap (i - 1)) 0 1))) fun x3 =>
 k (ofW i64 x3 0 24)) else
 κ1 ()
def kI (a0 a1 : Int) (b2 : Bool) (a3 : Int) (g5 : Geo) (a4 : Int) (κ0 : Unit -> T β) (κ1 : Unit -> T β) : T β := xq xa (xeX a0 a1 b2 a3 g5 κ0 κ1) a4
theorem xgG {β γ : Type} (a0 a1 : Int) (b2 : Bool) (a3 : Int) (g5 : Geo) (a4 : Int) (κ0 : Unit -> T β) (κ1 : Unit -> T β) (κ : β -> T γ) : (kI a0 a1 b2 a3 g5 a4 κ0 κ1).bind κ = kI a0 a1 b2 a3 g5 a4 (fun u => (κ0 u).bind κ) (fun u => (κ1 u).bind κ) := by
 unfold kI
 refine xj κ (fun i k => ?_) _ _
 unfold xeX
 simp only [bz]
def xht : Pat := ⟨xm 47 0 [(0, .c (.raw (.port))), (2, .c (.int .i64)), (3, .c (.int .u64)), (5, .c (.raw (.ptr 0 0))), (8, .c (.bool)), (9, .c (.int .i64)), (10, .c (.int .i64))], [some ⟨[.geo], 24, false, none⟩]⟩
def xeY : Pat := ⟨xm 47 0 [(0, .c (.raw (.port))), (2, .c (.int .i64)), (3, .c (.int .u64)), (5, .c (.raw (.ptr 0 0))), (8, .c (.bool)), (9, .c (.int .i64))], [some ⟨[.geo], 24, false, none⟩]⟩
def VZ : LF := fun st K => match xt xht st with
 | some [.i a0, .i a1, .b b2, .i a3, .i a4, .g g5] => some (kI a0 a1 b2 a3 g5 a4 (fun _ => K (.ret) (xd xeY [.i a0, .i a1, .b true, .i a3, .g g5])) (fun _ => K (.exit 0) (xd xeY [.i a0, .i a1, .b b2, .i a3, .g g5])))
 | _ => none
theorem xt9 : ∀ st K t, VZ st K = some t -> xB xa (lf ka9 xa 0 .no [1, 1, 0, 1, 0] Tryz.f174 K) st = t := by
 intro st K t h
 unfold VZ at h
 split at h
 ·rename_i a0 a1 b2 a3 a4 g5 hm
  cases h
  rw [xk hm]
  unfold kI
  exact xu (S := fun (i : Int) => xd xht [.i a0, .i a1, .b b2, .i a3, .i i, .g g5]) (fun i k => by kernel_rfl) xa a4
 ·cases h
def xkp (c it : Int) (κ : Bool -> T β) : T β :=
 .op (.self ) fun x0 =>
 .op (.load (atF g 13 (inF x0 c 4))) fun x1 =>
 kI (c) (it) (false) (ofW i64 x1 0 24) (g) (ofW i64 x1 0 24) (fun y2_0 =>
 κ (true)) (fun y2_0 =>
 (xaZ g c it (ofW i64 x1 0 24)).bind fun r3 =>
 κ r3)
def xhu (c it : Int) : T Bool := xkp g c it .ret
theorem xqQ (c it : Int) (κ : Bool -> T β) : (xhu g c it).bind κ = xkp g c it κ := by
 unfold xhu xkp
 simp only [bz, xgG]
def xa1 (a0 a1 : Int) (b2 : Bool) (a3 a4 : Int) (g6 : Geo) (κ0 : Int -> T β) (κ1 : Unit -> T β) (i : Int) (k : Int -> T β) : T β :=
 bif decide (i < a4) then (.op (.self ) fun x1 =>
 bif bif g6.threads == 0 then false else true then ((xhr g6 a0 (Int.tmod (i64.wrap (x1 + i)) g6.threads)).bind fun r3 =>
 bif r3.2 then ((qx g6).bind fun r5 =>
 κ0 (r3.1)) else
 k (i64.wrap (i + 1))) else
 .fail) else
 κ1 ()
def wm (a0 a1 : Int) (b2 : Bool) (a3 a4 : Int) (g6 : Geo) (a5 : Int) (κ0 : Int -> T β) (κ1 : Unit -> T β) : T β := xq xa (xa1 a0 a1 b2 a3 a4 g6 κ0 κ1) a5
theorem xeZ {β γ : Type} (a0 a1 : Int) (b2 : Bool) (a3 a4 : Int) (g6 : Geo) (a5 : Int) (κ0 : Int -> T β) (κ1 : Unit -> T β) (κ : β -> T γ) : (wm a0 a1 b2 a3 a4 g6 a5 κ0 κ1).bind κ = wm a0 a1 b2 a3 a4 g6 a5 (fun ae1 => (κ0 ae1).bind κ) (fun u => (κ1 u).bind κ) := by
 unfold wm
 refine xj κ (fun i k => ?_) _ _
 unfold xa1
 simp only [bz]
def xe0 : Pat := ⟨xm 62 0 [(0, .c (.raw (.port))), (2, .c (.int .i64)), (4, .c (.raw (.ptr 0 0))), (6, .c (.int .u64)), (7, .c (.bool)), (8, .c (.int .u64)), (25, .c (.int .i64)), (26, .c (.int .i64))], [some ⟨[.geo], 24, false, none⟩]⟩
def xbP : Pat := ⟨xm 62 0 [(0, .c (.raw (.port))), (2, .c (.int .i64)), (4, .c (.raw (.ptr 0 0))), (6, .c (.int .u64)), (7, .c (.bool)), (8, .c (.int .u64))], [some ⟨[.geo], 24, false, none⟩]⟩
def jK : LF := fun st K => match xt xe0 st with
 | some [.i a0, .i a1, .b b2, .i a3, .i a4, .i a5, .g g6] => some (wm a0 a1 b2 a3 a4 g6 a5 (fun ae1 => K (.ret) (xd xbP [.i a0, .i ae1, .b true, .i a3, .g g6])) (fun _ => K (.exit 2) (xd xbP [.i a0, .i a1, .b b2, .i a3, .g g6])))
 | _ => none
theorem xqR : ∀ st K t, jK st K = some t -> xB xa (lf ka9 xa 0 .no [1, 1, 0, 0, 0, 1, 0, 1, 0] Tryz.f258 K) st = t := by
 intro st K t h
 unfold jK at h
 split at h
 ·rename_i a0 a1 b2 a3 a4 a5 g6 hm
  cases h
  rw [xk hm]
  unfold wm
  exact xu (S := fun (i : Int) => xd xe0 [.i a0, .i a1, .b b2, .i a3, .i a4, .i i, .g g6]) (fun i k => by kernel_rfl) xa a5
 ·cases h
def xa2 (a0 a1 : Int) (b2 : Bool) (g3 : Geo) (κ0 : Int -> T β) (κ1 : Unit -> T β) (i : Unit) (k : Unit -> T β) : T β :=
 .op (.load (atF g3 5 a0)) fun x0 =>
 wm a0 a1 b2 x0 (g3.threads) g3 (0) (fun y1_0 =>
 κ0 y1_0) (fun y1_0 =>
 .op (.load (atF g3 5 a0)) fun x2 =>
 bif x2 == x0 then ((qx g3).bind fun r4 =>
 κ1 ()) else
 k ())
def wn (a0 a1 : Int) (b2 : Bool) (g3 : Geo)  (κ0 : Int -> T β) (κ1 : Unit -> T β) : T β := xq xa (xa2 a0 a1 b2 g3 κ0 κ1) ()
theorem xe1 {β γ : Type} (a0 a1 : Int) (b2 : Bool) (g3 : Geo)  (κ0 : Int -> T β) (κ1 : Unit -> T β) (κ : β -> T γ) : (wn a0 a1 b2 g3  κ0 κ1).bind κ = wn a0 a1 b2 g3  (fun ae0 => (κ0 ae0).bind κ) (fun u => (κ1 u).bind κ) := by
 unfold wn
 refine xj κ (fun i k => ?_) _ _
 unfold xa2
 simp only [bz, xeZ]
def xe2 : Pat := ⟨xm 62 0 [(0, .c (.raw (.port))), (2, .c (.int .i64)), (4, .c (.raw (.ptr 0 0))), (6, .c (.int .u64)), (7, .c (.bool))], [some ⟨[.geo], 24, false, none⟩]⟩
def xbQ : Pat := ⟨xm 62 0 [(6, .c (.int .u64)), (7, .c (.bool))], []⟩
def XT : LF := fun st K => match xt xe2 st with
 | some [.i a0, .i a1, .b b2, .g g3] => some (wn a0 a1 b2 g3  (fun ae0 => K (.ret) (xd xbQ [.i ae0, .b true])) (fun _ => K (.ret) (xd xbQ [.i 0, .b false])))
 | _ => none
theorem xqS : ∀ st K t, XT st K = some t -> xB xa (lf ka9 xa 0 (lsAt jK .no [0, 1, 0, 1, 0]) [1, 1, 0] Tryz.f258 K) st = t := by
 intro st K t h
 unfold XT at h
 split at h
 ·rename_i a0 a1 b2 g3 hm
  cases h
  rw [xk hm]
  unfold wn
  exact xu (S := fun (i : Unit) => xd xe2 [.i a0, .i a1, .b b2, .g g3]) (fun i k => by kernel_rfl) xa ()
 ·cases h
def xc4 (c : Int) (κ : (Int × Bool) -> T β) : T β :=
 (Zj g c).bind fun r0 =>
 bif r0 then (κ ((0), (false))) else
 wn (c) (0) (false) (g) (fun y2_0 =>
 κ (y2_0, (true))) (fun y2_0 =>
 κ ((0), (false)))
def qz (c : Int) : T (Int × Bool) := xc4 g c .ret
theorem xnv (c : Int) (κ : (Int × Bool) -> T β) : (qz g c).bind κ = xc4 g c κ := by
 unfold qz xc4
 simp only [bz, xe1]
def xkq : Sm := fun
 | [.c .port, .agg gc, .c (.int .i64 c), .c (.int .u64 it)], [] => (match xv gc with
   | some g => some (mkS (Bool) (xhu g c it) fun r => some (.c (.bool r), []))
   | _ => none)
 | _, _ => none
theorem xqT : Good Tryz.prog (xo ka9) xa 0 (lsAt VZ .no [1, 1, 0, 1, 0]) (Tryz.f174.body.getD .skip) (xr Tryz.f174.results.toList) := xA (xh (by kernel_rfl)) xz xt9
variable {σ : Type} {I : Port Tryz.prog σ}
theorem xua (hl : SoundL I ka9) : SoundF I 174 xkq := by
 refine sq hl xa Tryz.func174 fun _ _ t ht => ?_
 unfold xkq at ht
 split at ht
 ·rename_i gc c it
  split at ht
  ·rename_i g hg
   obtain rfl := xe hg
   cases ht
   refine (xD (P := Tryz.prog) (n := xa) (x := (lsAt VZ .no [1, 1, 0, 1, 0])) (fn := Tryz.f174) (H := []) (c := Tryz.f174.body.getD .skip) (xh (by kernel_rfl)) xqT).symm.trans ?_
   exact ey (xqQ g c it _)
  ·cases ht
 ·cases ht
def xe3 : Sm := fun
 | [.c .port, .agg gc, .c (.int .i64 c)], [] => (match xv gc with
   | some g => some (mkS ((Int × Bool)) (qz g c) fun r => some (.tup [.c (.int .u64 r.1), .c (.bool r.2)], []))
   | _ => none)
 | _, _ => none
theorem xnw : Good Tryz.prog (xo ka9) xa 0 (lsAt XT (lsAt jK .no [0, 1, 0, 1, 0]) [1, 1, 0]) (Tryz.f258.body.getD .skip) (xr Tryz.f258.results.toList) := xA (xh (by kernel_rfl)) (qJ (p := [1, 1, 0]) (q := [0, 1, 0, 1, 0]) (xh (fn := Tryz.f258) (by kernel_rfl)) xz xqR (by kernel_rfl)) xqS
theorem xqU (hl : SoundL I ka9) : SoundF I 258 xe3 := by
 refine sq hl xa Tryz.func258 fun _ _ t ht => ?_
 unfold xe3 at ht
 split at ht
 ·rename_i gc c
  split at ht
  ·rename_i g hg
   obtain rfl := xe hg
   cases ht
   refine (xD (P := Tryz.prog) (n := xa) (x := (lsAt XT (lsAt jK .no [0, 1, 0, 1, 0]) [1, 1, 0])) (fn := Tryz.f258) (H := []) (c := Tryz.f258.body.getD .skip) (xh (by kernel_rfl)) xnw).symm.trans ?_
   exact ey (xnv g c _)
  ·cases ht
 ·cases ht
def ka10 : List (Nat × Sm) := (174, xkq) :: (258, xe3) :: ka9
theorem xkr : SoundL I ka10 := (.cons (xua s_ka9) (.cons (xqU s_ka9) s_ka9))
end Lx
namespace Lx
variable {β : Type} (g : Geo)
open Go
def xks (c it : Int) (κ : Bool -> T β) : T β :=
 (Zj g c).bind fun r0 =>
 bif r0 then (κ (false)) else
 bif it == 0 then (κ (false)) else
 (xhu g c it).bind fun r3 =>
 bif !r3 then (κ (false)) else
 .op (.add (atF g 5 c) (1)) fun x5 =>
 κ (true)
def xhv (c it : Int) : T Bool := xks g c it .ret
theorem xqV (c it : Int) (κ : Bool -> T β) : (xhv g c it).bind κ = xks g c it κ := by
 unfold xhv xks
 simp only [bz]
def Ka (o c : Int) (κ : (Fnd × Int) -> T β) : T β :=
 (qz g c).bind fun r0 =>
 κ (⟨(i64.wrap (i64.wrap r0.1 - 1)), (r0.2), (0)⟩, (o))
def Kb (o c : Int) : T (Fnd × Int) := Ka g o c .ret
theorem xkt (o c : Int) (κ : (Fnd × Int) -> T β) : (Kb g o c).bind κ = Ka g o c κ := by
 unfold Kb Ka
 simp only [bz]
def xe4 (a0 a3 : Int) (g4 : Geo) (κ0 : Int -> T β) (i : Int × Bool × Int) (k : Int × Bool × Int -> T β) : T β :=
 bif i.2.1 then ((xf g4 i.2.2 (i64.wrap (i64.wrap i.1 - 1))).bind fun r1 =>
 (qz g4 a0).bind fun r2 =>
 k (r2.1, r2.2, r1.2)) else
 κ0 (i.2.2)
def kJ (a0 a3 : Int) (g4 : Geo) (a1 : Int) (b2 : Bool) (a5 : Int) (κ0 : Int -> T β) : T β := xq xa (xe4 a0 a3 g4 κ0) (a1, b2, a5)
theorem xgH {β γ : Type} (a0 a3 : Int) (g4 : Geo) (a1 : Int) (b2 : Bool) (a5 : Int) (κ0 : Int -> T β) (κ : β -> T γ) : (kJ a0 a3 g4 a1 b2 a5 κ0).bind κ = kJ a0 a3 g4 a1 b2 a5 (fun ae2 => (κ0 ae2).bind κ) := by
 unfold kJ
 refine xj κ (fun i k => ?_) _ _
 unfold xe4
 simp only [bz]
def xhw : Pat := ⟨xm 40 0 [(0, .c (.raw (.ptr 0 0))), (2, .c (.int .i64)), (3, .c (.int .u64)), (4, .c (.bool)), (5, .c (.int .i64))], [some ⟨[.raw (.port), .geo, .int .u64], 150, false, none⟩]⟩
def Wr : Pat := ⟨xm 40 0 [(0, .c (.raw (.ptr 0 0))), (5, .c (.int .i64))], [some ⟨[.raw (.port), .geo, .int .u64], 150, false, none⟩]⟩
def Zz : LF := fun st K => match xt xhw st with
 | some [.i a0, .i a1, .b b2, .i a3, .g g4, .i a5] => some (kJ a0 a3 g4 a1 b2 a5 (fun ae2 => K (.exit 2) (xd Wr [.i a3, .g g4, .i ae2])))
 | _ => none
theorem xub : ∀ st K t, Zz st K = some t -> xB xa (lf ka10 xa 1 .no [1, 0, 0, 1, 1, 0, 0, 1, 1, 0] Tryz.f241 K) st = t := by
 intro st K t h
 unfold Zz at h
 split at h
 ·rename_i a0 a1 b2 a3 g4 a5 hm
  cases h
  rw [xk hm]
  unfold kJ
  exact xu (S := fun (i : Int × Bool × Int) => xd xhw [.i a0, .i (i.1), .b (i.2.1), .i a3, .g g4, .i (i.2.2)]) (fun i k => by kernel_rfl) xa (a1, b2, a5)
 ·cases h
def xe5 (g1 : Geo) (κ0 : Int -> T β) (i : Int × Int) (k : Int × Int -> T β) : T β :=
 bif decide (i.1 < 4) then ((qz g1 i.1).bind fun r1 =>
 kJ (i.1) (i.1) g1 (r1.1) (r1.2) (i.2) (fun y2_0 =>
 k (i64.wrap (i.1 + 1), y2_0))) else
 κ0 (i.2)
def kK (g1 : Geo) (a0 a2 : Int) (κ0 : Int -> T β) : T β := xq xa (xe5 g1 κ0) (a0, a2)
theorem xgI {β γ : Type} (g1 : Geo) (a0 a2 : Int) (κ0 : Int -> T β) (κ : β -> T γ) : (kK g1 a0 a2 κ0).bind κ = kK g1 a0 a2 (fun ae1 => (κ0 ae1).bind κ) := by
 unfold kK
 refine xj κ (fun i k => ?_) _ _
 unfold xe5
 simp only [bz, xgH]
def xqW : Pat := ⟨xm 40 0 [], [some ⟨[.raw (.port), .geo, .int .u64], 150, false, none⟩]⟩
def Kc : LF := fun st K => match xt Wr st with
 | some [.i a0, .g g1, .i a2] => some (kK g1 a0 a2 (fun ae1 => K (.exit 0) (xd xqW [.g g1, .i ae1])))
 | _ => none
theorem xuc : ∀ st K t, Kc st K = some t -> xB xa (lf ka10 xa 1 (lsAt Zz .no [1, 1, 0, 0, 1, 1, 0]) [1, 0] Tryz.f241 K) st = t := by
 intro st K t h
 unfold Kc at h
 split at h
 ·rename_i a0 g1 a2 hm
  cases h
  rw [xk hm]
  unfold kK
  exact xu (S := fun (i : Int × Int) => xd Wr [.i (i.1), .g g1, .i (i.2)]) (fun i k => by kernel_rfl) xa (a0, a2)
 ·cases h
def xku (o : Int) (κ : (Unit × Int) -> T β) : T β :=
 kK (g) (0) (o) (fun y0_0 =>
 κ ((), y0_0))
def xhx (o : Int) : T (Unit × Int) := xku g o .ret
theorem xqX (o : Int) (κ : (Unit × Int) -> T β) : (xhx g o).bind κ = xku g o κ := by
 unfold xhx xku
 simp only [bz, xgI]
def xsK : Sm := gS fun
 | g, [.c (.int .i64 c), .c (.int .u64 it)] => some (mkS (Bool) (xhv g c it) fun r => some (.c (.bool r), []))
 | _, _ => none
variable {σ : Type} {I : Port Tryz.prog σ}
theorem xud (hl : SoundL I ka10) : SoundF I 90 xsK := by
 refine gsq hl 1 Tryz.func90 fun g l t ht => ?_
 split at ht
 ·rename_i c it
  cases ht
  exact ey (xqV g c it _)
 ·cases ht
def xa3 : Sm := fun
 | [.c (.ptr 0 0), .c (.int .i64 c)], [some ⟨.port :: gc, 150, false, none⟩] => (match hdOf gc with
   | some (g, o) => some (mkS ((Fnd × Int)) (Kb g o c) fun r => some (.agg r.1.cells, [some ⟨.port :: (g.cells ++ [.int .u64 r.2]), 150, false, none⟩]))
   | _ => none)
 | _, _ => none
theorem xnx (hl : SoundL I ka10) : SoundF I 225 xa3 := by
 refine sq hl 1 Tryz.func225 fun _ _ t ht => ?_
 unfold xa3 at ht
 split at ht
 ·rename_i c gc
  split at ht
  ·rename_i g o hg
   obtain rfl := yq hg
   cases ht
   exact ey (xkt g o c _)
  ·cases ht
 ·cases ht
def xkv : Sm := fun
 | [.c (.ptr 0 0)], [some ⟨.port :: gc, 150, false, none⟩] => (match hdOf gc with
   | some (g, o) => some (mkS ((Unit × Int)) (xhx g o) fun r => some (.tup [], [some ⟨.port :: (g.cells ++ [.int .u64 r.2]), 150, false, none⟩]))
   | _ => none)
 | _, _ => none
theorem xqY : Good Tryz.prog (xo ka10) xa 1 (lsAt Kc (lsAt Zz .no [1, 1, 0, 0, 1, 1, 0]) [1, 0]) (Tryz.f241.body.getD .skip) (xr Tryz.f241.results.toList) := xA (xh (by kernel_rfl)) (qJ (p := [1, 0]) (q := [1, 1, 0, 0, 1, 1, 0]) (xh (fn := Tryz.f241) (by kernel_rfl)) xz xub (by kernel_rfl)) xuc
theorem xue (hl : SoundL I ka10) : SoundF I 241 xkv := by
 refine sq hl xa Tryz.func241 fun _ _ t ht => ?_
 unfold xkv at ht
 split at ht
 ·rename_i gc
  split at ht
  ·rename_i g o hg
   obtain rfl := yq hg
   cases ht
   refine (xD (P := Tryz.prog) (n := xa) (x := (lsAt Kc (lsAt Zz .no [1, 1, 0, 0, 1, 1, 0]) [1, 0])) (fn := Tryz.f241) (H := [some ⟨.port :: (g.cells ++ [.int .u64 o]), 150, false, none⟩]) (c := Tryz.f241.body.getD .skip) (xh (by kernel_rfl)) xqY).symm.trans ?_
   exact ey (xqX g o _)
  ·cases ht
 ·cases ht
def ka11 : List (Nat × Sm) := (90, xsK) :: (225, xa3) :: (241, xkv) :: ka10
theorem xe6 : SoundL I ka11 := (.cons (xud xkr) (.cons (xnx xkr) (.cons (xue xkr) xkr)))
end Lx
namespace Lx
variable {β : Type} (g : Geo)
open Go
def xc5 (o : Int) (κ : (Bool × Int) -> T β) : T β :=
 (XJ g o).bind fun r0 =>
 (xhx g r0.2).bind fun r1 =>
 (jF g r1.2).bind fun r2 =>
 (tryT g).bind fun r3 =>
 bif !r3 then (κ ((false), (r2.2))) else
 (vp g).bind fun r5 =>
 (yD g r2.2 r5).bind fun r6 =>
 (jG g r6.2).bind fun r7 =>
 (Zl g).bind fun r8 =>
 κ ((true), (r7.2))
def ZA (o : Int) : T (Bool × Int) := xc5 g o .ret
theorem xny (o : Int) (κ : (Bool × Int) -> T β) : (ZA g o).bind κ = xc5 g o κ := by
 unfold ZA xc5
 simp only [bz]
def XU (k : Int) (κ : Unit -> T β) : T β :=
 (jq g).bind fun r0 =>
 bif r0 then (κ ()) else
 bif atF g 11 k == (-1) then (κ ()) else
 (vX g k).bind fun r3 =>
 bif r3.kind == 4 then ((markT g (i64.wrap (Int.tdiv k 8)) r3.len).bind fun r5 =>
 bif r5 then ((yD g 0 1).bind fun r7 =>
 (jH g r7.2).bind fun r8 =>
 κ ()) else
 κ ()) else
 bif r3.kind != 3 then (κ ()) else
 .op (.self ) fun x6 =>
 bif r3.owner != x6 then ((xhe g k).bind fun r8 =>
 (yD g 0 1).bind fun r9 =>
 κ ()) else
 (xg5 g r3.cls (u64.wrap (u64.wrap k + 1))).bind fun r8 =>
 bif r8 then ((yD g 0 1).bind fun r10 =>
 κ ()) else
 (xhv g r3.cls (u64.wrap (u64.wrap k + 1))).bind fun r10 =>
 bif r10 then ((yD g 0 1).bind fun r12 =>
 κ ()) else
 (YU g k).bind fun r12 =>
 (yD g 0 1).bind fun r13 =>
 κ ()
def vQ (k : Int) : T Unit := XU g k .ret
theorem xgJ (k : Int) (κ : Unit -> T β) : (vQ g k).bind κ = XU g k κ := by
 unfold vQ XU
 simp only [bz]
def xa4 (a0 a3 : Int) (g4 g5 : Geo) (κ0 : Int -> T β) (i : Int × Bool × Int) (k : Int × Bool × Int -> T β) : T β :=
 bif i.2.1 then ((xf g5 i.2.2 (i64.wrap (i64.wrap i.1 - 1))).bind fun r1 =>
 (jr g4 a0).bind fun r2 =>
 k (r2.1, r2.2, r1.2)) else
 κ0 (i.2.2)
def wo (a0 a3 : Int) (g4 g5 : Geo) (a1 : Int) (b2 : Bool) (a6 : Int) (κ0 : Int -> T β) : T β := xq xa (xa4 a0 a3 g4 g5 κ0) (a1, b2, a6)
theorem xe7 {β γ : Type} (a0 a3 : Int) (g4 g5 : Geo) (a1 : Int) (b2 : Bool) (a6 : Int) (κ0 : Int -> T β) (κ : β -> T γ) : (wo a0 a3 g4 g5 a1 b2 a6 κ0).bind κ = wo a0 a3 g4 g5 a1 b2 a6 (fun ae4 => (κ0 ae4).bind κ) := by
 unfold wo
 refine xj κ (fun i k => ?_) _ _
 unfold xa4
 simp only [bz]
def xe8 : Pat := ⟨xm 42 0 [(0, .c (.raw (.port))), (3, .c (.raw (.ptr 0 0))), (4, .c (.raw (.ptr 1 0))), (5, .c (.int .i64)), (6, .c (.int .u64)), (7, .c (.bool)), (15, .c (.int .i64))], [some ⟨[.geo], 24, false, none⟩, some ⟨[.raw (.port), .geo, .int .u64], 150, false, none⟩]⟩
def xnz : Pat := ⟨xm 42 0 [(0, .c (.raw (.port))), (3, .c (.raw (.ptr 0 0))), (4, .c (.raw (.ptr 1 0))), (5, .c (.int .i64)), (15, .c (.int .i64))], [some ⟨[.geo], 24, false, none⟩, some ⟨[.raw (.port), .geo, .int .u64], 150, false, none⟩]⟩
def jL : LF := fun st K => match xt xe8 st with
 | some [.i a0, .i a1, .b b2, .i a3, .g g4, .g g5, .i a6] => some (wo a0 a3 g4 g5 a1 b2 a6 (fun ae4 => K (.exit 2) (xd xnz [.i a0, .i a3, .g g4, .g g5, .i ae4])))
 | _ => none
theorem xqZ : ∀ st K t, jL st K = some t -> xB xa (lf ka11 xa 0 .no [1, 1, 1, 1, 0, 0, 1, 1, 0, 0, 1, 0, 1, 0] Tryz.f134 K) st = t := by
 intro st K t h
 unfold jL at h
 split at h
 ·rename_i a0 a1 b2 a3 g4 g5 a6 hm
  cases h
  rw [xk hm]
  unfold wo
  exact xu (S := fun (i : Int × Bool × Int) => xd xe8 [.i a0, .i (i.1), .b (i.2.1), .i a3, .g g4, .g g5, .i (i.2.2)]) (fun i k => by kernel_rfl) xa (a1, b2, a6)
 ·cases h
def xa5 (g1 g2 : Geo) (κ0 : Unit -> T β) (i : Int × Int) (k : Int × Int -> T β) : T β :=
 bif decide (i.1 < 4) then ((jr g1 i.1).bind fun r1 =>
 wo (i.1) (i.1) g1 g2 (r1.1) (r1.2) (i.2) (fun y2_0 =>
 (Zy g1 i.1).bind fun r3 =>
 k (i64.wrap (i.1 + 1), y2_0))) else
 κ0 ()
def wq (g1 g2 : Geo) (a0 a3 : Int) (κ0 : Unit -> T β) : T β := xq xa (xa5 g1 g2 κ0) (a0, a3)
theorem xe9 {β γ : Type} (g1 g2 : Geo) (a0 a3 : Int) (κ0 : Unit -> T β) (κ : β -> T γ) : (wq g1 g2 a0 a3 κ0).bind κ = wq g1 g2 a0 a3 (fun u => (κ0 u).bind κ) := by
 unfold wq
 refine xj κ (fun i k => ?_) _ _
 unfold xa5
 simp only [bz, xe7]
def xfa : Pat := ⟨xm 42 0 [(0, .c (.raw (.port))), (3, .c (.raw (.ptr 0 0))), (4, .c (.raw (.ptr 1 0))), (15, .c (.int .i64))], [some ⟨[.geo], 24, false, none⟩, some ⟨[.raw (.port), .geo, .int .u64], 150, false, none⟩]⟩
def xnA : Pat := ⟨xm 42 0 [], []⟩
def XV : LF := fun st K => match xt xfa st with
 | some [.i a0, .g g1, .g g2, .i a3] => some (wq g1 g2 a0 a3 (fun _ => K (.exit 0) (xd xnA [])))
 | _ => none
theorem xq0 : ∀ st K t, XV st K = some t -> xB xa (lf ka11 xa 0 (lsAt jL .no [1, 1, 0, 0, 1, 0, 1, 0]) [1, 1, 1, 1, 0] Tryz.f134 K) st = t := by
 intro st K t h
 unfold XV at h
 split at h
 ·rename_i a0 g1 g2 a3 hm
  cases h
  rw [xk hm]
  unfold wq
  exact xu (S := fun (i : Int × Int) => xd xfa [.i (i.1), .g g1, .g g2, .i (i.2)]) (fun i k => by kernel_rfl) xa (a0, a3)
 ·cases h
def xc6 (κ : Unit -> T β) : T β :=
 (jq g).bind fun r0 =>
 bif r0 then (κ ()) else
 wq (g) (g) (0) (0) (fun y2_0 =>
 κ ())
def xa6 : T Unit := xc6 g .ret
theorem xnB (κ : Unit -> T β) : (xa6 g).bind κ = xc6 g κ := by
 unfold xa6 xc6
 simp only [bz, xe9]
def xfb : Sm := fun
 | [.c (.ptr 0 0)], [some ⟨.port :: gc, 150, false, none⟩] => (match hdOf gc with
   | some (g, o) => some (mkS ((Bool × Int)) (ZA g o) fun r => some (.c (.bool r.1), [some ⟨.port :: (g.cells ++ [.int .u64 r.2]), 150, false, none⟩]))
   | _ => none)
 | _, _ => none
variable {σ : Type} {I : Port Tryz.prog σ}
theorem xq1 (hl : SoundL I ka11) : SoundF I 179 xfb := by
 refine sq hl 1 Tryz.func179 fun _ _ t ht => ?_
 unfold xfb at ht
 split at ht
 ·rename_i gc
  split at ht
  ·rename_i g o hg
   obtain rfl := yq hg
   cases ht
   exact ey (xny g o _)
  ·cases ht
 ·cases ht
def Ws : Sm := gS fun
 | g, [.c (.int .i64 k)] => some (mkS (Unit) (vQ g k) fun r => some (.tup [], []))
 | _, _ => none
theorem Ke (hl : SoundL I ka11) : SoundF I 27 Ws := by
 refine gsq hl 1 Tryz.func27 fun g l t ht => ?_
 split at ht
 ·rename_i k
  cases ht
  exact ey (xgJ g k _)
 ·cases ht
def xfc : Sm := fun
 | [.c .port, .agg gc], [] => (match xv gc with
   | some g => some (mkS (Unit) (xa6 g) fun r => some (.tup [], []))
   | _ => none)
 | _, _ => none
theorem xnC : Good Tryz.prog (xo ka11) xa 0 (lsAt XV (lsAt jL .no [1, 1, 0, 0, 1, 0, 1, 0]) [1, 1, 1, 1, 0]) (Tryz.f134.body.getD .skip) (xr Tryz.f134.results.toList) := xA (xh (by kernel_rfl)) (qJ (p := [1, 1, 1, 1, 0]) (q := [1, 1, 0, 0, 1, 0, 1, 0]) (xh (fn := Tryz.f134) (by kernel_rfl)) xz xqZ (by kernel_rfl)) xq0
theorem xq2 (hl : SoundL I ka11) : SoundF I 134 xfc := by
 refine sq hl xa Tryz.func134 fun _ _ t ht => ?_
 unfold xfc at ht
 split at ht
 ·rename_i gc
  split at ht
  ·rename_i g hg
   obtain rfl := xe hg
   cases ht
   refine (xD (P := Tryz.prog) (n := xa) (x := (lsAt XV (lsAt jL .no [1, 1, 0, 0, 1, 0, 1, 0]) [1, 1, 1, 1, 0])) (fn := Tryz.f134) (H := []) (c := Tryz.f134.body.getD .skip) (xh (by kernel_rfl)) xnC).symm.trans ?_
   exact ey (xnB g _)
  ·cases ht
 ·cases ht
def ka12 : List (Nat × Sm) := (179, xfb) :: (27, Ws) :: (134, xfc) :: ka11
theorem xq3 : SoundL I ka12 := (.cons (xq1 xe6) (.cons (Ke xe6) (.cons (xq2 xe6) xe6)))
end Lx
namespace Lx
variable {β : Type} (g : Geo)
open Go
def Kf (o c : Int) (κ : (Fnd × Int) -> T β) : T β :=
 (XA g o c).bind fun r0 =>
 bif r0.1.ok then (κ (⟨(r0.1.grain), (r0.1.ok), (r0.1.e)⟩, (r0.2))) else
 bif r0.1.e != 0 then (κ (⟨(r0.1.grain), (r0.1.ok), (r0.1.e)⟩, (r0.2))) else
 (Kb g r0.2 c).bind fun r3 =>
 bif r3.1.ok then (κ (⟨(r3.1.grain), (r3.1.ok), (r3.1.e)⟩, (r3.2))) else
 bif r3.1.e != 0 then (κ (⟨(r3.1.grain), (r3.1.ok), (r3.1.e)⟩, (r3.2))) else
 (XG g r3.2 c).bind fun r6 =>
 bif r6.1.ok then (κ (⟨(r6.1.grain), (r6.1.ok), (r6.1.e)⟩, (r6.2))) else
 bif r6.1.e != 0 then (κ (⟨(r6.1.grain), (r6.1.ok), (r6.1.e)⟩, (r6.2))) else
 (YZ g r6.2 c).bind fun r9 =>
 bif r9.1.ok then (κ (⟨(r9.1.grain), (r9.1.ok), (r9.1.e)⟩, (r9.2))) else
 bif r9.1.e != 0 then (κ (⟨(r9.1.grain), (r9.1.ok), (r9.1.e)⟩, (r9.2))) else
 (Wa g r9.2 c).bind fun r12 =>
 bif r12.1.ok then (κ (⟨(r12.1.grain), (r12.1.ok), (r12.1.e)⟩, (r12.2))) else
 bif r12.1.e != 0 then (κ (⟨(r12.1.grain), (r12.1.ok), (r12.1.e)⟩, (r12.2))) else
 κ (⟨(0), (false), (0)⟩, (r12.2))
def XW (o c : Int) : T (Fnd × Int) := Kf g o c .ret
theorem xkw (o c : Int) (κ : (Fnd × Int) -> T β) : (XW g o c).bind κ = Kf g o c κ := by
 unfold XW Kf
 simp only [bz]
def XX (o c : Int) (κ : (Fnd × Int) -> T β) : T β :=
 (YZ g o c).bind fun r0 =>
 bif r0.1.ok then (κ (⟨(r0.1.grain), (r0.1.ok), (r0.1.e)⟩, (r0.2))) else
 bif r0.1.e != 0 then (κ (⟨(r0.1.grain), (r0.1.ok), (r0.1.e)⟩, (r0.2))) else
 (Wa g r0.2 c).bind fun r3 =>
 bif r3.1.ok then (κ (⟨(r3.1.grain), (r3.1.ok), (r3.1.e)⟩, (r3.2))) else
 bif r3.1.e != 0 then (κ (⟨(r3.1.grain), (r3.1.ok), (r3.1.e)⟩, (r3.2))) else
 κ (⟨(0), (false), (0)⟩, (r3.2))
def jM (o c : Int) : T (Fnd × Int) := XX g o c .ret
theorem xgK (o c : Int) (κ : (Fnd × Int) -> T β) : (jM g o c).bind κ = XX g o c κ := by
 unfold jM XX
 simp only [bz]
def xa7 : Sm := fun
 | [.c (.ptr 0 0), .c (.int .i64 c), .c (.sl 1 0 5 5)], [some ⟨.port :: gc, 150, false, none⟩, some ⟨[.fn 224 [], .fn 225 [], .fn 226 [], .fn 227 [], .fn 228 []], 215, false, none⟩] => (match hdOf gc with
   | some (g, o) => some (mkS ((Fnd × Int)) (XW g o c) fun r => some (.agg r.1.cells, [some ⟨.port :: (g.cells ++ [.int .u64 r.2]), 150, false, none⟩, some ⟨[.fn 224 [], .fn 225 [], .fn 226 [], .fn 227 [], .fn 228 []], 215, false, none⟩]))
   | _ => none)
 | _, _ => none
variable {σ : Type} {I : Port Tryz.prog σ}
theorem xnD (hl : SoundL I ka12) : SoundF I 158 xa7 := by
 refine sq hl 7 Tryz.func158 fun _ _ t ht => ?_
 unfold xa7 at ht
 split at ht
 ·rename_i c gc
  split at ht
  ·rename_i g o hg
   obtain rfl := yq hg
   cases ht
   exact ey (xkw g o c _)
  ·cases ht
 ·cases ht
def Wt : Sm := fun
 | [.c (.ptr 0 0), .c (.int .i64 c), .c (.sl 1 0 2 2)], [some ⟨.port :: gc, 150, false, none⟩, some ⟨[.fn 227 [], .fn 228 []], 217, false, none⟩] => (match hdOf gc with
   | some (g, o) => some (mkS ((Fnd × Int)) (jM g o c) fun r => some (.agg r.1.cells, [some ⟨.port :: (g.cells ++ [.int .u64 r.2]), 150, false, none⟩, some ⟨[.fn 227 [], .fn 228 []], 217, false, none⟩]))
   | _ => none)
 | _, _ => none
theorem xkx (hl : SoundL I ka12) : SoundF I 158 Wt := by
 refine sq hl 7 Tryz.func158 fun _ _ t ht => ?_
 unfold Wt at ht
 split at ht
 ·rename_i c gc
  split at ht
  ·rename_i g o hg
   obtain rfl := yq hg
   cases ht
   exact ey (xgK g o c _)
  ·cases ht
 ·cases ht
def xhy : List (Nat × Sm) := (158, (orSm xa7 Wt)) :: ka12
theorem Kg : SoundL I xhy := (.cons (SoundF.or (xnD xq3) (xkx xq3)) xq3)
end Lx
end Go.Proofs.YtaegelbaghaooaaGreat
