/- Summaries: bag, central. (trees printed by program, wip/auto.py) -/
import Derived.Test.YtaegelbaghaooaaGreatAyQA10
import Derived.WalkKit
set_option linter.unusedSimpArgs false
set_option linter.unusedVariables false
set_option linter.unusedSectionVars false
namespace Go.Proofs.YtaegelbaghaooaaGreat.Lx
open Go
set_option maxRecDepth 1000000

def xhQ {β : Type} (g : Geo) (c it : Int) (κ : Bool → T β) : T β :=
 (Wd g c).bind fun r0 =>
 bif r0 then (κ (false)) else
 bif it == 0 then (κ (false)) else
 (xgx g c it).bind fun r3 =>
 bif !r3 then (κ (false)) else
 .op (.add (atF g 5 c) (1)) fun x5 =>
 κ (true)
def xgy (g : Geo) (c it : Int) : T Bool := xhQ g c it .ret
theorem xnC {β : Type} (g : Geo) (c it : Int) (κ : Bool → T β) : (xgy g c it).bind κ = xhQ g c it κ := by
 unfold xgy xhQ
 first | rfl | (simp only [xa, xb, xe, xc, T.bind_assoc])
def VD {β : Type} (g : Geo) (o c : Int) (κ : (Fnd × Int) → T β) : T β :=
 (qL g c).bind fun r0 =>
 κ (⟨(IntKind.i64.wrap (IntKind.i64.wrap r0.1 - 1)), (r0.2), (0)⟩, (o))
def VE (g : Geo) (o c : Int) : T (Fnd × Int) := VD g o c .ret
theorem xhR {β : Type} (g : Geo) (o c : Int) (κ : (Fnd × Int) → T β) : (VE g o c).bind κ = VD g o c κ := by
 unfold VE VD
 first | rfl | (simp only [xa, xb, xe, xc, T.bind_assoc])
def VF {β : Type} (a0 a3 : Int) (g4 : Geo) (κ0 : Int → T β) (i : Int × Bool × Int) (k : Int × Bool × Int → T β) : T β :=
 bif i.2.1 then ((xj g4 i.2.2 (IntKind.i64.wrap (IntKind.i64.wrap i.1 - 1))).bind fun r1 =>
 (qL g4 a0).bind fun r2 =>
 k (r2.1, r2.2, r1.2)) else
 κ0 (i.2.2)
def jP {β : Type} (a0 a3 : Int) (g4 : Geo) (a1 : Int) (b2 : Bool) (a5 : Int) (κ0 : Int → T β) : T β := xA xd (VF a0 a3 g4 κ0) (a1, b2, a5)
theorem xe5 {β γ : Type} (a0 a3 : Int) (g4 : Geo) (a1 : Int) (b2 : Bool) (a5 : Int) (κ0 : Int → T β) (κ : β → T γ) : (jP a0 a3 g4 a1 b2 a5 κ0).bind κ = jP a0 a3 g4 a1 b2 a5 (fun ae2 => (κ0 ae2).bind κ) := by
 unfold jP
 refine xp κ (fun i k => ?_) _ _
 unfold VF
 first | rfl | (simp only [xa, xb, xe, xc, T.bind_assoc])
def xgz : Pat := ⟨xr 40 0 [(0, .c (.raw (.ptr 0 0))), (2, .c (.int .i64)), (3, .c (.int .u64)), (4, .c (.bool)), (5, .c (.int .i64))], [some ⟨[.raw (.port), .geo, .int .u64], 150, false, none⟩]⟩
def qM : Pat := ⟨xr 40 0 [(0, .c (.raw (.ptr 0 0))), (5, .c (.int .i64))], [some ⟨[.raw (.port), .geo, .int .u64], 150, false, none⟩]⟩
def jQ : St → (Ex → St → T R) → Option (T R) := fun st K => match xy xgz st with
 | some [.i a0, .i a1, .b b2, .i a3, .g g4, .i a5] => some (jP a0 a3 g4 a1 b2 a5 (fun ae2 => K (.exit 2) (xf qM [.i a3, .g g4, .i ae2])))
 | _ => none
theorem xrk : ∀ st K t, jQ st K = some t → xK xd (lf ka10 xd 1 .no [1, 0, 0, 1, 1, 0, 0, 1, 1, 0] Tryz.f241 K) st = t := by
 intro st K t h
 unfold jQ at h
 split at h
 ·rename_i a0 a1 b2 a3 g4 a5 hm
  cases h
  rw [xn hm]
  exact cast (by kernel_rfl) (xB (F := lf ka10 xd 1 .no [1, 0, 0, 1, 1, 0, 0, 1, 1, 0] Tryz.f241 K) (S := fun i => xf xgz [.i a0, .i (i.1), .b (i.2.1), .i a3, .g g4, .i (i.2.2)]) (B := VF a0 a3 g4 (fun ae2 => K (.exit 2) (xf qM [.i a3, .g g4, .i ae2]))) (fun i k => by kernel_rfl) xd (a1, b2, a5))
 ·cases h
def VG {β : Type} (g1 : Geo) (κ0 : Int → T β) (i : Int × Int) (k : Int × Int → T β) : T β :=
 bif decide (i.1 < 4) then ((qL g1 i.1).bind fun r1 =>
 jP (i.1) (i.1) (g1) (r1.1) (r1.2) (i.2) (fun y2_0 =>
 k (IntKind.i64.wrap (i.1 + 1), y2_0))) else
 κ0 (i.2)
def jR {β : Type} (g1 : Geo) (a0 a2 : Int) (κ0 : Int → T β) : T β := xA xd (VG g1 κ0) (a0, a2)
theorem xe6 {β γ : Type} (g1 : Geo) (a0 a2 : Int) (κ0 : Int → T β) (κ : β → T γ) : (jR g1 a0 a2 κ0).bind κ = jR g1 a0 a2 (fun ae1 => (κ0 ae1).bind κ) := by
 unfold jR
 refine xp κ (fun i k => ?_) _ _
 unfold VG
 first | rfl | (simp only [xa, xb, xe, xc, T.bind_assoc, xe5])
def xdE : Pat := ⟨xr 40 0 [], [some ⟨[.raw (.port), .geo, .int .u64], 150, false, none⟩]⟩
def VH : St → (Ex → St → T R) → Option (T R) := fun st K => match xy qM st with
 | some [.i a0, .g g1, .i a2] => some (jR g1 a0 a2 (fun ae1 => K (.exit 0) (xf xdE [.g g1, .i ae1])))
 | _ => none
theorem xrl : ∀ st K t, VH st K = some t → xK xd (lf ka10 xd 1 (lsAt jQ .no [1, 1, 0, 0, 1, 1, 0]) [1, 0] Tryz.f241 K) st = t := by
 intro st K t h
 unfold VH at h
 split at h
 ·rename_i a0 g1 a2 hm
  cases h
  rw [xn hm]
  exact cast (by kernel_rfl) (xB (F := lf ka10 xd 1 (lsAt jQ .no [1, 1, 0, 0, 1, 1, 0]) [1, 0] Tryz.f241 K) (S := fun i => xf qM [.i (i.1), .g g1, .i (i.2)]) (B := VG g1 (fun ae1 => K (.exit 0) (xf xdE [.g g1, .i ae1]))) (fun i k => by kernel_rfl) xd (a0, a2))
 ·cases h
def xhS {β : Type} (g : Geo) (o : Int) (κ : (Unit × Int) → T β) : T β :=
 jR (g) (0) (o) (fun y0_0 =>
 κ ((), (y0_0)))
def xgA (g : Geo) (o : Int) : T (Unit × Int) := xhS g o .ret
theorem xnD {β : Type} (g : Geo) (o : Int) (κ : (Unit × Int) → T β) : (xgA g o).bind κ = xhS g o κ := by
 unfold xgA xhS
 first | rfl | (simp only [xa, xb, xe, xc, T.bind_assoc, xe6])
def xhT : Sm := fun args H => match args, H with
 | [.c .port, .agg gc, .c (.int .i64 c), .c (.int .u64 it)], [] => (match xu gc with
   | some g => some (mkS (Bool) (xgy g c it) fun r => some (.c (.bool r), []))
   | _ => none)
 | _, _ => none
variable {σ : Type} {I : Port Tryz.prog σ}
theorem xrm (hl : SoundL I ka10) : SoundF I 90 xhT := by
 refine sq hl 1 Tryz.func90 fun args H t ht => ?_
 unfold xhT at ht
 split at ht
 ·rename_i gc c it
  split at ht
  ·rename_i g hg
   obtain rfl := xh hg
   cases ht
   refine Eq.trans ?_ (xnC g c it _).symm
   kernel_rfl
  ·cases ht
 ·cases ht
def xah : Sm := fun args H => match args, H with
 | [.c (.ptr 0 0), .c (.int .i64 c)], [some ⟨.port :: gc, 150, false, none⟩] => (match hdOf gc with
   | some (g, o) => some (mkS ((Fnd × Int)) (VE g o c) fun r => some (.agg r.1.cells, [some ⟨.port :: (g.cells ++ [.int .u64 r.2]), 150, false, none⟩]))
   | _ => none)
 | _, _ => none
theorem xkQ (hl : SoundL I ka10) : SoundF I 225 xah := by
 refine sq hl 1 Tryz.func225 fun args H t ht => ?_
 unfold xah at ht
 split at ht
 ·rename_i c gc
  split at ht
  ·rename_i g o hg
   obtain rfl := yy hg
   cases ht
   refine Eq.trans ?_ (xhR g o c _).symm
   kernel_rfl
  ·cases ht
 ·cases ht
def xhU : Sm := fun args H => match args, H with
 | [.c (.ptr 0 0)], [some ⟨.port :: gc, 150, false, none⟩] => (match hdOf gc with
   | some (g, o) => some (mkS ((Unit × Int)) (xgA g o) fun r => some (.tup [], [some ⟨.port :: (g.cells ++ [.int .u64 r.2]), 150, false, none⟩]))
   | _ => none)
 | _, _ => none
theorem xnE : Good Tryz.prog (xt ka10) xd 1 (lsAt VH (lsAt jQ .no [1, 1, 0, 0, 1, 1, 0]) [1, 0]) (Tryz.f241.body.getD .skip) (xv Tryz.f241.results.toList) := xH (xl (by kernel_rfl)) (Vg (p := [1, 0]) (q := [1, 1, 0, 0, 1, 1, 0]) (xl (fn := Tryz.f241) (by kernel_rfl)) xE xrk (by kernel_rfl)) xrl
theorem xrn (hl : SoundL I ka10) : SoundF I 241 xhU := by
 refine sq hl xd Tryz.func241 fun args H t ht => ?_
 unfold xhU at ht
 split at ht
 ·rename_i gc
  split at ht
  ·rename_i g o hg
   obtain rfl := yy hg
   cases ht
   refine (xG (P := Tryz.prog) (n := xd) (x := (lsAt VH (lsAt jQ .no [1, 1, 0, 0, 1, 1, 0]) [1, 0])) (fn := Tryz.f241) (H := [some ⟨.port :: (g.cells ++ [.int .u64 o]), 150, false, none⟩]) (c := Tryz.f241.body.getD .skip) (xl (by kernel_rfl)) xnE).symm.trans ?_
   refine Eq.trans ?_ (xnD g o _).symm
   kernel_rfl
  ·cases ht
 ·cases ht
def ka11 : List (Nat × Sm) := (90, xhT) :: (225, xah) :: (241, xhU) :: ka10
theorem xhV : SoundL I ka11 := (.cons (xrm xhP) (.cons (xkQ xhP) (.cons (xrn xhP) xhP)))
end Go.Proofs.YtaegelbaghaooaaGreat.Lx
