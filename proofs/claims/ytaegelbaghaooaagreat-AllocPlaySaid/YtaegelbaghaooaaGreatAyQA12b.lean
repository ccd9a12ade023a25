/- Summaries: central, searches. (trees printed by program, wip/auto.py) -/
import Derived.Test.YtaegelbaghaooaaGreatAyQA12
import Derived.WalkKit
set_option linter.unusedSimpArgs false
set_option linter.unusedVariables false
set_option linter.unusedSectionVars false
namespace Go.Proofs.YtaegelbaghaooaaGreat.Lx
open Go
set_option maxRecDepth 1000000

def VJ {β : Type} (g : Geo) (o c : Int) (κ : (Fnd × Int) → T β) : T β :=
 (XX g o c).bind fun r0 =>
 bif r0.1.ok then (κ (⟨(r0.1.grain), (r0.1.ok), (r0.1.e)⟩, (r0.2))) else
 bif r0.1.e != 0 then (κ (⟨(r0.1.grain), (r0.1.ok), (r0.1.e)⟩, (r0.2))) else
 (VE g r0.2 c).bind fun r3 =>
 bif r3.1.ok then (κ (⟨(r3.1.grain), (r3.1.ok), (r3.1.e)⟩, (r3.2))) else
 bif r3.1.e != 0 then (κ (⟨(r3.1.grain), (r3.1.ok), (r3.1.e)⟩, (r3.2))) else
 (Yf g r3.2 c).bind fun r6 =>
 bif r6.1.ok then (κ (⟨(r6.1.grain), (r6.1.ok), (r6.1.e)⟩, (r6.2))) else
 bif r6.1.e != 0 then (κ (⟨(r6.1.grain), (r6.1.ok), (r6.1.e)⟩, (r6.2))) else
 (Wt g r6.2 c).bind fun r9 =>
 bif r9.1.ok then (κ (⟨(r9.1.grain), (r9.1.ok), (r9.1.e)⟩, (r9.2))) else
 bif r9.1.e != 0 then (κ (⟨(r9.1.grain), (r9.1.ok), (r9.1.e)⟩, (r9.2))) else
 (Wu g r9.2 c).bind fun r12 =>
 bif r12.1.ok then (κ (⟨(r12.1.grain), (r12.1.ok), (r12.1.e)⟩, (r12.2))) else
 bif r12.1.e != 0 then (κ (⟨(r12.1.grain), (r12.1.ok), (r12.1.e)⟩, (r12.2))) else
 κ (⟨(0), (false), (0)⟩, (r12.2))
def XE (g : Geo) (o c : Int) : T (Fnd × Int) := VJ g o c .ret
theorem xhW {β : Type} (g : Geo) (o c : Int) (κ : (Fnd × Int) → T β) : (XE g o c).bind κ = VJ g o c κ := by
 unfold XE VJ
 first | rfl | (simp only [xa, xb, xe, xc, T.bind_assoc])
def XF {β : Type} (g : Geo) (o c : Int) (κ : (Fnd × Int) → T β) : T β :=
 (Wt g o c).bind fun r0 =>
 bif r0.1.ok then (κ (⟨(r0.1.grain), (r0.1.ok), (r0.1.e)⟩, (r0.2))) else
 bif r0.1.e != 0 then (κ (⟨(r0.1.grain), (r0.1.ok), (r0.1.e)⟩, (r0.2))) else
 (Wu g r0.2 c).bind fun r3 =>
 bif r3.1.ok then (κ (⟨(r3.1.grain), (r3.1.ok), (r3.1.e)⟩, (r3.2))) else
 bif r3.1.e != 0 then (κ (⟨(r3.1.grain), (r3.1.ok), (r3.1.e)⟩, (r3.2))) else
 κ (⟨(0), (false), (0)⟩, (r3.2))
def jT (g : Geo) (o c : Int) : T (Fnd × Int) := XF g o c .ret
theorem xe8 {β : Type} (g : Geo) (o c : Int) (κ : (Fnd × Int) → T β) : (jT g o c).bind κ = XF g o c κ := by
 unfold jT XF
 first | rfl | (simp only [xa, xb, xe, xc, T.bind_assoc])
def xai : Sm := fun args H => match args, H with
 | [.c (.ptr 0 0), .c (.int .i64 c), .c (.sl 1 0 5 5)], [some ⟨.port :: gc, 150, false, none⟩, some ⟨[.fn 224 [], .fn 225 [], .fn 226 [], .fn 227 [], .fn 228 []], 215, false, none⟩] => (match hdOf gc with
   | some (g, o) => some (mkS ((Fnd × Int)) (XE g o c) fun r => some (.agg r.1.cells, [some ⟨.port :: (g.cells ++ [.int .u64 r.2]), 150, false, none⟩, some ⟨[.fn 224 [], .fn 225 [], .fn 226 [], .fn 227 [], .fn 228 []], 215, false, none⟩]))
   | _ => none)
 | _, _ => none
variable {σ : Type} {I : Port Tryz.prog σ}
theorem xkS (hl : SoundL I ka12) : SoundF I 158 xai := by
 refine sq hl 7 Tryz.func158 fun args H t ht => ?_
 unfold xai at ht
 split at ht
 ·rename_i c gc
  split at ht
  ·rename_i g o hg
   obtain rfl := yy hg
   cases ht
   refine Eq.trans ?_ (xhW g o c _).symm
   kernel_rfl
  ·cases ht
 ·cases ht
def Wf : Sm := fun args H => match args, H with
 | [.c (.ptr 0 0), .c (.int .i64 c), .c (.sl 1 0 2 2)], [some ⟨.port :: gc, 150, false, none⟩, some ⟨[.fn 227 [], .fn 228 []], 217, false, none⟩] => (match hdOf gc with
   | some (g, o) => some (mkS ((Fnd × Int)) (jT g o c) fun r => some (.agg r.1.cells, [some ⟨.port :: (g.cells ++ [.int .u64 r.2]), 150, false, none⟩, some ⟨[.fn 227 [], .fn 228 []], 217, false, none⟩]))
   | _ => none)
 | _, _ => none
theorem xhX (hl : SoundL I ka12) : SoundF I 158 Wf := by
 refine sq hl 7 Tryz.func158 fun args H t ht => ?_
 unfold Wf at ht
 split at ht
 ·rename_i c gc
  split at ht
  ·rename_i g o hg
   obtain rfl := yy hg
   cases ht
   refine Eq.trans ?_ (xe8 g o c _).symm
   kernel_rfl
  ·cases ht
 ·cases ht
def xgB : List (Nat × Sm) := (158, (orSm xai Wf)) :: ka12
theorem VK : SoundL I xgB := (.cons (SoundF.or (xkS xnG) (xhX xnG)) xnG)
end Go.Proofs.YtaegelbaghaooaaGreat.Lx
