/- Summaries: central, searches. (trees printed by program, wip/auto.py) -/
import Derived.Test.YtaegelbaghaooaaGreatRpQA12
import Derived.WalkKit
set_option linter.unusedSimpArgs false
set_option linter.unusedVariables false
set_option linter.unusedSectionVars false
namespace Go.Proofs.YtaegelbaghaooaaGreat.Lx
open Go
set_option maxRecDepth 1000000

def sfirstTK {β : Type} (g : Geo) (o c : Int) (κ : (Fnd × Int) → T β) : T β :=
 (cachedT g o c).bind fun r0 =>
 bif r0.1.ok then (κ (⟨(r0.1.grain), (r0.1.ok), (r0.1.e)⟩, (r0.2))) else
 bif r0.1.e != 0 then (κ (⟨(r0.1.grain), (r0.1.ok), (r0.1.e)⟩, (r0.2))) else
 (baggedT g r0.2 c).bind fun r3 =>
 bif r3.1.ok then (κ (⟨(r3.1.grain), (r3.1.ok), (r3.1.e)⟩, (r3.2))) else
 bif r3.1.e != 0 then (κ (⟨(r3.1.grain), (r3.1.ok), (r3.1.e)⟩, (r3.2))) else
 (remoteT g r3.2 c).bind fun r6 =>
 bif r6.1.ok then (κ (⟨(r6.1.grain), (r6.1.ok), (r6.1.e)⟩, (r6.2))) else
 bif r6.1.e != 0 then (κ (⟨(r6.1.grain), (r6.1.ok), (r6.1.e)⟩, (r6.2))) else
 (hbitsT g r6.2 c).bind fun r9 =>
 bif r9.1.ok then (κ (⟨(r9.1.grain), (r9.1.ok), (r9.1.e)⟩, (r9.2))) else
 bif r9.1.e != 0 then (κ (⟨(r9.1.grain), (r9.1.ok), (r9.1.e)⟩, (r9.2))) else
 (freshT g r9.2 c).bind fun r12 =>
 bif r12.1.ok then (κ (⟨(r12.1.grain), (r12.1.ok), (r12.1.e)⟩, (r12.2))) else
 bif r12.1.e != 0 then (κ (⟨(r12.1.grain), (r12.1.ok), (r12.1.e)⟩, (r12.2))) else
 κ (⟨(0), (false), (0)⟩, (r12.2))
def sfirstT (g : Geo) (o c : Int) : T (Fnd × Int) := sfirstTK g o c .ret
theorem sfirstT_bind {β : Type} (g : Geo) (o c : Int) (κ : (Fnd × Int) → T β) : (sfirstT g o c).bind κ = sfirstTK g o c κ := by
 unfold sfirstT sfirstTK
 first | rfl | (simp only [bind_cond, bind_ret_, bind_op, bind_fail, T.bind_assoc])
def ssecondTK {β : Type} (g : Geo) (o c : Int) (κ : (Fnd × Int) → T β) : T β :=
 (hbitsT g o c).bind fun r0 =>
 bif r0.1.ok then (κ (⟨(r0.1.grain), (r0.1.ok), (r0.1.e)⟩, (r0.2))) else
 bif r0.1.e != 0 then (κ (⟨(r0.1.grain), (r0.1.ok), (r0.1.e)⟩, (r0.2))) else
 (freshT g r0.2 c).bind fun r3 =>
 bif r3.1.ok then (κ (⟨(r3.1.grain), (r3.1.ok), (r3.1.e)⟩, (r3.2))) else
 bif r3.1.e != 0 then (κ (⟨(r3.1.grain), (r3.1.ok), (r3.1.e)⟩, (r3.2))) else
 κ (⟨(0), (false), (0)⟩, (r3.2))
def ssecondT (g : Geo) (o c : Int) : T (Fnd × Int) := ssecondTK g o c .ret
theorem ssecondT_bind {β : Type} (g : Geo) (o c : Int) (κ : (Fnd × Int) → T β) : (ssecondT g o c).bind κ = ssecondTK g o c κ := by
 unfold ssecondT ssecondTK
 first | rfl | (simp only [bind_cond, bind_ret_, bind_op, bind_fail, T.bind_assoc])
def m_sfirstT : Sm := fun args H => match args, H with
 | [.c (.ptr 0 0), .c (.int .i64 c), .c (.sl 1 0 5 5)], [some ⟨.port :: gc, 150, false, none⟩, some ⟨[.fn 224 [], .fn 225 [], .fn 226 [], .fn 227 [], .fn 228 []], 215, false, none⟩] => (match hdOf gc with
   | some (g, o) => some (mkS ((Fnd × Int)) (sfirstT g o c) fun r => some (.agg r.1.cells, [some ⟨.port :: (g.cells ++ [.int .u64 r.2]), 150, false, none⟩, some ⟨[.fn 224 [], .fn 225 [], .fn 226 [], .fn 227 [], .fn 228 []], 215, false, none⟩]))
   | _ => none)
 | _, _ => none
variable {σ : Type} {I : Port Tryz.prog σ}
theorem s_m_sfirstT (hl : SoundL I ka12) : SoundF I 158 m_sfirstT := by
 refine sq hl 7 Tryz.func158 fun args H t ht => ?_
 unfold m_sfirstT at ht
 split at ht
 ·rename_i c gc
  split at ht
  ·rename_i g o hg
   obtain rfl := hdOf_eq hg
   cases ht
   refine Eq.trans ?_ (sfirstT_bind g o c _).symm
   kernel_rfl
  ·cases ht
 ·cases ht
def m_ssecondT : Sm := fun args H => match args, H with
 | [.c (.ptr 0 0), .c (.int .i64 c), .c (.sl 1 0 2 2)], [some ⟨.port :: gc, 150, false, none⟩, some ⟨[.fn 227 [], .fn 228 []], 217, false, none⟩] => (match hdOf gc with
   | some (g, o) => some (mkS ((Fnd × Int)) (ssecondT g o c) fun r => some (.agg r.1.cells, [some ⟨.port :: (g.cells ++ [.int .u64 r.2]), 150, false, none⟩, some ⟨[.fn 227 [], .fn 228 []], 217, false, none⟩]))
   | _ => none)
 | _, _ => none
theorem s_m_ssecondT (hl : SoundL I ka12) : SoundF I 158 m_ssecondT := by
 refine sq hl 7 Tryz.func158 fun args H t ht => ?_
 unfold m_ssecondT at ht
 split at ht
 ·rename_i c gc
  split at ht
  ·rename_i g o hg
   obtain rfl := hdOf_eq hg
   cases ht
   refine Eq.trans ?_ (ssecondT_bind g o c _).symm
   kernel_rfl
  ·cases ht
 ·cases ht
def ka12b : List (Nat × Sm) := (158, (orSm m_sfirstT m_ssecondT)) :: ka12
theorem s_ka12b : SoundL I ka12b := (.cons (SoundF.or (s_m_sfirstT s_ka12) (s_m_ssecondT s_ka12)) s_ka12)
end Go.Proofs.YtaegelbaghaooaaGreat.Lx
