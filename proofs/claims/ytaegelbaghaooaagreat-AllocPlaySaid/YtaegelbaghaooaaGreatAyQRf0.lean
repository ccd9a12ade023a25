/- The document's small functions, run in place. -/
import Derived.Test.YtaegelbaghaooaaGreatAyM3
import Derived.Test.YtaegelbaghaooaaGreatAyLxMrg
set_option linter.unusedSimpArgs false
set_option linter.unusedVariables false
set_option linter.unusedSectionVars false
namespace Go.Proofs.YtaegelbaghaooaaGreat.Lx
open Go
set_option maxRecDepth 1000000
theorem xrR {σ : Type} {I : Port Tryz.prog σ} {l : List (Nat × Sm)} (hl : SoundL I l) {f : FuncId} {fn : Func} (n : Fu) (hf : (Tryz.prog).funcs[f]? = some fn) (hname : (fn.name == "runtime.NumGoroutine") = false) (hbody : fn.body.isSome = true) : SoundF I f (inl Tryz.prog (xt l) n fn) :=
 KO hl.known mixed hf hname hbody n
noncomputable def kr0a : List (Nat × Sm) := [(248, inl Tryz.prog (xt []) 1 Tryz.f248)]
variable {σ : Type} {I : Port Tryz.prog σ}
theorem xtx : SoundL I kr0a := .cons (xrR SoundL.nil 1 Tryz.func248 (by kernel_rfl) (by kernel_rfl)) SoundL.nil
def xpN (c : Int) : T Int := bif c == 0 then .ret 8 else bif c == 1 then .ret 4 else bif c == 2 then .ret 2 else bif c == 3 then .ret 2 else .fail
def xjg : Sm := fun args H => match args, H with
 | [.c (.int .i64 c)], [] => some (mkS Int (xpN c) fun r => some (.c (.int .i64 r), []))
 | _, _ => none
theorem bloc0 : evF Tryz.prog (xt kr0a) 1 Tryz.f188 [.c (.int .i64 0)] [] = .ret (.c (.int .i64 8), []) := by kernel_rfl
theorem bloc1 : evF Tryz.prog (xt kr0a) 1 Tryz.f188 [.c (.int .i64 1)] [] = .ret (.c (.int .i64 4), []) := by kernel_rfl
theorem bloc2 : evF Tryz.prog (xt kr0a) 1 Tryz.f188 [.c (.int .i64 2)] [] = .ret (.c (.int .i64 2), []) := by kernel_rfl
theorem bloc3 : evF Tryz.prog (xt kr0a) 1 Tryz.f188 [.c (.int .i64 3)] [] = .ret (.c (.int .i64 2), []) := by kernel_rfl
theorem xrS : SoundF I 188 xjg := by
 refine xjU xtx Tryz.func188 (by kernel_rfl) (by kernel_rfl) fun args H S hm s r hr => ⟨1, ?_⟩
 unfold xjg at hm
 split at hm
 ·rename_i c
  cases hm
  by_cases h0 : c = 0
  ·subst h0; rw [bloc0]; exact hr
  by_cases h1 : c = 1
  ·subst h1; rw [bloc1]; exact hr
  by_cases h2 : c = 2
  ·subst h2; rw [bloc2]; exact hr
  by_cases h3 : c = 3
  ·subst h3; rw [bloc3]; exact hr
  have e0 : (c == 0) = false := by simpa using h0
  have e1 : (c == 1) = false := by simpa using h1
  have e2 : (c == 2) = false := by simpa using h2
  have e3 : (c == 3) = false := by simpa using h3
  simp [Sum.tree, xpN, e0, e1, e2, e3, T.bind, T.run] at hr
 ·cases hm
noncomputable def kr0 : List (Nat × Sm) := (188, xjg) :: kr0a
theorem xgM : SoundL I kr0 := .cons xrS xtx
end Go.Proofs.YtaegelbaghaooaaGreat.Lx
