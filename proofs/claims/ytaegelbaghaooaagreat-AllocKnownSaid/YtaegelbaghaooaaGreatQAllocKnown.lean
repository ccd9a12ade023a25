/- AllocKnown: by the executor. -/
import Derived.Test.YtaegelbaghaooaaGreatQLaw15
namespace Go.Proofs.YtaegelbaghaooaaGreat
open Go.RowKit Lx
set_option maxRecDepth 1000000
theorem ran_allocKnown : evF Tryz.prog (lookK kl11) 200 Tryz.f5 [] [] = .ret (.c (.bool true), []) := by kernel_rfl
theorem allocKnown_law (w : World) : Calls Tryz.prog 5 #[] w fun e w' => e = .returned (.bool true) ∧ Below w.heap.size w w' :=
  closed_law s_kl11 Tryz.func5 (by kernel_rfl) (by kernel_rfl) ran_allocKnown w
end Go.Proofs.YtaegelbaghaooaaGreat
