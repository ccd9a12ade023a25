/- CallKnown: by the executor. -/
import Derived.Test.YtaegelbaghaooaaGreatCkM5
namespace Go.Proofs.YtaegelbaghaooaaGreat
open Go.RowKit Lx
set_option maxRecDepth 1000000
theorem ran_callKnown : evF Tryz.prog (lookK kc7) 20 Tryz.f12 [] [] = .ret (.c (.bool true), []) := by kernel_rfl
theorem callKnown_law (w : World) : Calls Tryz.prog 12 #[] w fun e w' => e = .returned (.bool true) ∧ Below w.heap.size w w' :=
  closed_law s_kc7 Tryz.func12 (by kernel_rfl) (by kernel_rfl) ran_callKnown w
end Go.Proofs.YtaegelbaghaooaaGreat
