/- RenewKnown: by the executor. -/
import Derived.Test.YtaegelbaghaooaaGreatRkM5
namespace Go.Proofs.YtaegelbaghaooaaGreat
open Go.RowKit Lx
set_option maxRecDepth 1000000
theorem ran_renewKnown : evF Tryz.prog (lookK kr2) 20 Tryz.f8 [] [] = .ret (.c (.bool true), []) := by kernel_rfl
theorem renewKnown_law (w : World) : Calls Tryz.prog 8 #[] w fun e w' => e = .returned (.bool true) ∧ Below w.heap.size w w' :=
  closed_law s_kr2 Tryz.func8 (by kernel_rfl) (by kernel_rfl) ran_renewKnown w
end Go.Proofs.YtaegelbaghaooaaGreat
