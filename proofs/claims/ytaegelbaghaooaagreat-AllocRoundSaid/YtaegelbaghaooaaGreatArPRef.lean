/- The document's functions over lists of blocks: what their trees come to. -/
import Derived.Test.YtaegelbaghaooaaGreatArPList
import Derived.Test.YtaegelbaghaooaaGreatArQRf1
set_option linter.unusedSimpArgs false
set_option linter.unusedVariables false
namespace Go.Proofs.YtaegelbaghaooaaGreat
open Go Go.RowKit Lx
set_option linter.unusedVariables false
set_option linter.unusedSectionVars false
theorem loopB_P {σ β : Type} {B : σ → (σ → T β) → T β} (P : T β → Prop) (I : Nat → σ → Prop) (hB : ∀ k i (κ : σ → T β), I k i → (∀ j i', j < k → I j i' → P (κ i')) → P (B i κ)) :
    ∀ (N k : Nat) (i : σ), k < N → I k i → P (loopB N B i)
  | 0, k, i, h, hI => by omega
  | N + 1, k, i, h, hI => hB k i (loopB N B) hI fun j i' hj hI' => loopB_P P I hB N j i' (by omega) hI'
theorem succ64 {x : Nat} (h : x < 9223372036854775807) : IntKind.wrap IntKind.i64 ((x : Int) + 1) = ((x + 1 : Nat) : Int) := by rw [IntKind.wrap_i64]; omega
theorem P_yes {β : Type} {P : T β → Prop} {x y : T β} {b : Bool} (hb : b = true) (h : P x) : P (bif b then x else y) := by subst hb; exact h
theorem P_no {β : Type} {P : T β → Prop} {x y : T β} {b : Bool} (hb : b = false) (h : P y) : P (bif b then x else y) := by subst hb; exact h
end Go.Proofs.YtaegelbaghaooaaGreat
