/- The document's functions over lists of blocks: what their trees come to. -/
import Derived.Test.YtaegelbaghaooaaGreatErPList
import Derived.Test.YtaegelbaghaooaaGreatErQRf1
set_option linter.all false
open Go.IntKind (i64 u64 u32 u8)
namespace Go.Proofs.YtaegelbaghaooaaGreat
open Go Go.RowKit Lx
theorem vk {σ β : Type} {B : σ -> (σ -> T β) -> T β} (P : T β -> Prop) (I : Nat -> σ -> Prop) (hB : ∀ k i (κ : σ -> T β), I k i -> (∀ j i', j < k -> I j i' -> P (κ i')) -> P (B i κ)) :
  ∀ (N k : Nat) (i : σ), k < N -> I k i -> P (xz N B i)
 | 0, k, i, h, hI => by omega
 | N + 1, k, i, h, hI => hB k i (xz N B) hI fun j i' hj hI' => vk P I hB N j i' (by omega) hI'
theorem wA {x : Nat} (h : x < 9223372036854775807) : i64.wrap ((x : Int) + 1) = ((x + 1 : Nat) : Int) := by rw [IntKind.wrap_i64]; omega
theorem yS {m j : Nat} (h : j < m) : inR m (j : Int) = true := by
 unfold inR; rw [decide_eq_true_eq]; omega
theorem vg {m j : Nat} (h : j < m) : decide (0 <= (j : Int) /\ (j : Int) < ((m : Nat) : Int)) = true := by
 rw [decide_eq_true_eq]; omega
theorem xkY {β : Type} {P : T β -> Prop} {x y : T β} {b : Bool} (hb : b = true) (h : P x) : P (bif b then x else y) := by subst hb; exact h
theorem P_no {β : Type} {P : T β -> Prop} {x y : T β} {b : Bool} (hb : b = false) (h : P y) : P (bif b then x else y) := by subst hb; exact h
end Go.Proofs.YtaegelbaghaooaaGreat
