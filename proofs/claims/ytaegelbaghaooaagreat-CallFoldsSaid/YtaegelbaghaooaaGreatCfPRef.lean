/- Part. -/
import Derived.Test.YtaegelbaghaooaaGreatCfPList
import Derived.Test.YtaegelbaghaooaaGreatCfQRf1
set_option linter.all false
open Go.IntKind (i64 u64 u32 u8)
namespace Go.Proofs.YtaegelbaghaooaaGreat
open Go Go.RowKit Lx
theorem xjy {σ β : Type} {B : σ -> (σ -> T β) -> T β} (P : T β -> Prop) (I : Nat -> σ -> Prop) (hB : ∀ k i (κ : σ -> T β), I k i -> (∀ j i', j < k -> I j i' -> P (κ i')) -> P (B i κ)) :
  ∀ (N k : Nat) (i : σ), k < N -> I k i -> P (xr N B i)
 | 0, k, i, h, hI => by omega
 | N + 1, k, i, h, hI => hB k i (xr N B) hI fun j i' hj hI' => xjy P I hB N j i' (by omega) hI'
theorem succ64 {x : Nat} (h : x < 9223372036854775807) : i64.wrap ((x : Int) + 1) = ((x + 1 : Nat) : Int) := by rw [IntKind.wrap_i64]; omega
theorem getR_at {L : RowsL} {j : Nat} (h : j < L.length) : getR L j = L[j] := by
 unfold getR; rw [List.getD_eq_getElem?_getD, List.getElem?_eq_getElem h]; rfl
theorem inR_yes {m j : Nat} (h : j < m) : inR m (j : Int) = true := by
 unfold inR; rw [decide_eq_true_eq]; omega
theorem in_yes {m j : Nat} (h : j < m) : decide (0 <= (j : Int) /\ (j : Int) < ((m : Nat) : Int)) = true := by
 rw [decide_eq_true_eq]; omega
end Go.Proofs.YtaegelbaghaooaaGreat
