/- Plain arithmetic for layer 24: a factor times a power, reckoned with wrapping, and without where it fits. -/
import Derived.IntWalk
namespace Go.Proofs.Ytojcfpbgncemcaa
open Go.RowKit
/-- a factor multiplied k times by n, each product brought back into 64 bits. -/
def pw (n f : Int) : Nat → Int
  | 0 => f
  | k + 1 => wrap64 (pw n f k * n)
def soloV (p t : Int) : Int := pw (p + t) 10000 3
def anyV (p t : Int) : Int := pw (p + t) 1000000 5
theorem mul_in (a b A B : Int) (ha : 0 ≤ a) (hA : a ≤ A) (hb : 0 ≤ b) (hB : b ≤ B) : 0 ≤ a * b ∧ a * b ≤ A * B :=
  ⟨Int.mul_nonneg ha hb, Int.mul_le_mul hA hB hb (by omega)⟩
theorem soloV_eq (p t : Int) (h0 : 2 ≤ p + t) (h1 : p + t ≤ 320) : soloV p t = 10000 * (p + t) * (p + t) * (p + t) := by
  unfold soloV pw pw pw pw
  generalize p + t = s at *
  have a1 := mul_in 10000 s 10000 320 (by omega) (by omega) (by omega) (by omega)
  have a2 := mul_in (10000 * s) s (10000 * 320) 320 a1.1 a1.2 (by omega) (by omega)
  have a3 := mul_in (10000 * s * s) s (10000 * 320 * 320) 320 a2.1 a2.2 (by omega) (by omega)
  rw [IntWalk.wrap64_in (10000 * s) (by omega), IntWalk.wrap64_in (10000 * s * s) (by omega), IntWalk.wrap64_in (10000 * s * s * s) (by omega)]
theorem anyV_eq (p t : Int) (h0 : 2 ≤ p + t) (h1 : p + t ≤ 320) : anyV p t = 1000000 * (p + t) * (p + t) * (p + t) * (p + t) * (p + t) := by
  unfold anyV pw pw pw pw pw pw
  generalize p + t = s at *
  have a1 := mul_in 1000000 s 1000000 320 (by omega) (by omega) (by omega) (by omega)
  have a2 := mul_in (1000000 * s) s (1000000 * 320) 320 a1.1 a1.2 (by omega) (by omega)
  have a3 := mul_in (1000000 * s * s) s (1000000 * 320 * 320) 320 a2.1 a2.2 (by omega) (by omega)
  have a4 := mul_in (1000000 * s * s * s) s (1000000 * 320 * 320 * 320) 320 a3.1 a3.2 (by omega) (by omega)
  have a5 := mul_in (1000000 * s * s * s * s) s (1000000 * 320 * 320 * 320 * 320) 320 a4.1 a4.2 (by omega) (by omega)
  rw [IntWalk.wrap64_in (1000000 * s) (by omega), IntWalk.wrap64_in (1000000 * s * s) (by omega), IntWalk.wrap64_in (1000000 * s * s * s) (by omega), IntWalk.wrap64_in (1000000 * s * s * s * s) (by omega), IntWalk.wrap64_in (1000000 * s * s * s * s * s) (by omega)]
theorem mul_grows (a b s : Int) (h : a < b) (ha : 0 ≤ a) (hs : 1 ≤ s) : a * s < b * (s + 1) := by
  have h1 : a * s < b * s := Int.mul_lt_mul_of_pos_right h (by omega)
  rw [Int.mul_add]
  omega
theorem solo_lt (s : Int) (h0 : 2 ≤ s) : 10000 * s * s * s < 10000 * (s + 1) * (s + 1) * (s + 1) := by
  have n1 : 0 ≤ 10000 * s := by omega
  have n2 : 0 ≤ 10000 * s * s := Int.mul_nonneg n1 (by omega)
  exact mul_grows _ _ s (mul_grows _ _ s (by omega) n1 (by omega)) n2 (by omega)
theorem any_lt (s : Int) (h0 : 2 ≤ s) : 1000000 * s * s * s * s * s < 1000000 * (s + 1) * (s + 1) * (s + 1) * (s + 1) * (s + 1) := by
  have n1 : 0 ≤ 1000000 * s := by omega
  have n2 : 0 ≤ 1000000 * s * s := Int.mul_nonneg n1 (by omega)
  have n3 : 0 ≤ 1000000 * s * s * s := Int.mul_nonneg n2 (by omega)
  have n4 : 0 ≤ 1000000 * s * s * s * s := Int.mul_nonneg n3 (by omega)
  exact mul_grows _ _ s (mul_grows _ _ s (mul_grows _ _ s (mul_grows _ _ s (by omega) n1 (by omega)) n2 (by omega)) n3 (by omega)) n4 (by omega)
theorem solo_any (s : Int) (h0 : 2 ≤ s) : 10000 * s * s * s < 1000000 * s * s * s * s * s := by
  have e : 0 < s * s * s := Int.mul_pos (Int.mul_pos (by omega) (by omega)) (by omega)
  have q : 0 < s * s := Int.mul_pos (by omega) (by omega)
  have e1 : 10000 * s * s * s = s * s * s * 10000 := by rw [Int.mul_comm _ 10000]; simp only [Int.mul_assoc]
  have e2 : 1000000 * s * s * s * s * s = s * s * s * (1000000 * (s * s)) := by rw [← Int.mul_assoc, Int.mul_comm (s * s * s) 1000000]; simp only [Int.mul_assoc]
  rw [e1, e2]
  exact Int.mul_lt_mul_of_pos_left (by omega) e
theorem solo_pos (s : Int) (h0 : 2 ≤ s) : 0 < 10000 * s * s * s := Int.mul_pos (Int.mul_pos (by omega) (by omega)) (by omega)
end Go.Proofs.Ytojcfpbgncemcaa
