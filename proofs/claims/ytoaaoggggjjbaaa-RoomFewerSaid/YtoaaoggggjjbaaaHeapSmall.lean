/- heap's small functions: ends, makes, asked. -/
import Derived.Test.YtoaaoggggjjbaaaEvents
import Derived.Test.YtoaaoggggjjbaaaLib
import Derived.WalkSpells
import Derived.WalkLawsBesides
import Derived.Lib.Hide
namespace Go.Proofs.Ytoaaoggggjjbaaa
open Go.RowKit
def endsB (e : Ev) : Bool := decide (e.r.e = 0) && (decide (e.call.op = 4) || decide (e.call.op = 5))
def makesB (e : Ev) : Bool := decide (e.r.e = 0) && (decide (1 ≤ e.call.op) && decide (e.call.op ≤ 4))
def askedV (c : Cl) : Int := if c.op = 2 then wrap64 (c.size * c.n) else c.size
theorem ends_any (x : Ev) (b : Bool) (hb : endsB x = b) (w : World) : Calls Try.prog 28 #[.agg x.cells.toArray] w fun e w' => e = .returned (.bool b) ∧ w' = w.alloc (.cells x.cells.toArray 35) := by
  have c1 : x.cells[1]? = some (.int .u8 x.call.op) := rfl
  have c21 : x.cells[21]? = some (.int .i64 x.r.e) := rfl
  unfold endsB at hb
  by_cases h1 : x.r.e = 0
  · rw [h1] at c21
    by_cases h2 : x.call.op = 4
    · rw [h2] at c1
      obtain rfl : true = b := by rw [← hb]; simp [h1, h2]
      clear hb h1 h2
      go_enter Try.func28, Try.ntmps28
      go_wp2
      go_ret
      exact ⟨rfl, rfl⟩
    · have h2b : (x.call.op == 4) = false := by simp [h2]
      by_cases h3 : x.call.op = 5
      · rw [h3] at c1
        obtain rfl : true = b := by rw [← hb]; simp [h1, h3]
        clear hb h1 h2 h3 h2b
        go_enter Try.func28, Try.ntmps28
        go_wp2
        go_ret
        exact ⟨rfl, rfl⟩
      · have h3b : (x.call.op == 5) = false := by simp [h3]
        obtain rfl : false = b := by rw [← hb]; simp [h2, h3]
        clear hb h1 h2 h3
        go_enter Try.func28, Try.ntmps28
        go_wp2
        go_ret
        exact ⟨rfl, rfl⟩
  · have h1b : (x.r.e == 0) = false := by simp [h1]
    obtain rfl : false = b := by rw [← hb]; simp [h1]
    clear hb h1
    go_enter Try.func28, Try.ntmps28
    go_wp2
    go_ret
    exact ⟨rfl, rfl⟩
theorem makes_any (x : Ev) (b : Bool) (hb : makesB x = b) (w : World) : Calls Try.prog 29 #[.agg x.cells.toArray] w fun e w' => e = .returned (.bool b) ∧ w' = w.alloc (.cells x.cells.toArray 35) := by
  have c1 : x.cells[1]? = some (.int .u8 x.call.op) := rfl
  have c21 : x.cells[21]? = some (.int .i64 x.r.e) := rfl
  unfold makesB at hb
  by_cases h1 : x.r.e = 0
  · rw [h1] at c21
    by_cases h2 : 1 ≤ x.call.op
    · by_cases h3 : x.call.op ≤ 4
      · obtain rfl : true = b := by rw [← hb]; simp [h1, h2, h3]
        clear hb h1
        go_enter Try.func29, Try.ntmps29
        go_wp2
        go_ret
        exact ⟨rfl, rfl⟩
      · have h3b : decide (x.call.op ≤ 4) = false := by simp; omega
        obtain rfl : false = b := by rw [← hb]; simp; omega
        clear hb h1
        go_enter Try.func29, Try.ntmps29
        go_wp2
        go_ret
        exact ⟨rfl, rfl⟩
    · have h2b : decide (1 ≤ x.call.op) = false := by simp; omega
      obtain rfl : false = b := by rw [← hb]; simp; omega
      clear hb h1
      go_enter Try.func29, Try.ntmps29
      go_wp2
      go_ret
      exact ⟨rfl, rfl⟩
  · have h1b : (x.r.e == 0) = false := by simp [h1]
    obtain rfl : false = b := by rw [← hb]; simp [h1]
    clear hb h1
    go_enter Try.func29, Try.ntmps29
    go_wp2
    go_ret
    exact ⟨rfl, rfl⟩
theorem asked_any (x : Cl) (w : World) : Calls Try.prog 30 #[.agg x.cells.toArray] w fun e w' => e = .returned (.int .i64 (askedV x)) ∧ w' = w.alloc (.cells x.cells.toArray 27) := by
  have c0 : x.cells[0]? = some (.int .u8 x.op) := rfl
  have c1 : x.cells[1]? = some (.int .i64 x.size) := rfl
  have c2 : x.cells[2]? = some (.int .i64 x.n) := rfl
  unfold askedV
  by_cases h1 : x.op = 2
  · rw [if_pos h1]
    rw [h1] at c0
    clear h1
    go_enter Try.func30, Try.ntmps30
    go_wp2
    go_ret
    exact ⟨rfl, rfl⟩
  · have h1b : (x.op == 2) = false := by simp [h1]
    rw [if_neg h1]
    clear h1
    go_enter Try.func30, Try.ntmps30
    go_wp2
    go_ret
    exact ⟨rfl, rfl⟩
end Go.Proofs.Ytoaaoggggjjbaaa
