/- Contracts of bound.power, Solo, Any and quilletref24.Power. -/
import Derived.Test.YtojcfpbgncemcaaProg
import Derived.Test.YtojcfpbgncemcaaBoundMath
import Derived.WalkKit
import Derived.WalkSpells
import Derived.Lib.Hide
import Derived.WalkLawsBesides
namespace Go.Proofs.Ytojcfpbgncemcaa
open Go.RowKit

set_option maxHeartbeats 400000 in
theorem refPower_any (n f m0 : Int) (m : Nat) (e : m0 = m) (w : World) (hm : m ≤ 1000) :
    Calls Try.prog 10 #[.int .i64 n, .int .i64 f, .int .i64 m0] w fun e w' => e = .returned (.int .i64 (pw n f m)) ∧ w = w' := by
  subst e
  go_enter Try.func10, Try.ntmps10
  go_wp2
  go_loop [1, 7] (fun g i => ∃ k : Nat, k ≤ m ∧ i = .int .i64 k ∧ g = .int .i64 (pw n f k)) (fun _ i => m - (intOf i).toNat)
  case atStart => exact ⟨0, Nat.zero_le _, rfl, rfl⟩
  case round =>
    obtain ⟨k, hk, rfl, rfl⟩ := hrel
    by_cases hlt : k < m
    · go_wp2
      go_round
      case rel => exact ⟨k + 1, by omega, by go_num, rfl⟩
      case measure => simp [intOf]; omega
    · obtain rfl : k = m := by omega
      go_wp2
      go_ret
      exact ⟨rfl, rfl⟩

set_option maxHeartbeats 400000 in
theorem power_yes (p t f m0 : Int) (m : Nat) (e : m0 = m) (w : World) (hm : m ≤ 1000) (hp : 1 ≤ p ∧ p ≤ 256) (ht : 1 ≤ t ∧ t ≤ 64) :
    Calls Try.prog 13 #[.int .i64 p, .int .i64 t, .int .i64 f, .int .i64 m0] w fun e w' => e = .returned (.int .i64 (pw (p + t) f m)) ∧ w = w' := by
  subst e
  obtain ⟨hp1, hp2⟩ := hp
  obtain ⟨ht1, ht2⟩ := ht
  go_enter Try.func13, Try.ntmps13
  go_wp2
  go_loop [2, 24] (fun g i => ∃ k : Nat, k ≤ m ∧ i = .int .i64 k ∧ g = .int .i64 (pw (p + t) f k)) (fun _ i => m - (intOf i).toNat)
  case atStart => exact ⟨0, Nat.zero_le _, rfl, rfl⟩
  case round =>
    obtain ⟨k, hk, rfl, rfl⟩ := hrel
    by_cases hlt : k < m
    · go_wp2
      go_round
      case rel => exact ⟨k + 1, by omega, by go_num, rfl⟩
      case measure => simp [intOf]; omega
    · obtain rfl : k = m := by omega
      go_wp2
      go_ret
      exact ⟨rfl, rfl⟩

set_option maxHeartbeats 400000 in
theorem power_no (p t f m : Int) (w : World) (h : p < 1 ∨ 256 < p ∨ t < 1 ∨ 64 < t) :
    Calls Try.prog 13 #[.int .i64 p, .int .i64 t, .int .i64 f, .int .i64 m] w fun e w' => e = .returned (.int .i64 0) ∧ w = w' := by
  by_cases h1 : p < 1
  · go_enter Try.func13, Try.ntmps13
    go_wp2
    go_ret
    exact ⟨rfl, rfl⟩
  by_cases h2 : 256 < p
  · go_enter Try.func13, Try.ntmps13
    go_wp2
    go_ret
    exact ⟨rfl, rfl⟩
  by_cases h3 : t < 1
  · go_enter Try.func13, Try.ntmps13
    go_wp2
    go_ret
    exact ⟨rfl, rfl⟩
  have h4 : 64 < t := by omega
  clear h
  go_enter Try.func13, Try.ntmps13
  go_wp2
  go_ret
  exact ⟨rfl, rfl⟩

theorem solo_yes (p t : Int) (w : World) (hp : 1 ≤ p ∧ p ≤ 256) (ht : 1 ≤ t ∧ t ≤ 64) :
    Calls Try.prog 7 #[.int .i64 p, .int .i64 t] w fun e w' => e = .returned (.int .i64 (soloV p t)) ∧ w = w' := by
  go_enter Try.func7, Try.ntmps7
  go_wp2_with fail
  refine (power_yes _ _ _ _ 3 rfl _ (by omega) hp ht).mono ?_
  rintro e w' ⟨rfl, rfl⟩
  go_wp2
  go_ret
  exact ⟨rfl, rfl⟩
theorem solo_no (p t : Int) (w : World) (h : p < 1 ∨ 256 < p ∨ t < 1 ∨ 64 < t) :
    Calls Try.prog 7 #[.int .i64 p, .int .i64 t] w fun e w' => e = .returned (.int .i64 0) ∧ w = w' := by
  have H := Lib.hid h
  clear h
  go_enter Try.func7, Try.ntmps7
  go_wp2_with fail
  refine (power_no _ _ _ _ _ H.out).mono ?_
  rintro e w' ⟨rfl, rfl⟩
  go_wp2
  go_ret
  exact ⟨rfl, rfl⟩
theorem any_yes (p t : Int) (w : World) (hp : 1 ≤ p ∧ p ≤ 256) (ht : 1 ≤ t ∧ t ≤ 64) :
    Calls Try.prog 8 #[.int .i64 p, .int .i64 t] w fun e w' => e = .returned (.int .i64 (anyV p t)) ∧ w = w' := by
  go_enter Try.func8, Try.ntmps8
  go_wp2_with fail
  refine (power_yes _ _ _ _ 5 rfl _ (by omega) hp ht).mono ?_
  rintro e w' ⟨rfl, rfl⟩
  go_wp2
  go_ret
  exact ⟨rfl, rfl⟩
theorem any_no (p t : Int) (w : World) (h : p < 1 ∨ 256 < p ∨ t < 1 ∨ 64 < t) :
    Calls Try.prog 8 #[.int .i64 p, .int .i64 t] w fun e w' => e = .returned (.int .i64 0) ∧ w = w' := by
  have H := Lib.hid h
  clear h
  go_enter Try.func8, Try.ntmps8
  go_wp2_with fail
  refine (power_no _ _ _ _ _ H.out).mono ?_
  rintro e w' ⟨rfl, rfl⟩
  go_wp2
  go_ret
  exact ⟨rfl, rfl⟩
end Go.Proofs.Ytojcfpbgncemcaa
