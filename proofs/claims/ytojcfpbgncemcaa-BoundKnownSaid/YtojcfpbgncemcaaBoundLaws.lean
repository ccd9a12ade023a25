/- The walks of the laws BoundTells and BoundGrows. -/
import Derived.Test.YtojcfpbgncemcaaBoundAwake
namespace Go.Proofs.Ytojcfpbgncemcaa
open Go.RowKit Go.Deep
set_option maxHeartbeats 400000 in
theorem tells_no (p t : Int) (w : World) (h : p < 1 ∨ 256 < p ∨ t < 1 ∨ 64 < t) :
    Calls Try.prog 3 #[.int .i64 p, .int .i64 t] w fun e w' => e = .returned (.bool true) ∧ Below w.heap.size w w' := by
  rcases (show p < 1 ∨ 1 ≤ p ∧ 256 < p ∨ (1 ≤ p ∧ p ≤ 256) ∧ t < 1 ∨ (1 ≤ p ∧ p ≤ 256) ∧ 1 ≤ t ∧ 64 < t by omega) with h1 | ⟨h1, h2⟩ | ⟨⟨h1, h2⟩, h3⟩ | ⟨⟨h1, h2⟩, h3, h4⟩
  all_goals
    have H := Lib.hid h
    clear h
    go_enter Try.func3, Try.ntmps3
    go_wp2_with fail
    refine (solo_no _ _ _ H.out).mono ?_
    rintro e w' ⟨rfl, rfl⟩
    go_wp2_with fail
    refine (any_no _ _ _ H.out).mono ?_
    rintro e w' ⟨rfl, rfl⟩
    go_wp2_with fail
    refine (awake_any _).mono ?_
    rintro e w' ⟨rfl, hb⟩
    go_wp2
    go_ret
    exact ⟨rfl, hb⟩
/-- Solo and Any, what they return under a name. -/
theorem solo_named (p t s : Int) (hs : soloV p t = s) (w : World) (hp : 1 ≤ p ∧ p ≤ 256) (ht : 1 ≤ t ∧ t ≤ 64) :
    Calls Try.prog 7 #[.int .i64 p, .int .i64 t] w fun e w' => e = .returned (.int .i64 s) ∧ w = w' := hs ▸ solo_yes p t w hp ht
theorem any_named (p t s : Int) (hs : anyV p t = s) (w : World) (hp : 1 ≤ p ∧ p ≤ 256) (ht : 1 ≤ t ∧ t ≤ 64) :
    Calls Try.prog 8 #[.int .i64 p, .int .i64 t] w fun e w' => e = .returned (.int .i64 s) ∧ w = w' := hs ▸ any_yes p t w hp ht
theorem refPower_named (n f m0 s : Int) (m : Nat) (e : m0 = m) (hs : pw n f m = s) (w : World) (hm : m ≤ 1000) :
    Calls Try.prog 10 #[.int .i64 n, .int .i64 f, .int .i64 m0] w fun e w' => e = .returned (.int .i64 s) ∧ w = w' := hs ▸ refPower_any n f m0 m e w hm
set_option maxHeartbeats 400000 in
theorem tells_yes (p t : Int) (w : World) (hp1 : 1 ≤ p) (hp2 : p ≤ 256) (ht1 : 1 ≤ t) (ht2 : t ≤ 64) :
    Calls Try.prog 3 #[.int .i64 p, .int .i64 t] w fun e w' => e = .returned (.bool true) ∧ Below w.heap.size w w' := by
  obtain ⟨s, hs⟩ : ∃ s, soloV p t = s := ⟨_, rfl⟩
  obtain ⟨a, ha⟩ : ∃ s, anyV p t = s := ⟨_, rfl⟩
  have HS := Lib.hid hs
  have HA := Lib.hid ha
  clear hs ha
  go_enter Try.func3, Try.ntmps3
  go_wp2_with fail
  refine (solo_named _ _ s HS.out _ (by omega) (by omega)).mono ?_
  rintro e w' ⟨rfl, rfl⟩
  go_wp2_with fail
  refine (any_named _ _ a HA.out _ (by omega) (by omega)).mono ?_
  rintro e w' ⟨rfl, rfl⟩
  go_wp2_with fail
  refine (refPower_named _ _ _ s 3 rfl HS.out _ (by omega)).mono ?_
  rintro e w' ⟨rfl, rfl⟩
  go_wp2_with fail
  refine (refPower_named _ _ _ a 5 rfl HA.out _ (by omega)).mono ?_
  rintro e w' ⟨rfl, rfl⟩
  go_wp2_with fail
  refine (awake_any _).mono ?_
  rintro e w' ⟨rfl, hb⟩
  go_wp2
  go_ret
  exact ⟨rfl, hb⟩
theorem tells_any (p t : Int) (w : World) : Calls Try.prog 3 #[.int .i64 p, .int .i64 t] w fun e w' => e = .returned (.bool true) ∧ Below w.heap.size w w' := by
  by_cases h : p < 1 ∨ 256 < p ∨ t < 1 ∨ 64 < t
  · exact tells_no p t w h
  · exact tells_yes p t w (by omega) (by omega) (by omega) (by omega)
set_option maxHeartbeats 1000000 in
theorem grows_any (p t : Int) (w : World) (hp : 0 ≤ p ∧ p ≤ 255) (ht : 0 ≤ t ∧ t ≤ 255) :
    Calls Try.prog 6 #[.int .u8 p, .int .u8 t] w fun e w' => e = .returned (.bool true) ∧ Below w.heap.size w w' := by
  obtain ⟨hp1, hp2⟩ := hp
  obtain ⟨ht1, ht2⟩ := ht
  have e1 := soloV_eq (1 + p % 255) (1 + t % 63) (by omega) (by omega)
  have e2 := soloV_eq (1 + p % 255 + 1) (1 + t % 63) (by omega) (by omega)
  have e3 := soloV_eq (1 + p % 255) (1 + t % 63 + 1) (by omega) (by omega)
  have a1 := anyV_eq (1 + p % 255) (1 + t % 63) (by omega) (by omega)
  have a2 := anyV_eq (1 + p % 255 + 1) (1 + t % 63) (by omega) (by omega)
  have a3 := anyV_eq (1 + p % 255) (1 + t % 63 + 1) (by omega) (by omega)
  have k2 : 1 + p % 255 + 1 + (1 + t % 63) = (1 + p % 255 + (1 + t % 63)) + 1 := by omega
  have k3 : 1 + p % 255 + (1 + t % 63 + 1) = (1 + p % 255 + (1 + t % 63)) + 1 := by omega
  have k1 : 2 ≤ 1 + p % 255 + (1 + t % 63) := by omega
  rw [k2] at e2 a2
  rw [k3] at e3 a3
  have l0 := solo_pos _ k1
  have l1 := solo_lt _ k1
  have l2 := any_lt _ k1
  have l3 := solo_any _ k1
  rw [← e1] at l0 l1 l3
  rw [← a1] at l2 l3
  have l1' := l1
  have l2' := l2
  rw [← e2] at l1
  rw [← e3] at l1'
  rw [← a2] at l2
  rw [← a3] at l2'
  obtain ⟨s1, hs1⟩ : ∃ s, soloV (1 + p % 255) (1 + t % 63) = s := ⟨_, rfl⟩
  obtain ⟨s2, hs2⟩ : ∃ s, soloV (1 + p % 255 + 1) (1 + t % 63) = s := ⟨_, rfl⟩
  obtain ⟨s3, hs3⟩ : ∃ s, soloV (1 + p % 255) (1 + t % 63 + 1) = s := ⟨_, rfl⟩
  obtain ⟨b1, hb1⟩ : ∃ s, anyV (1 + p % 255) (1 + t % 63) = s := ⟨_, rfl⟩
  obtain ⟨b2, hb2⟩ : ∃ s, anyV (1 + p % 255 + 1) (1 + t % 63) = s := ⟨_, rfl⟩
  obtain ⟨b3, hb3⟩ : ∃ s, anyV (1 + p % 255) (1 + t % 63 + 1) = s := ⟨_, rfl⟩
  rw [hs1] at l0 l1 l1' l3
  rw [hs2] at l1
  rw [hs3] at l1'
  rw [hb1] at l2 l2' l3
  rw [hb2] at l2
  rw [hb3] at l2'
  have HS1 := Lib.hid hs1
  have HS2 := Lib.hid hs2
  have HS3 := Lib.hid hs3
  have HB1 := Lib.hid hb1
  have HB2 := Lib.hid hb2
  have HB3 := Lib.hid hb3
  clear hs1 hs2 hs3 hb1 hb2 hb3 e1 e2 e3 a1 a2 a3 k1 k2 k3
  have m1 : 0 ≤ p % 255 := by omega
  have m2 : p % 255 ≤ 254 := by omega
  have m3 : 0 ≤ t % 63 := by omega
  have m4 : t % 63 ≤ 62 := by omega
  go_enter Try.func6, Try.ntmps6
  go_wp2_with fail
  refine (solo_named _ _ s1 HS1.out _ (by omega) (by omega)).mono ?_
  rintro e w' ⟨rfl, rfl⟩
  go_wp2_with fail
  refine (solo_named _ _ s1 HS1.out _ (by omega) (by omega)).mono ?_
  rintro e w' ⟨rfl, rfl⟩
  go_wp2_with fail
  refine (solo_named _ _ s2 HS2.out _ (by omega) (by omega)).mono ?_
  rintro e w' ⟨rfl, rfl⟩
  go_wp2_with fail
  refine (solo_named _ _ s1 HS1.out _ (by omega) (by omega)).mono ?_
  rintro e w' ⟨rfl, rfl⟩
  go_wp2_with fail
  refine (solo_named _ _ s3 HS3.out _ (by omega) (by omega)).mono ?_
  rintro e w' ⟨rfl, rfl⟩
  go_wp2_with fail
  refine (any_named _ _ b1 HB1.out _ (by omega) (by omega)).mono ?_
  rintro e w' ⟨rfl, rfl⟩
  go_wp2_with fail
  refine (any_named _ _ b2 HB2.out _ (by omega) (by omega)).mono ?_
  rintro e w' ⟨rfl, rfl⟩
  go_wp2_with fail
  refine (any_named _ _ b1 HB1.out _ (by omega) (by omega)).mono ?_
  rintro e w' ⟨rfl, rfl⟩
  go_wp2_with fail
  refine (any_named _ _ b3 HB3.out _ (by omega) (by omega)).mono ?_
  rintro e w' ⟨rfl, rfl⟩
  go_wp2_with fail
  refine (solo_named _ _ s1 HS1.out _ (by omega) (by omega)).mono ?_
  rintro e w' ⟨rfl, rfl⟩
  go_wp2_with fail
  refine (any_named _ _ b1 HB1.out _ (by omega) (by omega)).mono ?_
  rintro e w' ⟨rfl, rfl⟩
  go_wp2_with fail
  refine (awake_any _).mono ?_
  rintro e w' ⟨rfl, hb⟩
  go_wp2
  go_ret
  exact ⟨rfl, hb⟩
end Go.Proofs.Ytojcfpbgncemcaa
