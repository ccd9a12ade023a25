/- The walks of the laws BoundLongest and BoundKnown. -/
import Derived.Test.YtojcfpbgncemcaaBoundLaws
import Derived.Test.YtojcfpbgncemcaaRefLongest
namespace Go.Proofs.Ytojcfpbgncemcaa
open Go.RowKit Go.Deep
theorem longest_named (A : Option Addr) (n c : Nat) (es : List Ev) (steps v : Int) (hv : longestV es steps = v) (w : World) (hE : EvRow w w.heap.size A n c es) (hn : n ≤ 1000) (hs1 : -9223372036854775808 ≤ steps) (hs2 : steps ≤ 1000000) :
    Calls Try.prog 11 #[.slice A n c, .int .i64 steps] w fun e w' => e = .returned (.int .i64 v) ∧ Below w.heap.size w w' :=
  hv ▸ longest_any A n c es steps w hE hn ⟨hs1, hs2⟩
theorem refLongest_named (A : Option Addr) (n c : Nat) (es : List Ev) (steps v : Int) (hv : runs (hits es) 0 0 0 steps.toNat = v) (w : World) (hE : EvRow w w.heap.size A n c es) (hn : n ≤ 1000) (hs1 : -9223372036854775808 ≤ steps) (hs2 : steps ≤ 1000000) :
    Calls Try.prog 12 #[.slice A n c, .int .i64 steps] w fun e w' => e = .returned (.int .i64 v) ∧ w = w' :=
  hv ▸ refLongest_any A n c es steps w hE hn hs1 hs2
set_option maxHeartbeats 400000 in
theorem longest_law (A : Option Addr) (n c : Nat) (es : List Ev) (steps : Int) (w : World) (hE : EvRow w w.heap.size A n c es) (hs1 : -9223372036854775808 ≤ steps) :
    Calls Try.prog 4 #[.slice A n c, .int .i64 steps] w fun e w' => e = .returned (.bool true) ∧ Below w.heap.size w w' := by
  have HE := Lib.hid hE
  have hc : n ≤ c ∧ c ≤ maxLen := ⟨hE.2.1, hE.2.2.1⟩
  unfold maxLen at hc
  obtain ⟨hc1, hc2⟩ := hc
  clear hE
  by_cases h1 : 40 < n
  · go_enter Try.func4, Try.ntmps4
    go_wp2_with fail
    refine (awake_any _).mono ?_
    rintro e w' ⟨rfl, hb⟩
    go_wp2
    go_ret
    exact ⟨rfl, hb⟩
  by_cases h2 : 500 < steps
  · go_enter Try.func4, Try.ntmps4
    go_wp2_with fail
    refine (awake_any _).mono ?_
    rintro e w' ⟨rfl, hb⟩
    go_wp2
    go_ret
    exact ⟨rfl, hb⟩
  obtain ⟨v, hv⟩ : ∃ v, longestV es steps = v := ⟨_, rfl⟩
  have hv2 : runs (hits es) 0 0 0 steps.toNat = v := by rw [← hv, longest_same es steps hs1 (by omega)]
  have HV := Lib.hid hv
  have HV2 := Lib.hid hv2
  clear hv hv2
  go_enter Try.func4, Try.ntmps4
  go_wp2_with fail
  refine (longest_named _ _ _ es _ v HV.out _ HE.out (by omega) hs1 (by omega)).mono ?_
  rintro e w1 ⟨rfl, hb1⟩
  have HE1 := Lib.hid ((HE.out.below hb1).more hb1.size)
  go_wp2_with fail
  refine (refLongest_named _ _ _ es _ v HV2.out _ HE1.out (by omega) hs1 (by omega)).mono ?_
  rintro e w' ⟨rfl, rfl⟩
  go_wp2_with fail
  refine (awake_any _).mono ?_
  rintro e w2 ⟨rfl, hb2⟩
  have hb3 := hb1.trans (hb2.mono hb1.size)
  go_wp2
  go_ret
  exact ⟨rfl, hb3⟩
theorem known7 : longestV [] 7 = 7 := by
  unfold longestV; rw [show rets [] 7 = [] from rfl, sorted_id _ (by decide)]; exact (show gapsW ([] ++ [7 + 1]) 0 0 = 7 by kernel_rfl)
theorem known3 : longestV [] (-3) = 0 := by
  unfold longestV; rw [show rets [] (-3) = [] from rfl, sorted_id _ (by decide)]; exact (show gapsW ([] ++ [-3 + 1]) 0 0 = 0 by kernel_rfl)
theorem known8 : longestV [evTo false 3, evTo true 9, evTo true (-1)] 8 = 8 := by
  unfold longestV; rw [show rets [evTo false 3, evTo true 9, evTo true (-1)] 8 = [] by decide, sorted_id _ (by decide)]; exact (show gapsW ([] ++ [8 + 1]) 0 0 = 8 by kernel_rfl)
theorem any_top : 0 < anyV 256 64 := by rw [anyV_eq _ _ (by omega) (by omega)]; decide
set_option maxHeartbeats 400000 in
theorem known_law (w : World) : Calls Try.prog 5 #[] w fun e w' => e = .returned (.bool true) ∧ Below w.heap.size w w' := by
  obtain ⟨v, hv⟩ : ∃ v, anyV 256 64 = v := ⟨_, rfl⟩
  have hv0 := any_top
  rw [hv] at hv0
  have HV := Lib.hid hv
  clear hv
  go_enter Try.func5, Try.ntmps5
  go_wp2_with fail
  refine (solo_no _ _ _ (by omega)).mono ?_
  rintro e w' ⟨rfl, rfl⟩
  go_wp2_with fail
  refine (solo_no _ _ _ (by omega)).mono ?_
  rintro e w' ⟨rfl, rfl⟩
  go_wp2_with fail
  refine (any_no _ _ _ (by omega)).mono ?_
  rintro e w' ⟨rfl, rfl⟩
  go_wp2_with fail
  refine (solo_named _ _ 327680000000 (by rw [soloV_eq _ _ (by omega) (by omega)]; rfl) _ (by omega) (by omega)).mono ?_
  rintro e w' ⟨rfl, rfl⟩
  go_wp2_with fail
  refine (any_named _ _ v HV.out _ (by omega) (by omega)).mono ?_
  rintro e w' ⟨rfl, rfl⟩
  go_wp2_with fail
  refine (longest_named _ _ _ [] _ 7 known7 _ EvRow.nil (by omega) (by omega) (by omega)).mono ?_
  rintro e w1 ⟨rfl, hb1⟩
  go_wp2_with fail
  refine (longest_named _ _ _ [] _ 0 known3 _ EvRow.nil (by omega) (by omega) (by omega)).mono ?_
  rintro e w2 ⟨rfl, hb2⟩
  have hb12 := hb1.trans (hb2.mono hb1.size)
  have hs12 := hb12.size
  clear hb1 hb2
  go_wp2_with fail
  have hE : EvRow (w2.alloc (.cells #[.int .i64 0, .int .u8 0, .int .i64 0, .int .i64 0, .int .i64 0, .int .i64 0, .int .i64 0, .int .u8 0, .int .i64 0, .int .i64 3, .int .i64 0, .int .i64 0, .bool false, .int .i64 0, .int .i64 0, .int .u8 0, .int .u64 0, .int .u64 0, .int .u64 0, .int .u64 0, .int .u64 0, .int .i64 0, .int .i64 0, .int .i64 0,
      .int .i64 0, .int .u8 0, .int .i64 0, .int .i64 0, .int .i64 0, .int .i64 0, .int .i64 0, .int .u8 0, .int .i64 0, .int .i64 9, .int .i64 0, .int .i64 0, .bool true, .int .i64 0, .int .i64 0, .int .u8 0, .int .u64 0, .int .u64 0, .int .u64 0, .int .u64 0, .int .u64 0, .int .i64 0, .int .i64 0, .int .i64 0,
      .int .i64 0, .int .u8 0, .int .i64 0, .int .i64 0, .int .i64 0, .int .i64 0, .int .i64 0, .int .u8 0, .int .i64 0, .int .i64 (-1), .int .i64 0, .int .i64 0, .bool true, .int .i64 0, .int .i64 0, .int .u8 0, .int .u64 0, .int .u64 0, .int .u64 0, .int .u64 0, .int .u64 0, .int .i64 0, .int .i64 0, .int .i64 0] 38)) _ (some ⟨w2.heap.size, 0, none⟩) 3 3 [evTo false 3, evTo true 9, evTo true (-1)] :=
    EvRow.of_block (heap_alloc_new w2 _) rfl (by intro e he; simp only [List.mem_cons, List.mem_nil_iff, or_false] at he; rcases he with rfl | rfl | rfl <;> exact evTo_ok _ _ (by omega)) rfl (Nat.le_refl _) (by unfold maxLen; omega)
  refine (longest_named _ _ _ _ _ 8 known8 _ hE (by omega) (by omega) (by omega)).mono ?_
  rintro e w3 ⟨rfl, hb3⟩
  have hb4 : Below w.heap.size w w3 := (hb12.alloc hs12 _).trans (hb3.mono (by simp; omega))
  clear hE hb3 hb12
  go_wp2_with fail
  refine (awake_any _).mono ?_
  rintro e w5 ⟨rfl, hb5⟩
  have hb6 := hb4.trans (hb5.mono hb4.size)
  go_wp2
  go_ret
  exact ⟨rfl, hb6⟩
end Go.Proofs.Ytojcfpbgncemcaa
