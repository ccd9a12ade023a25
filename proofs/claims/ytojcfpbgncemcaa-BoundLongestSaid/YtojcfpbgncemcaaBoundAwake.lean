/- quilletlaw24's awake returns true. -/
import Derived.Test.YtojcfpbgncemcaaBoundPower
import Derived.Test.YtojcfpbgncemcaaLongest
namespace Go.Proofs.Ytojcfpbgncemcaa
open Go.RowKit Go.Deep
theorem solo11 (w : World) : Calls Try.prog 7 #[.int .i64 1, .int .i64 1] w fun e w' => e = .returned (.int .i64 80000) ∧ w = w' := by
  refine (solo_yes 1 1 w (by omega) (by omega)).mono ?_
  rintro e w' ⟨rfl, rfl⟩
  exact ⟨ret_int (by rw [soloV_eq _ _ (by omega) (by omega)]; rfl), rfl⟩
theorem any11 (w : World) : Calls Try.prog 8 #[.int .i64 1, .int .i64 1] w fun e w' => e = .returned (.int .i64 32000000) ∧ w = w' := by
  refine (any_yes 1 1 w (by omega) (by omega)).mono ?_
  rintro e w' ⟨rfl, rfl⟩
  exact ⟨ret_int (by rw [anyV_eq _ _ (by omega) (by omega)]; rfl), rfl⟩
def evTo (d : Bool) (t : Int) : Ev := ⟨0, ⟨0, 0, 0, 0, 0, 0, 0⟩, 0, t, 0, 0, d, ⟨0, 0, 0, 0, 0, 0, 0, 0, 0, 0, 0⟩⟩
theorem evTo_ok (d : Bool) (t : Int) (h : -100 ≤ t ∧ t ≤ 100) : (evTo d t).ok := by
  simp [evTo, Ev.ok, Cl.ok, Rs.ok, i64ok, u64ok, u8ok]; omega
theorem sorted_id (l : List Int) (h : l.Pairwise fun x y => decide (x ≤ y) = true) : l.mergeSort (fun x y => decide (x ≤ y)) = l := List.mergeSort_of_pairwise h
theorem gaps_two : gapsW ([3, 10] ++ [12 + 1]) 0 0 = 6 := by kernel_rfl
theorem longest_two : longestV [evTo true 3, evTo true 10] 12 = 6 := by
  have h1 : rets [evTo true 3, evTo true 10] 12 = [3, 10] := by decide
  unfold longestV
  rw [h1, sorted_id _ (by decide)]
  exact gaps_two
set_option maxHeartbeats 400000 in
theorem awake_any (w : World) : Calls Try.prog 9 #[] w fun e w' => e = .returned (.bool true) ∧ Below w.heap.size w w' := by
  go_enter Try.func9, Try.ntmps9
  go_wp2_with fail
  refine (solo11 _).mono ?_
  rintro e w' ⟨rfl, rfl⟩
  go_wp2_with fail
  refine (any11 _).mono ?_
  rintro e w' ⟨rfl, rfl⟩
  go_wp2_with fail
  have hE : EvRow (w.alloc (.cells #[.int .i64 0, .int .u8 0, .int .i64 0, .int .i64 0, .int .i64 0, .int .i64 0, .int .i64 0, .int .u8 0, .int .i64 0, .int .i64 3, .int .i64 0, .int .i64 0, .bool true, .int .i64 0, .int .i64 0, .int .u8 0, .int .u64 0, .int .u64 0, .int .u64 0, .int .u64 0, .int .u64 0, .int .i64 0, .int .i64 0, .int .i64 0,
      .int .i64 0, .int .u8 0, .int .i64 0, .int .i64 0, .int .i64 0, .int .i64 0, .int .i64 0, .int .u8 0, .int .i64 0, .int .i64 10, .int .i64 0, .int .i64 0, .bool true, .int .i64 0, .int .i64 0, .int .u8 0, .int .u64 0, .int .u64 0, .int .u64 0, .int .u64 0, .int .u64 0, .int .i64 0, .int .i64 0, .int .i64 0] 38)) _ (some ⟨w.heap.size, 0, none⟩) 2 2 [evTo true 3, evTo true 10] :=
    EvRow.of_block (heap_alloc_new w _) rfl (by intro e he; simp only [List.mem_cons, List.mem_nil_iff, or_false] at he; rcases he with rfl | rfl <;> exact evTo_ok _ _ (by omega)) rfl (Nat.le_refl _) (by unfold maxLen; omega)
  refine (longest_any _ 2 2 _ 12 _ hE (by omega) (by omega)).mono ?_
  rintro e w1 ⟨rfl, hb⟩
  rw [longest_two]
  have hb2 : Below w.heap.size w w1 := ((Below.refl _ w).alloc (Nat.le_refl _) _).trans (hb.mono (by simp))
  clear hE hb
  go_wp2
  go_ret
  exact ⟨rfl, hb2⟩
end Go.Proofs.Ytojcfpbgncemcaa
