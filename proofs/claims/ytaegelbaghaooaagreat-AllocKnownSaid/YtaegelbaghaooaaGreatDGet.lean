/- mem.Do: an access of a byte. -/
import Derived.Test.YtaegelbaghaooaaGreatDDo
namespace Go.Proofs.YtaegelbaghaooaaGreat
open Go.RowKit Lx
set_option linter.unusedVariables false
theorem u64_in {x : Int} (h0 : 0 ≤ x) (h1 : x ≤ 18446744073709551615) : IntKind.u64.wrap x = x := by
  simp only [IntKind.wrap, IntKind.signed, IntKind.bits, Bool.false_and, Bool.false_eq_true, if_false]; omega
theorem u8_in {x : Int} (h0 : 0 ≤ x) (h1 : x ≤ 255) : IntKind.u8.wrap x = x := by
  simp only [IntKind.wrap, IntKind.signed, IntKind.bits, Bool.false_and, Bool.false_eq_true, if_false]; omega
/-- a byte was looked at. -/
def DidGet (w : World) (x : Int) (e : Ending) (w' : World) : Prop := e = .returned (.tuple #[.int .u64 x, .bool true]) ∧ Below w.heap.size w w'
/-- a byte was written. -/
def DidPut (w : World) (bb i : Nat) (now : Int) (e : Ending) (w' : World) : Prop :=
  e = .returned (.tuple #[.int .u64 0, .bool true]) ∧ ∃ w1, Below w.heap.size w w1 ∧ w' = w1.setCell ⟨bb, i, none⟩ (.int .u8 now)
set_option maxRecDepth 100000 in
theorem do_get (mm bb n n' i : Nat) (x A B : Int) (w : World) (h0 : w.cell? ⟨mm, 1, none⟩ = some (.slice (some ⟨bb, 0, none⟩) n n'))
    (hx : w.cell? ⟨bb, i, none⟩ = some (.int .u8 x)) (hi : i < n) (hm : mm < w.heap.size) (hbb : bb < w.heap.size) (hn : n ≤ 1000000) (hx0 : 0 ≤ x) (hx1 : x ≤ 255) :
    Calls Tryz.prog 106 #[.pointer (some ⟨mm, 0, none⟩), .agg #[.int .u8 5, .int .i64 i, .int .u64 A, .int .u64 B]] w (DidGet w x) := by
  have hd1 : decide ((i : Int) < 0) = false := by simp
  have hd2 : decide (n ≤ i) = false := by simp; omega
  go_enter Tryz.func106, Tryz.ntmps106
  go_wp2
  have h0' : (w.alloc (.cells #[.int .u8 5, .int .i64 i, .int .u64 A, .int .u64 B] 171)).cell? ⟨mm, 1, none⟩ = some (.slice (some ⟨bb, 0, none⟩) n n') := by rw [World.cell?_alloc_past _ _ _ hm, h0]
  have hx' : (w.alloc (.cells #[.int .u8 5, .int .i64 i, .int .u64 A, .int .u64 B] 171)).cell? ⟨bb, i, none⟩ = some (.int .u8 x) := by rw [World.cell?_alloc_past _ _ _ hbb, hx]
  go_quiet ((go_at_call 186; exact Calls.quiet_of_same (bytes_any' mm bb n n' _ h0')))
  have hwr : IntKind.u64.wrap x = x := u64_in hx0 (by omega)
  have HB : Hid (Below w.heap.size w (w.alloc (.cells #[.int .u8 5, .int .i64 i, .int .u64 A, .int .u64 B] 171))) := Lib.hid ((Below.refl _ _).alloc (Nat.le_refl _) _)
  go_wp2_with fail
  go_quiet (fail)
  go_wp2
  go_ret2
  exact ⟨rfl, below_drew (below_drew HB.out)⟩
set_option maxRecDepth 100000 in
theorem do_put (mm bb n n' i : Nat) (x A B : Int) (w : World) (h0 : w.cell? ⟨mm, 1, none⟩ = some (.slice (some ⟨bb, 0, none⟩) n n'))
    (hx : w.cell? ⟨bb, i, none⟩ = some (.int .u8 x)) (hfz : w.frozen? ⟨bb, i, none⟩ = false) (hi : i < n) (hm : mm < w.heap.size) (hbb : bb < w.heap.size) (hn : n ≤ 1000000) (hx0 : 0 ≤ A) (hx1 : A ≤ 255) :
    Calls Tryz.prog 106 #[.pointer (some ⟨mm, 0, none⟩), .agg #[.int .u8 6, .int .i64 i, .int .u64 A, .int .u64 B]] w (DidPut w bb i A) := by
  have hd1 : decide ((i : Int) < 0) = false := by simp
  have hd2 : decide (n ≤ i) = false := by simp; omega
  go_enter Tryz.func106, Tryz.ntmps106
  go_wp2
  have h0' : (w.alloc (.cells #[.int .u8 6, .int .i64 i, .int .u64 A, .int .u64 B] 171)).cell? ⟨mm, 1, none⟩ = some (.slice (some ⟨bb, 0, none⟩) n n') := by rw [World.cell?_alloc_past _ _ _ hm, h0]
  have hx' : (w.alloc (.cells #[.int .u8 6, .int .i64 i, .int .u64 A, .int .u64 B] 171)).cell? ⟨bb, i, none⟩ = some (.int .u8 x) := by rw [World.cell?_alloc_past _ _ _ hbb, hx]
  have hz' : (w.alloc (.cells #[.int .u8 6, .int .i64 i, .int .u64 A, .int .u64 B] 171)).frozen? ⟨bb, i, none⟩ = false := by
    have := ((Below.refl w.heap.size w).alloc (Nat.le_refl _) (.cells #[.int .u8 6, .int .i64 i, .int .u64 A, .int .u64 B] 171)).frozen (p := ⟨bb, i, none⟩) hbb
    rw [this, hfz]
  go_quiet ((go_at_call 186; exact Calls.quiet_of_same (bytes_any' mm bb n n' _ h0')))
  have hwr : IntKind.u8.wrap A = A := u8_in hx0 hx1
  have k0 : ((w.alloc (.cells #[.int .u8 6, .int .i64 i, .int .u64 A, .int .u64 B] 171)).drewN nq).cell? ⟨w.heap.size, 0, none⟩ = some (.int .u8 6) := (show (w.alloc (.cells #[.int .u8 6, .int .i64 i, .int .u64 A, .int .u64 B] 171)).cell? ⟨w.heap.size, 0, none⟩ = some (.int .u8 6) by simp)
  have k1 : ((w.alloc (.cells #[.int .u8 6, .int .i64 i, .int .u64 A, .int .u64 B] 171)).drewN nq).cell? ⟨w.heap.size, 1, none⟩ = some (.int .i64 i) := (show (w.alloc (.cells #[.int .u8 6, .int .i64 i, .int .u64 A, .int .u64 B] 171)).cell? ⟨w.heap.size, 1, none⟩ = some (.int .i64 i) by simp)
  have k2 : ((w.alloc (.cells #[.int .u8 6, .int .i64 i, .int .u64 A, .int .u64 B] 171)).drewN nq).cell? ⟨w.heap.size, 2, none⟩ = some (.int .u64 A) := (show (w.alloc (.cells #[.int .u8 6, .int .i64 i, .int .u64 A, .int .u64 B] 171)).cell? ⟨w.heap.size, 2, none⟩ = some (.int .u64 A) by simp)
  have k3 : ((w.alloc (.cells #[.int .u8 6, .int .i64 i, .int .u64 A, .int .u64 B] 171)).drewN nq).cell? ⟨mm, 1, none⟩ = some (.slice (some ⟨bb, 0, none⟩) n n') := h0'
  have k4 : ((w.alloc (.cells #[.int .u8 6, .int .i64 i, .int .u64 A, .int .u64 B] 171)).drewN nq).cell? ⟨bb, i, none⟩ = some (.int .u8 x) := hx'
  have k5 : ((w.alloc (.cells #[.int .u8 6, .int .i64 i, .int .u64 A, .int .u64 B] 171)).drewN nq).frozen? ⟨bb, i, none⟩ = false := hz'
  have HB : Hid (Below w.heap.size w ((w.alloc (.cells #[.int .u8 6, .int .i64 i, .int .u64 A, .int .u64 B] 171)).drewN nq)) := Lib.hid (below_drew ((Below.refl _ _).alloc (Nat.le_refl _) _))
  clear h0' hx' hz'
  generalize (w.alloc (.cells #[.int .u8 6, .int .i64 i, .int .u64 A, .int .u64 B] 171)).drewN nq = w2 at *
  go_wp2_with fail
  go_still_tail 10, (by kernel_rfl)
  change wpList _ _ _ _ _ w2.drew
  go_wp2
  go_ret2
  exact ⟨rfl, w2.drew, below_drew1 HB.out, rfl⟩
end Go.Proofs.YtaegelbaghaooaaGreat
