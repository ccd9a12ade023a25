/- mem.Do: an access of a word. -/
import Derived.Test.YtaegelbaghaooaaGreatDMem
import Derived.Deep.RegionHeld3
import Derived.RegionTactic
import Derived.StillTailTactics
namespace Go.Proofs.YtaegelbaghaooaaGreat
open Go.RowKit Lx
set_option linter.unusedVariables false
theorem words_any' (mm wb n n' : Nat) (w : World) (h0 : w.cell? ⟨mm, 0, none⟩ = some (.slice (some ⟨wb, 0, none⟩) n n')) :
    Calls Tryz.prog 184 #[.pointer (some ⟨mm, 0, none⟩)] w fun e w' => e = .returned (.int .i64 n) ∧ w' = w := (words_any mm wb n n' w h0).mono fun e w' h => ⟨h.1, h.2.symm⟩
/-- what a word's access leaves. -/
def DidWord (w : World) (wb i : Nat) (now told : Int) (e : Ending) (w' : World) : Prop :=
  e = .returned (.tuple #[.int .u64 told, .bool true]) ∧ ∃ w1, Below w.heap.size w w1 ∧ w' = w1.setCell ⟨wb, i, none⟩ (.int .u64 now)
theorem old_cell {w w1 : World} (hb : Below w.heap.size w w1) {b o : Nat} {v : Value} (h : w.cell? ⟨b, o, none⟩ = some v) (hlt : b < w.heap.size) : w1.cell? ⟨b, o, none⟩ = some v := by
  rw [hb.cell (p := ⟨b, o, none⟩) hlt, h]
theorem below_drew {B n : Nat} {w w1 : World} (h : Below B w w1) : Below B w (w1.drewN n) := ⟨h.os, h.tape, h.output, h.size, h.block⟩
theorem below_drew1 {B : Nat} {w w1 : World} (h : Below B w w1) : Below B w w1.drew := ⟨h.os, h.tape, h.output, h.size, h.block⟩
/-- what stays as it is while an access is done: the access itself (in block k), the memory, the word. -/
def Hel (w : World) (k mm wb n n' i : Nat) (kd x A B : Int) (w' : World) : Prop := w'.cell? ⟨k, 0, none⟩ = some (.int .u8 kd) ∧ w'.cell? ⟨k, 1, none⟩ = some (.int .i64 i) ∧ w'.cell? ⟨k, 2, none⟩ = some (.int .u64 A) ∧ w'.cell? ⟨k, 3, none⟩ = some (.int .u64 B) ∧ w'.cell? ⟨mm, 0, none⟩ = some (.slice (some ⟨wb, 0, none⟩) n n') ∧ w'.cell? ⟨wb, i, none⟩ = some (.int .u64 x) ∧ Below w.heap.size w w' ∧ w.heap.size < w'.heap.size
section
variable {w w1 w2 : World} {mm wb n n' i : Nat} {kd x A B : Int}
theorem Hel.begin (h0 : w.cell? ⟨mm, 0, none⟩ = some (.slice (some ⟨wb, 0, none⟩) n n')) (hx : w.cell? ⟨wb, i, none⟩ = some (.int .u64 x)) (hm : mm < w.heap.size) (hwb : wb < w.heap.size) :
    Hel w w.heap.size mm wb n n' i kd x A B (w.alloc (.cells #[.int .u8 kd, .int .i64 i, .int .u64 A, .int .u64 B] 171)) := by
  refine ⟨by simp, by simp, by simp, by simp, ?_, ?_, (Below.refl _ _).alloc (Nat.le_refl _) _, by rw [Lx.heap_alloc]; simp⟩
  · rw [World.cell?_alloc_past _ _ _ hm, h0]
  · rw [World.cell?_alloc_past _ _ _ hwb, hx]
theorem Hel.drewN {k m : Nat} (h : Hel w k mm wb n n' i kd x A B w1) : Hel w k mm wb n n' i kd x A B (w1.drewN m) := ⟨h.1, h.2.1, h.2.2.1, h.2.2.2.1, h.2.2.2.2.1, h.2.2.2.2.2.1, below_drew h.2.2.2.2.2.2.1, h.2.2.2.2.2.2.2⟩
theorem Hel.drew {k : Nat} (h : Hel w k mm wb n n' i kd x A B w1) : Hel w k mm wb n n' i kd x A B w1.drew := ⟨h.1, h.2.1, h.2.2.1, h.2.2.2.1, h.2.2.2.2.1, h.2.2.2.2.2.1, below_drew1 h.2.2.2.2.2.2.1, h.2.2.2.2.2.2.2⟩
theorem Hel.on (hm : mm < w.heap.size) (hwb : wb < w.heap.size) (h : Hel w w.heap.size mm wb n n' i kd x A B w1) (hb : Below w1.heap.size w1 w2) : Hel w w.heap.size mm wb n n' i kd x A B w2 := by
  obtain ⟨h1, h2, h3, h4, h5, h6, h7, h8⟩ := h
  have := hb.size
  exact ⟨old_cell hb h1 h8, old_cell hb h2 h8, old_cell hb h3 h8, old_cell hb h4 h8, old_cell hb h5 (by omega), old_cell hb h6 (by omega), h7.trans (hb.mono (by omega)), by omega⟩
end
set_option maxRecDepth 100000 in
theorem do_load (mm wb n n' i : Nat) (x A B : Int) (w : World) (h0 : w.cell? ⟨mm, 0, none⟩ = some (.slice (some ⟨wb, 0, none⟩) n n'))
    (hx : w.cell? ⟨wb, i, none⟩ = some (.int .u64 x)) (hfz : w.frozen? ⟨wb, i, none⟩ = false) (hi : i < n) (hm : mm < w.heap.size) (hwb : wb < w.heap.size) (hn : n ≤ 1000000) :
    Calls Tryz.prog 106 #[.pointer (some ⟨mm, 0, none⟩), .agg #[.int .u8 1, .int .i64 i, .int .u64 A, .int .u64 B]] w (DidWord w wb i x x) := by
  have hd1 : decide ((i : Int) < 0) = false := by simp
  have hd2 : decide (n ≤ i) = false := by simp; omega
  have HB := Lib.hid (Hel.begin (kd := 1) (A := A) (B := B) h0 hx hm hwb)
  go_enter Tryz.func106, Tryz.ntmps106
  go_wp2
  have h0' : (w.alloc (.cells #[.int .u8 1, .int .i64 i, .int .u64 A, .int .u64 B] 171)).cell? ⟨mm, 0, none⟩ = some (.slice (some ⟨wb, 0, none⟩) n n') := HB.out.2.2.2.2.1
  go_quiet ((go_at_call 184; exact Calls.quiet_of_same (words_any' mm wb n n' _ h0')))
  clear h0'
  have hidx : ∀ w, (Instr.index 250 (.agg #[.nilFunc, .func (.func 244) #[] #[], .func (.func 245) #[] #[], .func (.func 246) #[] #[], .func (.func 247) #[] #[]]) (.int .u8 1)).run Tryz.prog w = .ok (.func (.func 244) #[] #[]) w := fun w => by kernel_rfl
  go_wp2_with fail
  go_region_held3 (fun w' => w'.cell? ⟨w.heap.size, 0, none⟩ = some (.int .u8 1) ∧ w'.cell? ⟨w.heap.size, 1, none⟩ = some (.int .i64 i) ∧ w'.cell? ⟨w.heap.size, 2, none⟩ = some (.int .u64 A) ∧ w'.cell? ⟨w.heap.size, 3, none⟩ = some (.int .u64 B) ∧ w'.cell? ⟨mm, 0, none⟩ = some (.slice (some ⟨wb, 0, none⟩) n n') ∧ w'.cell? ⟨wb, i, none⟩ = some (.int .u64 x) ∧ Below w.heap.size w w' ∧ w.heap.size < w'.heap.size)
    (first | exact HB.out.drewN.drew | exact HB.out.drewN | exact Hel.on hm hwb (HB.out.drewN) hb1 | exact Hel.on hm hwb (Hel.on hm hwb (HB.out.drewN) hb1) hb2)
    (first | (go_at_call 185; refine (kinds_any _).mono ?_; rintro e1 w1 ⟨rfl, hb1⟩) | (go_at_call 244; refine (k1_any x 1 i A B _).mono ?_; rintro e2 w2 ⟨rfl, hb2⟩))
  have HC := Lib.hid (Hel.on hm hwb (Hel.on hm hwb (HB.out.drewN) hb1) hb2)
  clear hb1 hb2
  obtain ⟨g1, g2, g3, g4, g5, g6, g7, g8⟩ := HC.out
  have hz2 : w2.frozen? ⟨wb, i, none⟩ = false := by rw [g7.frozen (p := ⟨wb, i, none⟩) hwb, hfz]
  have HG := Lib.hid g7
  clear HC g7 g6 g4 g3 g1 h0 hx hfz HB hidx
  go_wp2_with fail
  go_still_tail 8, (by kernel_rfl)
  change wpList _ _ _ _ _ w2.drew
  go_wp2
  go_ret2
  exact ⟨rfl, w2.drew, below_drew1 HG.out, rfl⟩
/-! printed -/
theorem bytes_any' (mm wb n n' : Nat) (w : World) (h0 : w.cell? ⟨mm, 1, none⟩ = some (.slice (some ⟨wb, 0, none⟩) n n')) :
    Calls Tryz.prog 186 #[.pointer (some ⟨mm, 0, none⟩)] w fun e w' => e = .returned (.int .i64 n) ∧ w' = w := (bytes_any mm wb n n' w h0).mono fun e w' h => ⟨h.1, h.2.symm⟩
/-- no access. -/
def DidNone (w : World) (e : Ending) (w' : World) : Prop := e = .returned (.tuple #[.int .u64 0, .bool false]) ∧ Below w.heap.size w w'
set_option maxRecDepth 100000 in
theorem do_store (mm wb n n' i : Nat) (x A B : Int) (w : World) (h0 : w.cell? ⟨mm, 0, none⟩ = some (.slice (some ⟨wb, 0, none⟩) n n'))
    (hx : w.cell? ⟨wb, i, none⟩ = some (.int .u64 x)) (hfz : w.frozen? ⟨wb, i, none⟩ = false) (hi : i < n) (hm : mm < w.heap.size) (hwb : wb < w.heap.size) (hn : n ≤ 1000000) :
    Calls Tryz.prog 106 #[.pointer (some ⟨mm, 0, none⟩), .agg #[.int .u8 2, .int .i64 i, .int .u64 A, .int .u64 B]] w (DidWord w wb i (A) (0)) := by
  have hd1 : decide ((i : Int) < 0) = false := by simp
  have hd2 : decide (n ≤ i) = false := by simp; omega
  have HB := Lib.hid (Hel.begin (kd := 2) (A := A) (B := B) h0 hx hm hwb)
  go_enter Tryz.func106, Tryz.ntmps106
  go_wp2
  have h0' : (w.alloc (.cells #[.int .u8 2, .int .i64 i, .int .u64 A, .int .u64 B] 171)).cell? ⟨mm, 0, none⟩ = some (.slice (some ⟨wb, 0, none⟩) n n') := HB.out.2.2.2.2.1
  go_quiet ((go_at_call 184; exact Calls.quiet_of_same (words_any' mm wb n n' _ h0')))
  clear h0'
  have hidx : ∀ w, (Instr.index 250 (.agg #[.nilFunc, .func (.func 244) #[] #[], .func (.func 245) #[] #[], .func (.func 246) #[] #[], .func (.func 247) #[] #[]]) (.int .u8 2)).run Tryz.prog w = .ok (.func (.func 245) #[] #[]) w := fun w => by kernel_rfl
  go_wp2_with fail
  go_region_held3 (fun w' => w'.cell? ⟨w.heap.size, 0, none⟩ = some (.int .u8 2) ∧ w'.cell? ⟨w.heap.size, 1, none⟩ = some (.int .i64 i) ∧ w'.cell? ⟨w.heap.size, 2, none⟩ = some (.int .u64 A) ∧ w'.cell? ⟨w.heap.size, 3, none⟩ = some (.int .u64 B) ∧ w'.cell? ⟨mm, 0, none⟩ = some (.slice (some ⟨wb, 0, none⟩) n n') ∧ w'.cell? ⟨wb, i, none⟩ = some (.int .u64 x) ∧ Below w.heap.size w w' ∧ w.heap.size < w'.heap.size)
    (first | exact HB.out.drewN.drew | exact HB.out.drewN | exact Hel.on hm hwb (HB.out.drewN) hb1 | exact Hel.on hm hwb (Hel.on hm hwb (HB.out.drewN) hb1) hb2)
    (first | (go_at_call 185; refine (kinds_any _).mono ?_; rintro e1 w1 ⟨rfl, hb1⟩) | (go_at_call 245; refine (k2_any x 2 i A B _).mono ?_; rintro e2 w2 ⟨rfl, hb2⟩))
  have HC := Lib.hid (Hel.on hm hwb (Hel.on hm hwb (HB.out.drewN) hb1) hb2)
  clear hb1 hb2
  obtain ⟨g1, g2, g3, g4, g5, g6, g7, g8⟩ := HC.out
  have hz2 : w2.frozen? ⟨wb, i, none⟩ = false := by rw [g7.frozen (p := ⟨wb, i, none⟩) hwb, hfz]
  have HG := Lib.hid g7
  clear HC g7 g6 g4 g3 g1 h0 hx hfz HB hidx
  go_wp2_with fail
  go_still_tail 8, (by kernel_rfl)
  change wpList _ _ _ _ _ w2.drew
  go_wp2
  go_ret2
  exact ⟨rfl, w2.drew, below_drew1 HG.out, rfl⟩
set_option maxRecDepth 100000 in
theorem do_cas (mm wb n n' i : Nat) (x B : Int) (w : World) (h0 : w.cell? ⟨mm, 0, none⟩ = some (.slice (some ⟨wb, 0, none⟩) n n'))
    (hx : w.cell? ⟨wb, i, none⟩ = some (.int .u64 x)) (hfz : w.frozen? ⟨wb, i, none⟩ = false) (hi : i < n) (hm : mm < w.heap.size) (hwb : wb < w.heap.size) (hn : n ≤ 1000000) :
    Calls Tryz.prog 106 #[.pointer (some ⟨mm, 0, none⟩), .agg #[.int .u8 3, .int .i64 i, .int .u64 x, .int .u64 B]] w (DidWord w wb i (B) (1)) := by
  have hd1 : decide ((i : Int) < 0) = false := by simp
  have hd2 : decide (n ≤ i) = false := by simp; omega
  have HB := Lib.hid (Hel.begin (kd := 3) (A := x) (B := B) h0 hx hm hwb)
  go_enter Tryz.func106, Tryz.ntmps106
  go_wp2
  have h0' : (w.alloc (.cells #[.int .u8 3, .int .i64 i, .int .u64 x, .int .u64 B] 171)).cell? ⟨mm, 0, none⟩ = some (.slice (some ⟨wb, 0, none⟩) n n') := HB.out.2.2.2.2.1
  go_quiet ((go_at_call 184; exact Calls.quiet_of_same (words_any' mm wb n n' _ h0')))
  clear h0'
  have hidx : ∀ w, (Instr.index 250 (.agg #[.nilFunc, .func (.func 244) #[] #[], .func (.func 245) #[] #[], .func (.func 246) #[] #[], .func (.func 247) #[] #[]]) (.int .u8 3)).run Tryz.prog w = .ok (.func (.func 246) #[] #[]) w := fun w => by kernel_rfl
  go_wp2_with fail
  go_region_held3 (fun w' => w'.cell? ⟨w.heap.size, 0, none⟩ = some (.int .u8 3) ∧ w'.cell? ⟨w.heap.size, 1, none⟩ = some (.int .i64 i) ∧ w'.cell? ⟨w.heap.size, 2, none⟩ = some (.int .u64 x) ∧ w'.cell? ⟨w.heap.size, 3, none⟩ = some (.int .u64 B) ∧ w'.cell? ⟨mm, 0, none⟩ = some (.slice (some ⟨wb, 0, none⟩) n n') ∧ w'.cell? ⟨wb, i, none⟩ = some (.int .u64 x) ∧ Below w.heap.size w w' ∧ w.heap.size < w'.heap.size)
    (first | exact HB.out.drewN.drew | exact HB.out.drewN | exact Hel.on hm hwb (HB.out.drewN) hb1 | exact Hel.on hm hwb (Hel.on hm hwb (HB.out.drewN) hb1) hb2)
    (first | (go_at_call 185; refine (kinds_any _).mono ?_; rintro e1 w1 ⟨rfl, hb1⟩) | (go_at_call 246; refine (k3_yes x 3 i B _).mono ?_; rintro e2 w2 ⟨rfl, hb2⟩))
  have HC := Lib.hid (Hel.on hm hwb (Hel.on hm hwb (HB.out.drewN) hb1) hb2)
  clear hb1 hb2
  obtain ⟨g1, g2, g3, g4, g5, g6, g7, g8⟩ := HC.out
  have hz2 : w2.frozen? ⟨wb, i, none⟩ = false := by rw [g7.frozen (p := ⟨wb, i, none⟩) hwb, hfz]
  have HG := Lib.hid g7
  clear HC g7 g6 g4 g3 g1 h0 hx hfz HB hidx
  go_wp2_with fail
  go_still_tail 8, (by kernel_rfl)
  change wpList _ _ _ _ _ w2.drew
  go_wp2
  go_ret2
  exact ⟨rfl, w2.drew, below_drew1 HG.out, rfl⟩
set_option maxRecDepth 100000 in
theorem do_cas_not (mm wb n n' i : Nat) (x A B : Int) (w : World) (h0 : w.cell? ⟨mm, 0, none⟩ = some (.slice (some ⟨wb, 0, none⟩) n n'))
    (hx : w.cell? ⟨wb, i, none⟩ = some (.int .u64 x)) (hfz : w.frozen? ⟨wb, i, none⟩ = false) (hi : i < n) (hm : mm < w.heap.size) (hwb : wb < w.heap.size) (hn : n ≤ 1000000) (HN : Hid ((x == A) = false) ∧ Hid ((x != A) = true)) :
    Calls Tryz.prog 106 #[.pointer (some ⟨mm, 0, none⟩), .agg #[.int .u8 3, .int .i64 i, .int .u64 A, .int .u64 B]] w (DidWord w wb i (x) (0)) := by
  have hd1 : decide ((i : Int) < 0) = false := by simp
  have hd2 : decide (n ≤ i) = false := by simp; omega
  have HB := Lib.hid (Hel.begin (kd := 3) (A := A) (B := B) h0 hx hm hwb)
  go_enter Tryz.func106, Tryz.ntmps106
  go_wp2
  have h0' : (w.alloc (.cells #[.int .u8 3, .int .i64 i, .int .u64 A, .int .u64 B] 171)).cell? ⟨mm, 0, none⟩ = some (.slice (some ⟨wb, 0, none⟩) n n') := HB.out.2.2.2.2.1
  go_quiet ((go_at_call 184; exact Calls.quiet_of_same (words_any' mm wb n n' _ h0')))
  clear h0'
  have hidx : ∀ w, (Instr.index 250 (.agg #[.nilFunc, .func (.func 244) #[] #[], .func (.func 245) #[] #[], .func (.func 246) #[] #[], .func (.func 247) #[] #[]]) (.int .u8 3)).run Tryz.prog w = .ok (.func (.func 246) #[] #[]) w := fun w => by kernel_rfl
  go_wp2_with fail
  go_region_held3 (fun w' => w'.cell? ⟨w.heap.size, 0, none⟩ = some (.int .u8 3) ∧ w'.cell? ⟨w.heap.size, 1, none⟩ = some (.int .i64 i) ∧ w'.cell? ⟨w.heap.size, 2, none⟩ = some (.int .u64 A) ∧ w'.cell? ⟨w.heap.size, 3, none⟩ = some (.int .u64 B) ∧ w'.cell? ⟨mm, 0, none⟩ = some (.slice (some ⟨wb, 0, none⟩) n n') ∧ w'.cell? ⟨wb, i, none⟩ = some (.int .u64 x) ∧ Below w.heap.size w w' ∧ w.heap.size < w'.heap.size)
    (first | exact HB.out.drewN.drew | exact HB.out.drewN | exact Hel.on hm hwb (HB.out.drewN) hb1 | exact Hel.on hm hwb (Hel.on hm hwb (HB.out.drewN) hb1) hb2)
    (first | (go_at_call 185; refine (kinds_any _).mono ?_; rintro e1 w1 ⟨rfl, hb1⟩) | (go_at_call 246; refine (k3_no x 3 i A B _ HN.1.out HN.2.out).mono ?_; rintro e2 w2 ⟨rfl, hb2⟩))
  have HC := Lib.hid (Hel.on hm hwb (Hel.on hm hwb (HB.out.drewN) hb1) hb2)
  clear hb1 hb2
  obtain ⟨g1, g2, g3, g4, g5, g6, g7, g8⟩ := HC.out
  have hz2 : w2.frozen? ⟨wb, i, none⟩ = false := by rw [g7.frozen (p := ⟨wb, i, none⟩) hwb, hfz]
  have HG := Lib.hid g7
  clear HC g7 g6 g4 g3 g1 h0 hx hfz HB hidx
  go_wp2_with fail
  go_still_tail 8, (by kernel_rfl)
  change wpList _ _ _ _ _ w2.drew
  go_wp2
  go_ret2
  exact ⟨rfl, w2.drew, below_drew1 HG.out, rfl⟩
set_option maxRecDepth 100000 in
theorem do_add (mm wb n n' i : Nat) (x A B : Int) (w : World) (h0 : w.cell? ⟨mm, 0, none⟩ = some (.slice (some ⟨wb, 0, none⟩) n n'))
    (hx : w.cell? ⟨wb, i, none⟩ = some (.int .u64 x)) (hfz : w.frozen? ⟨wb, i, none⟩ = false) (hi : i < n) (hm : mm < w.heap.size) (hwb : wb < w.heap.size) (hn : n ≤ 1000000) :
    Calls Tryz.prog 106 #[.pointer (some ⟨mm, 0, none⟩), .agg #[.int .u8 4, .int .i64 i, .int .u64 A, .int .u64 B]] w (DidWord w wb i (IntKind.u64.wrap (x + A)) (x)) := by
  have hd1 : decide ((i : Int) < 0) = false := by simp
  have hd2 : decide (n ≤ i) = false := by simp; omega
  have HB := Lib.hid (Hel.begin (kd := 4) (A := A) (B := B) h0 hx hm hwb)
  go_enter Tryz.func106, Tryz.ntmps106
  go_wp2
  have h0' : (w.alloc (.cells #[.int .u8 4, .int .i64 i, .int .u64 A, .int .u64 B] 171)).cell? ⟨mm, 0, none⟩ = some (.slice (some ⟨wb, 0, none⟩) n n') := HB.out.2.2.2.2.1
  go_quiet ((go_at_call 184; exact Calls.quiet_of_same (words_any' mm wb n n' _ h0')))
  clear h0'
  have hidx : ∀ w, (Instr.index 250 (.agg #[.nilFunc, .func (.func 244) #[] #[], .func (.func 245) #[] #[], .func (.func 246) #[] #[], .func (.func 247) #[] #[]]) (.int .u8 4)).run Tryz.prog w = .ok (.func (.func 247) #[] #[]) w := fun w => by kernel_rfl
  go_wp2_with fail
  go_region_held3 (fun w' => w'.cell? ⟨w.heap.size, 0, none⟩ = some (.int .u8 4) ∧ w'.cell? ⟨w.heap.size, 1, none⟩ = some (.int .i64 i) ∧ w'.cell? ⟨w.heap.size, 2, none⟩ = some (.int .u64 A) ∧ w'.cell? ⟨w.heap.size, 3, none⟩ = some (.int .u64 B) ∧ w'.cell? ⟨mm, 0, none⟩ = some (.slice (some ⟨wb, 0, none⟩) n n') ∧ w'.cell? ⟨wb, i, none⟩ = some (.int .u64 x) ∧ Below w.heap.size w w' ∧ w.heap.size < w'.heap.size)
    (first | exact HB.out.drewN.drew | exact HB.out.drewN | exact Hel.on hm hwb (HB.out.drewN) hb1 | exact Hel.on hm hwb (Hel.on hm hwb (HB.out.drewN) hb1) hb2)
    (first | (go_at_call 185; refine (kinds_any _).mono ?_; rintro e1 w1 ⟨rfl, hb1⟩) | (go_at_call 247; refine (k4_any x 4 i A B _).mono ?_; rintro e2 w2 ⟨rfl, hb2⟩))
  have HC := Lib.hid (Hel.on hm hwb (Hel.on hm hwb (HB.out.drewN) hb1) hb2)
  clear hb1 hb2
  obtain ⟨g1, g2, g3, g4, g5, g6, g7, g8⟩ := HC.out
  have hz2 : w2.frozen? ⟨wb, i, none⟩ = false := by rw [g7.frozen (p := ⟨wb, i, none⟩) hwb, hfz]
  have HG := Lib.hid g7
  clear HC g7 g6 g4 g3 g1 h0 hx hfz HB hidx
  go_wp2_with fail
  go_still_tail 8, (by kernel_rfl)
  change wpList _ _ _ _ _ w2.drew
  go_wp2
  go_ret2
  exact ⟨rfl, w2.drew, below_drew1 HG.out, rfl⟩
set_option maxRecDepth 100000 in
theorem do_none1n (mm wb n n' : Nat) (at_ A B : Int) (w : World) (h0 : w.cell? ⟨mm, 0, none⟩ = some (.slice (some ⟨wb, 0, none⟩) n n')) (hm : mm < w.heap.size) (hn : n ≤ 1000000) (hneg : at_ < 0) :
    Calls Tryz.prog 106 #[.pointer (some ⟨mm, 0, none⟩), .agg #[.int .u8 1, .int .i64 at_, .int .u64 A, .int .u64 B]] w (DidNone w) := by
  have hd1 : decide (at_ < 0) = true := by simp; omega
  go_enter Tryz.func106, Tryz.ntmps106
  go_wp2
  have h0' : (w.alloc (.cells #[.int .u8 1, .int .i64 at_, .int .u64 A, .int .u64 B] 171)).cell? ⟨mm, 0, none⟩ = some (.slice (some ⟨wb, 0, none⟩) n n') := by rw [World.cell?_alloc_past _ _ _ hm, h0]
  go_quiet ((go_at_call 184; exact Calls.quiet_of_same (words_any' mm wb n n' _ h0')))
  go_wp2
  go_ret2
  exact ⟨rfl, by first | exact below_drew ((Below.refl _ _).alloc (Nat.le_refl _) _) | exact (Below.refl _ _).alloc (Nat.le_refl _) _⟩
set_option maxRecDepth 100000 in
theorem do_none1p (mm wb n n' : Nat) (at_ A B : Int) (w : World) (h0 : w.cell? ⟨mm, 0, none⟩ = some (.slice (some ⟨wb, 0, none⟩) n n')) (hm : mm < w.heap.size) (hn : n ≤ 1000000) (hpos : 0 ≤ at_) (hge : (n : Int) ≤ at_) :
    Calls Tryz.prog 106 #[.pointer (some ⟨mm, 0, none⟩), .agg #[.int .u8 1, .int .i64 at_, .int .u64 A, .int .u64 B]] w (DidNone w) := by
  have hd1 : decide (at_ < 0) = false := by simp; omega
  have hd2 : decide ((n : Int) ≤ at_) = true := by simp; omega
  go_enter Tryz.func106, Tryz.ntmps106
  go_wp2
  have h0' : (w.alloc (.cells #[.int .u8 1, .int .i64 at_, .int .u64 A, .int .u64 B] 171)).cell? ⟨mm, 0, none⟩ = some (.slice (some ⟨wb, 0, none⟩) n n') := by rw [World.cell?_alloc_past _ _ _ hm, h0]
  go_quiet ((go_at_call 184; exact Calls.quiet_of_same (words_any' mm wb n n' _ h0')))
  go_wp2
  go_ret2
  exact ⟨rfl, by first | exact below_drew ((Below.refl _ _).alloc (Nat.le_refl _) _) | exact (Below.refl _ _).alloc (Nat.le_refl _) _⟩
set_option maxRecDepth 100000 in
theorem do_none2n (mm wb n n' : Nat) (at_ A B : Int) (w : World) (h0 : w.cell? ⟨mm, 0, none⟩ = some (.slice (some ⟨wb, 0, none⟩) n n')) (hm : mm < w.heap.size) (hn : n ≤ 1000000) (hneg : at_ < 0) :
    Calls Tryz.prog 106 #[.pointer (some ⟨mm, 0, none⟩), .agg #[.int .u8 2, .int .i64 at_, .int .u64 A, .int .u64 B]] w (DidNone w) := by
  have hd1 : decide (at_ < 0) = true := by simp; omega
  go_enter Tryz.func106, Tryz.ntmps106
  go_wp2
  have h0' : (w.alloc (.cells #[.int .u8 2, .int .i64 at_, .int .u64 A, .int .u64 B] 171)).cell? ⟨mm, 0, none⟩ = some (.slice (some ⟨wb, 0, none⟩) n n') := by rw [World.cell?_alloc_past _ _ _ hm, h0]
  go_quiet ((go_at_call 184; exact Calls.quiet_of_same (words_any' mm wb n n' _ h0')))
  go_wp2
  go_ret2
  exact ⟨rfl, by first | exact below_drew ((Below.refl _ _).alloc (Nat.le_refl _) _) | exact (Below.refl _ _).alloc (Nat.le_refl _) _⟩
set_option maxRecDepth 100000 in
theorem do_none2p (mm wb n n' : Nat) (at_ A B : Int) (w : World) (h0 : w.cell? ⟨mm, 0, none⟩ = some (.slice (some ⟨wb, 0, none⟩) n n')) (hm : mm < w.heap.size) (hn : n ≤ 1000000) (hpos : 0 ≤ at_) (hge : (n : Int) ≤ at_) :
    Calls Tryz.prog 106 #[.pointer (some ⟨mm, 0, none⟩), .agg #[.int .u8 2, .int .i64 at_, .int .u64 A, .int .u64 B]] w (DidNone w) := by
  have hd1 : decide (at_ < 0) = false := by simp; omega
  have hd2 : decide ((n : Int) ≤ at_) = true := by simp; omega
  go_enter Tryz.func106, Tryz.ntmps106
  go_wp2
  have h0' : (w.alloc (.cells #[.int .u8 2, .int .i64 at_, .int .u64 A, .int .u64 B] 171)).cell? ⟨mm, 0, none⟩ = some (.slice (some ⟨wb, 0, none⟩) n n') := by rw [World.cell?_alloc_past _ _ _ hm, h0]
  go_quiet ((go_at_call 184; exact Calls.quiet_of_same (words_any' mm wb n n' _ h0')))
  go_wp2
  go_ret2
  exact ⟨rfl, by first | exact below_drew ((Below.refl _ _).alloc (Nat.le_refl _) _) | exact (Below.refl _ _).alloc (Nat.le_refl _) _⟩
set_option maxRecDepth 100000 in
theorem do_none3n (mm wb n n' : Nat) (at_ A B : Int) (w : World) (h0 : w.cell? ⟨mm, 0, none⟩ = some (.slice (some ⟨wb, 0, none⟩) n n')) (hm : mm < w.heap.size) (hn : n ≤ 1000000) (hneg : at_ < 0) :
    Calls Tryz.prog 106 #[.pointer (some ⟨mm, 0, none⟩), .agg #[.int .u8 3, .int .i64 at_, .int .u64 A, .int .u64 B]] w (DidNone w) := by
  have hd1 : decide (at_ < 0) = true := by simp; omega
  go_enter Tryz.func106, Tryz.ntmps106
  go_wp2
  have h0' : (w.alloc (.cells #[.int .u8 3, .int .i64 at_, .int .u64 A, .int .u64 B] 171)).cell? ⟨mm, 0, none⟩ = some (.slice (some ⟨wb, 0, none⟩) n n') := by rw [World.cell?_alloc_past _ _ _ hm, h0]
  go_quiet ((go_at_call 184; exact Calls.quiet_of_same (words_any' mm wb n n' _ h0')))
  go_wp2
  go_ret2
  exact ⟨rfl, by first | exact below_drew ((Below.refl _ _).alloc (Nat.le_refl _) _) | exact (Below.refl _ _).alloc (Nat.le_refl _) _⟩
set_option maxRecDepth 100000 in
theorem do_none3p (mm wb n n' : Nat) (at_ A B : Int) (w : World) (h0 : w.cell? ⟨mm, 0, none⟩ = some (.slice (some ⟨wb, 0, none⟩) n n')) (hm : mm < w.heap.size) (hn : n ≤ 1000000) (hpos : 0 ≤ at_) (hge : (n : Int) ≤ at_) :
    Calls Tryz.prog 106 #[.pointer (some ⟨mm, 0, none⟩), .agg #[.int .u8 3, .int .i64 at_, .int .u64 A, .int .u64 B]] w (DidNone w) := by
  have hd1 : decide (at_ < 0) = false := by simp; omega
  have hd2 : decide ((n : Int) ≤ at_) = true := by simp; omega
  go_enter Tryz.func106, Tryz.ntmps106
  go_wp2
  have h0' : (w.alloc (.cells #[.int .u8 3, .int .i64 at_, .int .u64 A, .int .u64 B] 171)).cell? ⟨mm, 0, none⟩ = some (.slice (some ⟨wb, 0, none⟩) n n') := by rw [World.cell?_alloc_past _ _ _ hm, h0]
  go_quiet ((go_at_call 184; exact Calls.quiet_of_same (words_any' mm wb n n' _ h0')))
  go_wp2
  go_ret2
  exact ⟨rfl, by first | exact below_drew ((Below.refl _ _).alloc (Nat.le_refl _) _) | exact (Below.refl _ _).alloc (Nat.le_refl _) _⟩
set_option maxRecDepth 100000 in
theorem do_none4n (mm wb n n' : Nat) (at_ A B : Int) (w : World) (h0 : w.cell? ⟨mm, 0, none⟩ = some (.slice (some ⟨wb, 0, none⟩) n n')) (hm : mm < w.heap.size) (hn : n ≤ 1000000) (hneg : at_ < 0) :
    Calls Tryz.prog 106 #[.pointer (some ⟨mm, 0, none⟩), .agg #[.int .u8 4, .int .i64 at_, .int .u64 A, .int .u64 B]] w (DidNone w) := by
  have hd1 : decide (at_ < 0) = true := by simp; omega
  go_enter Tryz.func106, Tryz.ntmps106
  go_wp2
  have h0' : (w.alloc (.cells #[.int .u8 4, .int .i64 at_, .int .u64 A, .int .u64 B] 171)).cell? ⟨mm, 0, none⟩ = some (.slice (some ⟨wb, 0, none⟩) n n') := by rw [World.cell?_alloc_past _ _ _ hm, h0]
  go_quiet ((go_at_call 184; exact Calls.quiet_of_same (words_any' mm wb n n' _ h0')))
  go_wp2
  go_ret2
  exact ⟨rfl, by first | exact below_drew ((Below.refl _ _).alloc (Nat.le_refl _) _) | exact (Below.refl _ _).alloc (Nat.le_refl _) _⟩
set_option maxRecDepth 100000 in
theorem do_none4p (mm wb n n' : Nat) (at_ A B : Int) (w : World) (h0 : w.cell? ⟨mm, 0, none⟩ = some (.slice (some ⟨wb, 0, none⟩) n n')) (hm : mm < w.heap.size) (hn : n ≤ 1000000) (hpos : 0 ≤ at_) (hge : (n : Int) ≤ at_) :
    Calls Tryz.prog 106 #[.pointer (some ⟨mm, 0, none⟩), .agg #[.int .u8 4, .int .i64 at_, .int .u64 A, .int .u64 B]] w (DidNone w) := by
  have hd1 : decide (at_ < 0) = false := by simp; omega
  have hd2 : decide ((n : Int) ≤ at_) = true := by simp; omega
  go_enter Tryz.func106, Tryz.ntmps106
  go_wp2
  have h0' : (w.alloc (.cells #[.int .u8 4, .int .i64 at_, .int .u64 A, .int .u64 B] 171)).cell? ⟨mm, 0, none⟩ = some (.slice (some ⟨wb, 0, none⟩) n n') := by rw [World.cell?_alloc_past _ _ _ hm, h0]
  go_quiet ((go_at_call 184; exact Calls.quiet_of_same (words_any' mm wb n n' _ h0')))
  go_wp2
  go_ret2
  exact ⟨rfl, by first | exact below_drew ((Below.refl _ _).alloc (Nat.le_refl _) _) | exact (Below.refl _ _).alloc (Nat.le_refl _) _⟩
set_option maxRecDepth 100000 in
theorem do_none5n (mm wb n n' : Nat) (at_ A B : Int) (w : World) (h0 : w.cell? ⟨mm, 1, none⟩ = some (.slice (some ⟨wb, 0, none⟩) n n')) (hm : mm < w.heap.size) (hn : n ≤ 1000000) (hneg : at_ < 0) :
    Calls Tryz.prog 106 #[.pointer (some ⟨mm, 0, none⟩), .agg #[.int .u8 5, .int .i64 at_, .int .u64 A, .int .u64 B]] w (DidNone w) := by
  have hd1 : decide (at_ < 0) = true := by simp; omega
  go_enter Tryz.func106, Tryz.ntmps106
  go_wp2
  have h0' : (w.alloc (.cells #[.int .u8 5, .int .i64 at_, .int .u64 A, .int .u64 B] 171)).cell? ⟨mm, 1, none⟩ = some (.slice (some ⟨wb, 0, none⟩) n n') := by rw [World.cell?_alloc_past _ _ _ hm, h0]
  go_quiet ((go_at_call 186; exact Calls.quiet_of_same (bytes_any' mm wb n n' _ h0')))
  go_wp2
  go_ret2
  exact ⟨rfl, by first | exact below_drew ((Below.refl _ _).alloc (Nat.le_refl _) _) | exact (Below.refl _ _).alloc (Nat.le_refl _) _⟩
set_option maxRecDepth 100000 in
theorem do_none5p (mm wb n n' : Nat) (at_ A B : Int) (w : World) (h0 : w.cell? ⟨mm, 1, none⟩ = some (.slice (some ⟨wb, 0, none⟩) n n')) (hm : mm < w.heap.size) (hn : n ≤ 1000000) (hpos : 0 ≤ at_) (hge : (n : Int) ≤ at_) :
    Calls Tryz.prog 106 #[.pointer (some ⟨mm, 0, none⟩), .agg #[.int .u8 5, .int .i64 at_, .int .u64 A, .int .u64 B]] w (DidNone w) := by
  have hd1 : decide (at_ < 0) = false := by simp; omega
  have hd2 : decide ((n : Int) ≤ at_) = true := by simp; omega
  go_enter Tryz.func106, Tryz.ntmps106
  go_wp2
  have h0' : (w.alloc (.cells #[.int .u8 5, .int .i64 at_, .int .u64 A, .int .u64 B] 171)).cell? ⟨mm, 1, none⟩ = some (.slice (some ⟨wb, 0, none⟩) n n') := by rw [World.cell?_alloc_past _ _ _ hm, h0]
  go_quiet ((go_at_call 186; exact Calls.quiet_of_same (bytes_any' mm wb n n' _ h0')))
  go_wp2
  go_ret2
  exact ⟨rfl, by first | exact below_drew ((Below.refl _ _).alloc (Nat.le_refl _) _) | exact (Below.refl _ _).alloc (Nat.le_refl _) _⟩
set_option maxRecDepth 100000 in
theorem do_none6n (mm wb n n' : Nat) (at_ A B : Int) (w : World) (h0 : w.cell? ⟨mm, 1, none⟩ = some (.slice (some ⟨wb, 0, none⟩) n n')) (hm : mm < w.heap.size) (hn : n ≤ 1000000) (hneg : at_ < 0) :
    Calls Tryz.prog 106 #[.pointer (some ⟨mm, 0, none⟩), .agg #[.int .u8 6, .int .i64 at_, .int .u64 A, .int .u64 B]] w (DidNone w) := by
  have hd1 : decide (at_ < 0) = true := by simp; omega
  go_enter Tryz.func106, Tryz.ntmps106
  go_wp2
  have h0' : (w.alloc (.cells #[.int .u8 6, .int .i64 at_, .int .u64 A, .int .u64 B] 171)).cell? ⟨mm, 1, none⟩ = some (.slice (some ⟨wb, 0, none⟩) n n') := by rw [World.cell?_alloc_past _ _ _ hm, h0]
  go_quiet ((go_at_call 186; exact Calls.quiet_of_same (bytes_any' mm wb n n' _ h0')))
  go_wp2
  go_ret2
  exact ⟨rfl, by first | exact below_drew ((Below.refl _ _).alloc (Nat.le_refl _) _) | exact (Below.refl _ _).alloc (Nat.le_refl _) _⟩
set_option maxRecDepth 100000 in
theorem do_none6p (mm wb n n' : Nat) (at_ A B : Int) (w : World) (h0 : w.cell? ⟨mm, 1, none⟩ = some (.slice (some ⟨wb, 0, none⟩) n n')) (hm : mm < w.heap.size) (hn : n ≤ 1000000) (hpos : 0 ≤ at_) (hge : (n : Int) ≤ at_) :
    Calls Tryz.prog 106 #[.pointer (some ⟨mm, 0, none⟩), .agg #[.int .u8 6, .int .i64 at_, .int .u64 A, .int .u64 B]] w (DidNone w) := by
  have hd1 : decide (at_ < 0) = false := by simp; omega
  have hd2 : decide ((n : Int) ≤ at_) = true := by simp; omega
  go_enter Tryz.func106, Tryz.ntmps106
  go_wp2
  have h0' : (w.alloc (.cells #[.int .u8 6, .int .i64 at_, .int .u64 A, .int .u64 B] 171)).cell? ⟨mm, 1, none⟩ = some (.slice (some ⟨wb, 0, none⟩) n n') := by rw [World.cell?_alloc_past _ _ _ hm, h0]
  go_quiet ((go_at_call 186; exact Calls.quiet_of_same (bytes_any' mm wb n n' _ h0')))
  go_wp2
  go_ret2
  exact ⟨rfl, by first | exact below_drew ((Below.refl _ _).alloc (Nat.le_refl _) _) | exact (Below.refl _ _).alloc (Nat.le_refl _) _⟩
end Go.Proofs.YtaegelbaghaooaaGreat
