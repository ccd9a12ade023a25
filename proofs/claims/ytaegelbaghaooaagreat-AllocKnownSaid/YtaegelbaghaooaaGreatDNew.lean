/- mem.New, port.New. -/
import Derived.Test.YtaegelbaghaooaaGreatDDir
import Derived.Laws.MakeOwn
import Derived.RegionTactic
namespace Go.Proofs.YtaegelbaghaooaaGreat
open Go.RowKit Lx
set_option linter.unusedVariables false
/-- a memory as new. -/
def MadeMem (w : World) (n k : Nat) (e : Ending) (w' : World) : Prop := ∃ mm wb bb, e = .returned (.tuple #[.pointer (some ⟨mm, 0, none⟩), .int .i64 0]) ∧ MemAt w' mm wb bb ⟨List.replicate n 0, List.replicate k 0⟩ ∧ Below w.heap.size w w' ∧ w.heap.size ≤ mm ∧ w.heap.size ≤ wb ∧ w.heap.size ≤ bb
theorem made_at {n k mm wb bb : Nat} {w' : World} (h1 : w'.heap[mm]? = some (.cells #[.slice (some ⟨wb, 0, none⟩) n n, .slice (some ⟨bb, 0, none⟩) k k] 188 (0, 0)))
    (h2 : w'.heap[wb]? = some (.cells (List.replicate n (Value.int .u64 0)).toArray 34 (0, 0))) (h3 : w'.heap[bb]? = some (.cells (List.replicate k (Value.int .u8 0)).toArray 5 (0, 0))) (hne : mm ≠ wb ∧ mm ≠ bb ∧ wb ≠ bb) (hn : n ≤ 1000000) (hk : k ≤ 1000000) :
    MemAt w' mm wb bb ⟨List.replicate n 0, List.replicate k 0⟩ :=
  ⟨by simpa using h1, by simpa using h2, by simpa using h3, hne, by simpa using ⟨hn, hk⟩⟩
theorem made_one (v : Value) (n : Nat) : madeCells #[v] n = (List.replicate n v).toArray := by
  unfold madeCells
  apply Array.ext
  · simp
  · intro i h1 h2
    simp [Nat.mod_one]
theorem info_of {t : TypeId} {n b : Nat} {z : Value} (h1 : (Tryz.prog.info? t).map (fun i => (i.size, i.bytes)) = some (n, b)) (h2 : (Tryz.prog.info? t).bind (·.zero) = some z) : ∃ i, Tryz.prog.info? t = some i ∧ i.zero = some z ∧ i.size = n ∧ i.bytes = b := by
  cases h : Tryz.prog.info? t with
  | none => rw [h] at h1; simp at h1
  | some i =>
    rw [h] at h1 h2
    simp only [Option.map_some, Option.some.injEq, Prod.mk.injEq, Option.bind_some] at h1 h2
    exact ⟨i, rfl, h2, h1.1, h1.2⟩
theorem make_words (n : Nat) (hn : n ≤ 1000000) (w : World) : (Instr.makeSlice 185 (.int .i64 n) (.int .i64 n)).run Tryz.prog w = .ok (.slice (some ⟨w.heap.size, 0, none⟩) n n) (w.alloc (.cells (List.replicate n (Value.int .u64 0)).toArray 34)) := by
  obtain ⟨i, h1, h2, h3, h4⟩ := info_of (t := 34) (n := 1) (b := 8) (z := .int .u64 0) (by kernel_rfl) (by kernel_rfl)
  have := run_make (P := Tryz.prog) w 185 34 i _ (by kernel_rfl) h1 h2 .i64 .i64 n n (by omega) (by omega) (by rw [h4]; omega) (by omega)
  rw [this, h3]
  simp only [Int.toNat_natCast, Nat.mul_one]
  rw [show (Value.int IntKind.u64 0).cells = #[Value.int .u64 0] from rfl, made_one]
theorem make_bytes (n : Nat) (hn : n ≤ 1000000) (w : World) : (Instr.makeSlice 52 (.int .i64 n) (.int .i64 n)).run Tryz.prog w = .ok (.slice (some ⟨w.heap.size, 0, none⟩) n n) (w.alloc (.cells (List.replicate n (Value.int .u8 0)).toArray 5)) := by
  obtain ⟨i, h1, h2, h3, h4⟩ := info_of (t := 5) (n := 1) (b := 1) (z := .int .u8 0) (by kernel_rfl) (by kernel_rfl)
  have := run_make (P := Tryz.prog) w 52 5 i _ (by kernel_rfl) h1 h2 .i64 .i64 n n (by omega) (by omega) (by rw [h4]; omega) (by omega)
  rw [this, h3]
  simp only [Int.toNat_natCast, Nat.mul_one]
  rw [show (Value.int IntKind.u8 0).cells = #[Value.int .u8 0] from rfl, made_one]
theorem mem_new (n k : Nat) (hn : n ≤ 1000000) (hk : k ≤ 1000000) (w : World) : Calls Tryz.prog 221 #[.int .i64 n, .int .i64 k] w (MadeMem w n k) := by
  have d1 : decide ((n : Int) < 0) = false := by simp
  have d2 : decide ((k : Int) < 0) = false := by simp
  have d3 : decide (2097152 < n) = false := by simp; omega
  have d4 : decide (1048576 < k) = false := by simp; omega
  have m1 := make_words n hn
  have m2 := make_bytes k hk
  go_enter Tryz.func221, Tryz.ntmps221
  go_wp2
  go_region
  · go_wp2
    go_ret2
    refine ⟨w.heap.size + 1 + 1, w.heap.size, w.heap.size + 1, rfl, made_at ?_ ?_ ?_ ⟨by omega, by omega, by omega⟩ hn hk, below_drew1 ((((Below.refl _ _).alloc (Nat.le_refl _) _).alloc (by simp) _).alloc (by simp; try omega) _), by omega, by omega, by omega⟩
    · show (((w.heap.push _).push _).push _)[w.heap.size + 1 + 1]? = _
      rw [Array.getElem?_push, if_pos (by simp)]
    · show (((w.heap.push _).push _).push _)[w.heap.size]? = _
      rw [Array.getElem?_push, if_neg (by simp; omega), Array.getElem?_push, if_neg (by simp), Array.getElem?_push, if_pos rfl]; simp
    · show (((w.heap.push _).push _).push _)[w.heap.size + 1]? = _
      rw [Array.getElem?_push, if_neg (by simp), Array.getElem?_push, if_pos (by simp)]; simp
  · go_wp2
    go_ret2
    refine ⟨w.heap.size + 1 + 1, w.heap.size + 1, w.heap.size, rfl, made_at ?_ ?_ ?_ ⟨by omega, by omega, by omega⟩ hn hk, below_drew1 ((((Below.refl _ _).alloc (Nat.le_refl _) _).alloc (by simp) _).alloc (by simp; try omega) _), by omega, by omega, by omega⟩
    · show (((w.heap.push _).push _).push _)[w.heap.size + 1 + 1]? = _
      rw [Array.getElem?_push, if_pos (by simp)]
    · show (((w.heap.push _).push _).push _)[w.heap.size + 1]? = _
      rw [Array.getElem?_push, if_neg (by simp), Array.getElem?_push, if_pos (by simp)]; simp
    · show (((w.heap.push _).push _).push _)[w.heap.size]? = _
      rw [Array.getElem?_push, if_neg (by simp; omega), Array.getElem?_push, if_neg (by simp), Array.getElem?_push, if_pos rfl]; simp
/-- a port as new. -/
def MadePort (w : World) (mm wb bb : Nat) (M : Mem) (self : Int) (e : Ending) (w' : World) : Prop := ∃ d wy, e = .returned (.pointer (some ⟨d, 0, none⟩)) ∧ DirAt w' d wy mm wb bb none ⟨M, self, 0, none⟩ ∧ Below w.heap.size w w' ∧ w.heap.size ≤ d ∧ w.heap.size ≤ wy
theorem port_new (mm wb bb : Nat) (M : Mem) (self : Int) (w : World) (h : MemAt w mm wb bb M) : Calls Tryz.prog 19 #[.pointer (some ⟨mm, 0, none⟩), .int .i64 self] w (MadePort w mm wb bb M self) := by
  have l1 := heap_lt h.mem
  have l2 := heap_lt h.words
  have l3 := heap_lt h.bytes
  have HH := Lib.hid h
  clear h
  go_enter Tryz.func19, Tryz.ntmps19
  go_wp2
  go_ret
  have hb := (((Below.refl w.heap.size w).alloc (Nat.le_refl _) (.cells #[.pointer (some ⟨mm, 0, none⟩), .int .i64 0] 122)).alloc (by simp) (.cells #[.pointer (some ⟨w.heap.size, 0, none⟩), .int .i64 self, .pointer none] 125))
  refine ⟨w.heap.size + 1, w.heap.size, rfl, ⟨?_, ⟨?_, HH.out.below hb, ⟨by omega, by omega, by omega⟩⟩, trivial, ⟨by omega, by omega, by omega, by omega⟩, (fun b hb => by cases hb)⟩, hb, by omega, by omega⟩
  · show ((w.heap.push _).push _)[_]? = _
    rw [Array.getElem?_push, if_pos (by simp)]; rfl
  · show ((w.heap.push _).push _)[_]? = _
    rw [Array.getElem?_push, if_neg (by simp), Array.getElem?_push, if_pos rfl]
end Go.Proofs.YtaegelbaghaooaaGreat
