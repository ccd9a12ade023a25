/- api.Event as 24 cells: its Lean form, and how an argument of type []api.Event is read. -/
import Derived.Test.YtaegelbaghaooaaGreatProg
import Derived.WalkKit
import Derived.ProofKit
import Derived.Deep.Slices
import Derived.Deep.MidRow
import Derived.OpenShut
import Derived.Laws.Rows
namespace Go.Proofs.YtaegelbaghaooaaGreat
open Go.RowKit Go.ChangeShapes Go.WideShapes Go.Deep

/-- api.Call, field by field. -/
structure Cl where
  (op size n align pos off byte : Int)
  deriving DecidableEq, Inhabited
/-- api.Result, field by field. -/
structure Rs where
  (pos n byte c0 c1 c2 c3 c4 e lin touch : Int)
  deriving DecidableEq, Inhabited
/-- api.Event, field by field. -/
structure Ev where
  (thread : Int)
  (call : Cl)
  (sfrom to lin touch : Int)
  (done : Bool)
  (r : Rs)
  deriving DecidableEq, Inhabited
def Cl.cells (c : Cl) : List Value := [.int .u8 c.op, .int .i64 c.size, .int .i64 c.n, .int .i64 c.align, .int .i64 c.pos, .int .i64 c.off, .int .u8 c.byte]
def Rs.cells (r : Rs) : List Value := [.int .i64 r.pos, .int .i64 r.n, .int .u8 r.byte, .int .u64 r.c0, .int .u64 r.c1, .int .u64 r.c2, .int .u64 r.c3, .int .u64 r.c4, .int .i64 r.e, .int .i64 r.lin, .int .i64 r.touch]
def Ev.cells (e : Ev) : List Value :=
  [.int .i64 e.thread, .int .u8 e.call.op, .int .i64 e.call.size, .int .i64 e.call.n, .int .i64 e.call.align, .int .i64 e.call.pos, .int .i64 e.call.off, .int .u8 e.call.byte,
   .int .i64 e.sfrom, .int .i64 e.to, .int .i64 e.lin, .int .i64 e.touch, .bool e.done,
   .int .i64 e.r.pos, .int .i64 e.r.n, .int .u8 e.r.byte, .int .u64 e.r.c0, .int .u64 e.r.c1, .int .u64 e.r.c2, .int .u64 e.r.c3, .int .u64 e.r.c4, .int .i64 e.r.e, .int .i64 e.r.lin, .int .i64 e.r.touch]
def i64ok (n : Int) : Prop := -9223372036854775808 ≤ n ∧ n ≤ 9223372036854775807
def u64ok (n : Int) : Prop := 0 ≤ n ∧ n ≤ 18446744073709551615
def u8ok (n : Int) : Prop := 0 ≤ n ∧ n ≤ 255
def Cl.ok (c : Cl) : Prop := u8ok c.op ∧ i64ok c.size ∧ i64ok c.n ∧ i64ok c.align ∧ i64ok c.pos ∧ i64ok c.off ∧ u8ok c.byte
def Rs.ok (r : Rs) : Prop := i64ok r.pos ∧ i64ok r.n ∧ u8ok r.byte ∧ u64ok r.c0 ∧ u64ok r.c1 ∧ u64ok r.c2 ∧ u64ok r.c3 ∧ u64ok r.c4 ∧ i64ok r.e ∧ i64ok r.lin ∧ i64ok r.touch
def Ev.ok (e : Ev) : Prop := i64ok e.thread ∧ e.call.ok ∧ i64ok e.sfrom ∧ i64ok e.to ∧ i64ok e.lin ∧ i64ok e.touch ∧ e.r.ok
theorem Ev.cells_length (e : Ev) : e.cells.length = 24 := rfl
theorem Ev.oneCell (e : Ev) : ∀ v ∈ e.cells, v.oneCell' = true := by
  intro v hv
  simp only [Ev.cells, List.mem_cons, List.mem_nil_iff, or_false] at hv
  rcases hv with h | h | h | h | h | h | h | h | h | h | h | h | h | h | h | h | h | h | h | h | h | h | h | h <;> subst h <;> rfl
/-- the slice value '.slice A n c' holds the events es, and lies below block B. -/
def EvRow (w : World) (B : Nat) (A : Option Addr) (n c : Nat) (es : List Ev) : Prop :=
  es.length = n ∧ n ≤ c ∧ c ≤ maxLen ∧ (∀ e ∈ es, e.ok) ∧
  (0 < n → ∃ b o, A = some ⟨b, o, none⟩ ∧ b < B ∧ ∀ i e, es[i]? = some e → w.rangeAt b (o + i * 24) e.cells)
theorem EvRow.nil {w : World} {B : Nat} : EvRow w B none 0 0 [] := ⟨rfl, Nat.le_refl _, Nat.zero_le _, by simp, fun h => absurd h (by omega)⟩
theorem EvRow.keep {w w' : World} {B : Nat} {A : Option Addr} {n c : Nat} {es : List Ev} (h : EvRow w B A n c es) (hk : ∀ p : Addr, p.block < B → w'.cell? p = w.cell? p) : EvRow w' B A n c es := by
  obtain ⟨h1, h2, h3, h4, h5⟩ := h
  refine ⟨h1, h2, h3, h4, fun h => ?_⟩
  obtain ⟨b, o, e, hb, hr⟩ := h5 h
  exact ⟨b, o, e, hb, fun i e he j v hv => (hk ⟨b, _, none⟩ hb).trans (hr i e he j v hv)⟩
theorem EvRow.below {w w' : World} {B : Nat} {A : Option Addr} {n c : Nat} {es : List Ev} (h : EvRow w B A n c es) (hb : Below B w w') : EvRow w' B A n c es := h.keep fun _ hp => hb.cell hp
theorem EvRow.more {w : World} {B B' : Nat} {A : Option Addr} {n c : Nat} {es : List Ev} (h : EvRow w B A n c es) (hB : B ≤ B') : EvRow w B' A n c es := by
  obtain ⟨h1, h2, h3, h4, h5⟩ := h
  refine ⟨h1, h2, h3, h4, fun h => ?_⟩
  obtain ⟨b, o, e, hb, hr⟩ := h5 h
  exact ⟨b, o, e, by omega, hr⟩

theorem flat_get : ∀ (es : List Ev) (i : Nat) (e : Ev), es[i]? = some e → ∀ j, j < 24 → (es.flatMap Ev.cells)[i * 24 + j]? = e.cells[j]?
  | [], i, e, h, j, hj => by simp at h
  | x :: es, 0, e, h, j, hj => by
    simp only [List.getElem?_cons_zero, Option.some.injEq] at h
    subst h
    rw [List.flatMap_cons, Nat.zero_mul, Nat.zero_add, List.getElem?_append_left (by rw [Ev.cells_length]; exact hj)]
  | x :: es, i + 1, e, h, j, hj => by
    rw [List.getElem?_cons_succ] at h
    rw [List.flatMap_cons, List.getElem?_append_right (by rw [Ev.cells_length]; omega), Ev.cells_length, ← flat_get es i e h j hj]
    congr 1
    omega
theorem EvRow.of_block {w : World} {g : Nat} {C : Array Value} {t : TypeId} {fr : Nat × Nat} {es : List Ev} (h : w.heap[g]? = some (.cells C t fr)) (hC : C.toList = es.flatMap Ev.cells) (hok : ∀ e ∈ es, e.ok)
    {n c : Nat} (hn : es.length = n) (hc : n ≤ c) (hm : c ≤ maxLen) : EvRow w w.heap.size (some ⟨g, 0, none⟩) n c es := by
  refine ⟨hn, hc, hm, hok, fun _ => ⟨g, 0, rfl, (Array.getElem?_eq_some_iff.1 h).1, fun i e he j v hv => ?_⟩⟩
  have hj : j < 24 := by
    rcases Nat.lt_or_ge j 24 with h | h
    · exact h
    · rw [List.getElem?_eq_none (by rw [Ev.cells_length]; exact h)] at hv; cases hv
  rw [Nat.zero_add, cell_of_row w g _ C t fr h, ← Array.getElem?_toList, hC, flat_get es i e he j hj, hv]
section
variable {H : Type} {enc : TypeId × Value → H} {w : World} {base : Nat} {spare : Nat → Bool} {held : Bool}
theorem cells1_int : Tryz.prog.cellsOf 3 = 1 := by kernel_rfl
theorem cells1_bool : Tryz.prog.cellsOf 4 = 1 := by kernel_rfl
theorem cells1_u8 : Tryz.prog.cellsOf 5 = 1 := by kernel_rfl
theorem cells1_u64 : Tryz.prog.cellsOf 34 = 1 := by kernel_rfl
theorem cells1_errno : Tryz.prog.cellsOf 31 = 1 := by kernel_rfl
theorem cells_call : Tryz.prog.cellsOf 97 = 7 := by kernel_rfl
theorem cells_counts : Tryz.prog.cellsOf 36 = 5 := by kernel_rfl
theorem cells_result : Tryz.prog.cellsOf 38 = 11 := by kernel_rfl
theorem cells_event : Tryz.prog.cellsOf 108 = 24 := by kernel_rfl
theorem trod_i64 {n : Nat} {t : TypeId} {cs : List Value} {x : DataW H × List MemPlace} (ht : Tryz.prog.underlying t = some (.int .i64)) (h : DataW.trod enc Tryz.prog w base spare held n t cs = some x) :
    ∃ m, cs = [.int .i64 m] ∧ i64ok m ∧ x.2 = [] := by
  obtain ⟨m, rfl, rfl, hw⟩ := DataW.trod_int ht h
  exact ⟨m, rfl, bounds_i64 hw, rfl⟩
theorem trod_u64 {n : Nat} {t : TypeId} {cs : List Value} {x : DataW H × List MemPlace} (ht : Tryz.prog.underlying t = some (.int .u64)) (h : DataW.trod enc Tryz.prog w base spare held n t cs = some x) :
    ∃ m, cs = [.int .u64 m] ∧ u64ok m ∧ x.2 = [] := by
  obtain ⟨m, rfl, rfl, hw⟩ := DataW.trod_int ht h
  exact ⟨m, rfl, bounds_u64 hw, rfl⟩
theorem trod_u8 {n : Nat} {t : TypeId} {cs : List Value} {x : DataW H × List MemPlace} (ht : Tryz.prog.underlying t = some (.int .u8)) (h : DataW.trod enc Tryz.prog w base spare held n t cs = some x) :
    ∃ m, cs = [.int .u8 m] ∧ u8ok m ∧ x.2 = [] := by
  obtain ⟨m, rfl, rfl, hw⟩ := DataW.trod_int ht h
  exact ⟨m, rfl, bounds_u8 hw, rfl⟩
theorem fld {fs : Array Field} {n : Nat} {cs : List Value} {xs : List (DataW H × List MemPlace)}
    (hf : ∀ (i : Nat) (f : Field), fs[i]? = some f → DataW.trod enc Tryz.prog w base spare held n f.type ((cs.drop f.offset).take (Tryz.prog.cellsOf f.type)) = xs[i]?)
    (i : Nat) {t o c : Nat} (h : (fs[i]?).map (fun f => (f.type, f.offset)) = some (t, o)) (hc : Tryz.prog.cellsOf t = c) (hlt : i < xs.length) :
    ∃ y, DataW.trod enc Tryz.prog w base spare held n t ((cs.drop o).take c) = some y := by
  cases hq : fs[i]? with
  | none => simp [hq] at h
  | some f =>
    rw [hq] at h
    simp only [Option.map_some, Option.some.injEq, Prod.mk.injEq] at h
    obtain ⟨rfl, rfl⟩ := h
    subst hc
    exact ⟨xs[i], by rw [hf i f hq, List.getElem?_eq_getElem hlt]⟩
set_option maxRecDepth 100000 in
theorem trod_call {n : Nat} {cs : List Value} {x : DataW H × List MemPlace} (h : DataW.trod enc Tryz.prog w base spare held n 97 cs = some x) : ∃ c : Cl, c.ok ∧ cs = c.cells := by
  obtain ⟨xs, n, _, hx, hl, hlen, hf⟩ := DataW.trod_struct Tryz.underlying97 h
  rw [cells_call] at hl
  match cs, hl with
  | [c0, c1, c2, c3, c4, c5, c6], _ =>
  have hsz : xs.length = 7 := hlen
  obtain ⟨y0, g0⟩ := fld hf 0 (t := 5) (o := 0) rfl cells1_u8 (by omega)
  obtain ⟨y1, g1⟩ := fld hf 1 (t := 3) (o := 1) rfl cells1_int (by omega)
  obtain ⟨y2, g2⟩ := fld hf 2 (t := 3) (o := 2) rfl cells1_int (by omega)
  obtain ⟨y3, g3⟩ := fld hf 3 (t := 3) (o := 3) rfl cells1_int (by omega)
  obtain ⟨y4, g4⟩ := fld hf 4 (t := 3) (o := 4) rfl cells1_int (by omega)
  obtain ⟨y5, g5⟩ := fld hf 5 (t := 3) (o := 5) rfl cells1_int (by omega)
  obtain ⟨y6, g6⟩ := fld hf 6 (t := 5) (o := 6) rfl cells1_u8 (by omega)
  simp only [List.drop_zero, List.drop_succ_cons, List.take_succ_cons, List.take_zero] at g0 g1 g2 g3 g4 g5 g6
  obtain ⟨m0, e0, k0, _⟩ := trod_u8 Tryz.underlying5 g0
  obtain ⟨m1, e1, k1, _⟩ := trod_i64 Tryz.underlying3 g1
  obtain ⟨m2, e2, k2, _⟩ := trod_i64 Tryz.underlying3 g2
  obtain ⟨m3, e3, k3, _⟩ := trod_i64 Tryz.underlying3 g3
  obtain ⟨m4, e4, k4, _⟩ := trod_i64 Tryz.underlying3 g4
  obtain ⟨m5, e5, k5, _⟩ := trod_i64 Tryz.underlying3 g5
  obtain ⟨m6, e6, k6, _⟩ := trod_u8 Tryz.underlying5 g6
  simp only [List.cons.injEq, and_true] at e0 e1 e2 e3 e4 e5 e6
  subst e0 e1 e2 e3 e4 e5 e6
  exact ⟨⟨m0, m1, m2, m3, m4, m5, m6⟩, ⟨k0, k1, k2, k3, k4, k5, k6⟩, rfl⟩
set_option maxRecDepth 100000 in
theorem trod_counts {n : Nat} {cs : List Value} {x : DataW H × List MemPlace} (h : DataW.trod enc Tryz.prog w base spare held n 36 cs = some x) :
    ∃ c0 c1 c2 c3 c4 : Int, u64ok c0 ∧ u64ok c1 ∧ u64ok c2 ∧ u64ok c3 ∧ u64ok c4 ∧ cs = [.int .u64 c0, .int .u64 c1, .int .u64 c2, .int .u64 c3, .int .u64 c4] := by
  obtain ⟨xs, n, _, hx, hl, hlen, hf⟩ := DataW.trod_struct Tryz.underlying36 h
  rw [cells_counts] at hl
  match cs, hl with
  | [c0, c1, c2, c3, c4], _ =>
  have hsz : xs.length = 5 := hlen
  obtain ⟨y0, g0⟩ := fld hf 0 (t := 34) (o := 0) rfl cells1_u64 (by omega)
  obtain ⟨y1, g1⟩ := fld hf 1 (t := 34) (o := 1) rfl cells1_u64 (by omega)
  obtain ⟨y2, g2⟩ := fld hf 2 (t := 34) (o := 2) rfl cells1_u64 (by omega)
  obtain ⟨y3, g3⟩ := fld hf 3 (t := 34) (o := 3) rfl cells1_u64 (by omega)
  obtain ⟨y4, g4⟩ := fld hf 4 (t := 34) (o := 4) rfl cells1_u64 (by omega)
  simp only [List.drop_zero, List.drop_succ_cons, List.take_succ_cons, List.take_zero] at g0 g1 g2 g3 g4
  obtain ⟨m0, e0, k0, _⟩ := trod_u64 Tryz.underlying34 g0
  obtain ⟨m1, e1, k1, _⟩ := trod_u64 Tryz.underlying34 g1
  obtain ⟨m2, e2, k2, _⟩ := trod_u64 Tryz.underlying34 g2
  obtain ⟨m3, e3, k3, _⟩ := trod_u64 Tryz.underlying34 g3
  obtain ⟨m4, e4, k4, _⟩ := trod_u64 Tryz.underlying34 g4
  simp only [List.cons.injEq, and_true] at e0 e1 e2 e3 e4
  subst e0 e1 e2 e3 e4
  exact ⟨m0, m1, m2, m3, m4, k0, k1, k2, k3, k4, rfl⟩
set_option maxRecDepth 100000 in
theorem trod_result {n : Nat} {cs : List Value} {x : DataW H × List MemPlace} (h : DataW.trod enc Tryz.prog w base spare held n 38 cs = some x) : ∃ r : Rs, r.ok ∧ cs = r.cells := by
  obtain ⟨xs, n, _, hx, hl, hlen, hf⟩ := DataW.trod_struct Tryz.underlying38 h
  rw [cells_result] at hl
  match cs, hl with
  | [c0, c1, c2, c3, c4, c5, c6, c7, c8, c9, c10], _ =>
  have hsz : xs.length = 7 := hlen
  obtain ⟨y0, g0⟩ := fld hf 0 (t := 3) (o := 0) rfl cells1_int (by omega)
  obtain ⟨y1, g1⟩ := fld hf 1 (t := 3) (o := 1) rfl cells1_int (by omega)
  obtain ⟨y2, g2⟩ := fld hf 2 (t := 5) (o := 2) rfl cells1_u8 (by omega)
  obtain ⟨y3, g3⟩ := fld hf 3 (t := 36) (o := 3) rfl cells_counts (by omega)
  obtain ⟨y4, g4⟩ := fld hf 4 (t := 31) (o := 8) rfl cells1_errno (by omega)
  obtain ⟨y5, g5⟩ := fld hf 5 (t := 3) (o := 9) rfl cells1_int (by omega)
  obtain ⟨y6, g6⟩ := fld hf 6 (t := 3) (o := 10) rfl cells1_int (by omega)
  simp only [List.drop_zero, List.drop_succ_cons, List.take_succ_cons, List.take_zero] at g0 g1 g2 g3 g4 g5 g6
  obtain ⟨m0, e0, k0, _⟩ := trod_i64 Tryz.underlying3 g0
  obtain ⟨m1, e1, k1, _⟩ := trod_i64 Tryz.underlying3 g1
  obtain ⟨m2, e2, k2, _⟩ := trod_u8 Tryz.underlying5 g2
  obtain ⟨a0, a1, a2, a3, a4, l0, l1, l2, l3, l4, e3⟩ := trod_counts g3
  obtain ⟨m4, e4, k4, _⟩ := trod_i64 Tryz.underlying31 g4
  obtain ⟨m5, e5, k5, _⟩ := trod_i64 Tryz.underlying3 g5
  obtain ⟨m6, e6, k6, _⟩ := trod_i64 Tryz.underlying3 g6
  simp only [List.cons.injEq, and_true] at e0 e1 e2 e3 e4 e5 e6
  obtain ⟨e30, e31, e32, e33, e34⟩ := e3
  subst e0 e1 e2 e30 e31 e32 e33 e34 e4 e5 e6
  exact ⟨⟨m0, m1, m2, a0, a1, a2, a3, a4, m4, m5, m6⟩, ⟨k0, k1, k2, l0, l1, l2, l3, l4, k4, k5, k6⟩, rfl⟩
set_option maxRecDepth 100000 in
theorem trod_event {n : Nat} {cs : List Value} {x : DataW H × List MemPlace} (h : DataW.trod enc Tryz.prog w base spare held n 108 cs = some x) : ∃ e : Ev, e.ok ∧ cs = e.cells := by
  obtain ⟨xs, n, _, hx, hl, hlen, hf⟩ := DataW.trod_struct Tryz.underlying108 h
  rw [cells_event] at hl
  match cs, hl with
  | [c0, c1, c2, c3, c4, c5, c6, c7, c8, c9, c10, c11, c12, c13, c14, c15, c16, c17, c18, c19, c20, c21, c22, c23], _ =>
  have hsz : xs.length = 8 := hlen
  obtain ⟨y0, g0⟩ := fld hf 0 (t := 3) (o := 0) rfl cells1_int (by omega)
  obtain ⟨y1, g1⟩ := fld hf 1 (t := 97) (o := 1) rfl cells_call (by omega)
  obtain ⟨y2, g2⟩ := fld hf 2 (t := 3) (o := 8) rfl cells1_int (by omega)
  obtain ⟨y3, g3⟩ := fld hf 3 (t := 3) (o := 9) rfl cells1_int (by omega)
  obtain ⟨y4, g4⟩ := fld hf 4 (t := 3) (o := 10) rfl cells1_int (by omega)
  obtain ⟨y5, g5⟩ := fld hf 5 (t := 3) (o := 11) rfl cells1_int (by omega)
  obtain ⟨y6, g6⟩ := fld hf 6 (t := 4) (o := 12) rfl cells1_bool (by omega)
  obtain ⟨y7, g7⟩ := fld hf 7 (t := 38) (o := 13) rfl cells_result (by omega)
  simp only [List.drop_zero, List.drop_succ_cons, List.take_succ_cons, List.take_zero] at g0 g1 g2 g3 g4 g5 g6 g7
  obtain ⟨m0, e0, k0, _⟩ := trod_i64 Tryz.underlying3 g0
  obtain ⟨c, k1, e1⟩ := trod_call g1
  obtain ⟨m2, e2, k2, _⟩ := trod_i64 Tryz.underlying3 g2
  obtain ⟨m3, e3, k3, _⟩ := trod_i64 Tryz.underlying3 g3
  obtain ⟨m4, e4, k4, _⟩ := trod_i64 Tryz.underlying3 g4
  obtain ⟨m5, e5, k5, _⟩ := trod_i64 Tryz.underlying3 g5
  obtain ⟨m6, e6, _⟩ := DataW.trod_bool Tryz.underlying4 g6
  obtain ⟨r, k7, e7⟩ := trod_result g7
  simp only [List.cons.injEq, and_true, Cl.cells, Rs.cells] at e0 e1 e2 e3 e4 e5 e6 e7
  obtain ⟨e10, e11, e12, e13, e14, e15, e16⟩ := e1
  obtain ⟨e70, e71, e72, e73, e74, e75, e76, e77, e78, e79, e7a⟩ := e7
  subst e0 e10 e11 e12 e13 e14 e15 e16 e2 e3 e4 e5 e6 e70 e71 e72 e73 e74 e75 e76 e77 e78 e79 e7a
  exact ⟨⟨m0, c, m2, m3, m4, m5, m6, r⟩, ⟨k0, k1, k2, k3, k4, k5, k7⟩, rfl⟩
theorem open_events {fuel : Nat} {A : Option Addr} {len cap : Nat} {x : DataW H × List MemPlace} (h : DataW.trod enc Tryz.prog w base spare held fuel 102 [.slice A len cap] = some x) :
    ∃ es, EvRow w w.heap.size A len cap es := by
  rcases open_slice Tryz.underlying102 h with ⟨hcs, _⟩ | ⟨a, l, c, m, n, D, Pl, hcs, _, hl, hm, hmm, _, hi⟩
  · simp only [List.cons.injEq, Value.slice.injEq, and_true] at hcs
    obtain ⟨rfl, rfl, rfl⟩ := hcs
    exact ⟨[], EvRow.nil⟩
  · simp only [List.cons.injEq, Value.slice.injEq, and_true] at hcs
    obtain ⟨rfl, rfl, rfl⟩ := hcs
    have hlm : len ≤ m := by rw [hmm]; split <;> omega
    obtain ⟨E, hE⟩ := choose_lt (α := Ev) (n := len) (p := fun i e => e.ok ∧ w.cells? base (a.add (i * 24)) 24 = some e.cells) (fun i hi' => by
      obtain ⟨cs', h1, h2⟩ := hi i (by omega)
      rw [cells_event] at h1
      obtain ⟨e, he, rfl⟩ := trod_event h2
      exact ⟨e, he, h1⟩)
    refine ⟨(List.range len).map E, by simp, hl, hm, ?_, fun h0 => ?_⟩
    · intro e he
      obtain ⟨i, hi, rfl⟩ := List.mem_map.1 he
      exact (hE i (by simpa using hi)).1
    · have at_ : ∀ i, i < len → ∀ j, j < 24 → w.cell? (a.add (i * 24 + j)) = (E i).cells[j]? := by
        intro i hi j hj
        have := (World.cells?_some (hE i hi).2).2.2 j hj
        rwa [Go.Deep.add_add] at this
      have h00 := at_ 0 h0 0 (by omega)
      obtain ⟨b, o, sp⟩ := a
      obtain ⟨v, hv⟩ : ∃ v, (E 0).cells[0]? = some v := ⟨_, rfl⟩
      rw [hv] at h00
      have hsp : sp = none := by simpa [Addr.add] using World.cell?_spot h00
      subst hsp
      refine ⟨b, o, rfl, by simpa [Addr.add] using World.block_lt_of_cell? w _ h00, fun i e he j v hv => ?_⟩
      rw [List.getElem?_map] at he
      obtain ⟨k, hk, rfl⟩ := Option.map_eq_some_iff.1 he
      have hil : i < len := by
        rcases Nat.lt_or_ge i len with h | h
        · exact h
        · rw [List.getElem?_eq_none (by simpa using h)] at hk; cases hk
      rw [List.getElem?_range hil] at hk
      injection hk with hk
      subst hk
      have hj : j < 24 := by
        rcases Nat.lt_or_ge j 24 with h | h
        · exact h
        · rw [List.getElem?_eq_none (by rw [Ev.cells_length]; exact h)] at hv; cases hv
      have := at_ i hil j hj
      rw [Addr.add_mid, hv] at this
      rw [← this, Nat.add_assoc]
end
end Go.Proofs.YtaegelbaghaooaaGreat
