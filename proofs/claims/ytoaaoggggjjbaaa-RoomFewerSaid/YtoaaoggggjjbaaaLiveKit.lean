/- blocks of the heap, as a map holds them; rows of events that lie in a block beside a map's. -/
import Derived.Test.YtoaaoggggjjbaaaIMapOps
import Derived.Test.YtoaaoggggjjbaaaTaken
import Derived.Test.YtoaaoggggjjbaaaHeapSmall
import Derived.Test.YtoaaoggggjjbaaaShelf
import Derived.Test.YtoaaoggggjjbaaaShelf2
namespace Go.Proofs.Ytoaaoggggjjbaaa
open Go.RowKit Go.Deep Go.Sort Go.Lib Go.Maps Go.Shelf
structure Blk where
  (pos size room : Int)
  deriving DecidableEq, Inhabited
def Blk.cells (b : Blk) : List Value := [.int .i64 b.pos, .int .i64 b.size, .int .i64 b.room]
def Blk.ok (b : Blk) : Prop := i64ok b.pos ∧ i64ok b.size ∧ i64ok b.room
theorem Blk.cells_length (b : Blk) : b.cells.length = 3 := rfl
theorem Blk.oneCell (b : Blk) : ∀ v ∈ b.cells, v.oneCell' = true := by
  intro v hv
  simp only [Blk.cells, List.mem_cons, List.mem_nil_iff, or_false] at hv
  rcases hv with h | h | h <;> subst h <;> rfl
/-- Blocks as elements of a map. -/
def blkEl : IM.El Blk where
  val := fun b => .agg #[.int .i64 b.pos, .int .i64 b.size, .int .i64 b.room]
  dv := fun b => .agg [.lit (.int .i64 b.pos), .lit (.int .i64 b.size), .lit (.int .i64 b.room)]
  R := fun v => match v with
    | .agg c => match c.toList with
      | [.int .i64 x, .int .i64 y, .int .i64 z] => some (.agg [.lit (.int .i64 x), .lit (.int .i64 y), .lit (.int .i64 z)], [])
      | _ => none
    | _ => none
  rd := fun b => rfl
  inv := fun v b ps h => by
    cases v with
    | agg c =>
      simp only at h
      split at h
      · rename_i x y z hc
        have hx : c = #[.int .i64 x, .int .i64 y, .int .i64 z] := by rw [← hc]
        simp at h
        obtain ⟨h1, h2⟩ := h
        obtain ⟨rfl, rfl, rfl⟩ := h1
        rw [hx]
      · cases h
    | _ => simp at h
/-- one event's effect. -/
def liveStep (m : List (Int × Blk)) (e : Ev) : List (Int × Blk) :=
  let m1 := if endsB e then IM.delI e.call.pos m else m
  if makesB e then IM.putI e.r.pos ⟨e.r.pos, askedV e.call, e.r.n⟩ m1 else m1
def liveM (L : List Ev) : List (Int × Blk) := L.foldl liveStep []
def liveV (es : List Ev) (step : Int) : List Blk := (liveM (takenV es step)).map (·.2)
theorem liveM_snoc (L : List Ev) (e : Ev) : liveM (L ++ [e]) = liveStep (liveM L) e := by unfold liveM; rw [List.foldl_append]; rfl
theorem rising_step {m : List (Int × Blk)} (h : IM.Rising m) (e : Ev) : IM.Rising (liveStep m e) := by
  unfold liveStep
  have h1 : IM.Rising (if endsB e then IM.delI e.call.pos m else m) := by split; exact IM.rising_del _ h; exact h
  simp only
  split
  · exact IM.rising_put _ _ h1
  · exact h1
theorem rising_foldl (L : List Ev) : ∀ {m : List (Int × Blk)}, IM.Rising m → IM.Rising (L.foldl liveStep m) := by
  induction L with
  | nil => exact fun h => h
  | cons e L ih => exact fun h => ih (rising_step h e)
theorem rising_live (L : List Ev) : IM.Rising (liveM L) := rising_foldl L IM.rising_nil
/-- a row of events that lies in another block than b. -/
def EvIn (w : World) (b : Nat) (A : Option Addr) (es : List Ev) : Prop := 0 < es.length → ∃ g o, A = some ⟨g, o, none⟩ ∧ g ≠ b ∧ g < w.heap.size ∧ ∀ i e, es[i]? = some e → w.rangeAt g (o + i * 24) e.cells
theorem rangeAt_grown {w w' : World} {row : Option Nat} {g o : Nat} {cs : List Value} (h : w.rangeAt g o cs) (hg : w.grownBy w' row) (hlt : g < w.heap.size) (hne : some g ≠ row) : w'.rangeAt g o cs := fun j v hv => by
  rw [World.cell?_of_block (w := w) (hg.block g hlt hne)]
  exact h j v hv
theorem EvIn.grown {w w' : World} {b : Nat} {A : Option Addr} {es : List Ev} (h : EvIn w b A es) (hg : w.grownBy w' (some b)) : EvIn w' b A es := fun h0 => by
  obtain ⟨g, o, hA, hne, hlt, hr⟩ := h h0
  exact ⟨g, o, hA, hne, Nat.lt_of_lt_of_le hlt hg.size, fun i e he => rangeAt_grown (hr i e he) hg hlt (by simpa using hne)⟩
theorem EvIn.alloc {w : World} {b : Nat} {A : Option Addr} {es : List Ev} (h : EvIn w b A es) (o : Obj) : EvIn (w.alloc o) b A es := h.grown (World.grownBy_alloc w o _)
theorem EvIn.drew {w : World} {b : Nat} {A : Option Addr} {es : List Ev} (h : EvIn w b A es) : EvIn w.drew b A es := h
/-- out of what taken hands back. -/
theorem EvIn.of_own {w : World} {base b : Nat} {v : Value} {es : List Ev} (h : w.ownsRow base 35 24 v es.length (es.flatMap Ev.cells)) (hb : b < base) : ∃ A c, v = .slice A es.length c ∧ es.length ≤ c ∧ EvIn w b A es := by
  rcases h.2 with ⟨rfl, h0⟩ | ⟨g, cap, cur, rfl, hbase, hb', h1, h2, h3, h4⟩
  · exact ⟨none, 0, by rw [h0], by omega, fun h => by omega⟩
  · refine ⟨_, _, rfl, h1, fun h0 => ⟨g, 0, rfl, by omega, (Array.getElem?_eq_some_iff.1 hb').1, fun i e he j u hu => ?_⟩⟩
    have hi : i < es.length := (List.getElem?_eq_some_iff.1 he).1
    have hj : j < 24 := by
      have := (List.getElem?_eq_some_iff.1 hu).1
      rwa [Ev.cells_length] at this
    have e1 : es[i] = e := (List.getElem?_eq_some_iff.1 he).2
    have hf := St.flat_at (enc := Ev.cells) (k := 24) Ev.cells_length es i hi j hj
    rw [e1, hu] at hf
    rw [cell_of_row w g _ cur _ (0, 0) hb', Nat.zero_add, ← Array.getElem?_toList]
    have hlt : i * 24 + j < es.length * 24 := by omega
    rw [← List.getElem?_take_of_lt hlt, h4]
    exact hf
/-- the keys of a map of blocks, as a slice, sorted. -/
theorem mergeSort_perm {l ss : List Int} (hp : ss.Perm l) (hl : l.Pairwise (· < ·)) : ss.mergeSort (fun x y => decide (x ≤ y)) = l := by
  have h1 : (ss.mergeSort (fun x y => decide (x ≤ y))).Pairwise (fun x y => decide (x ≤ y) = true) :=
    List.pairwise_mergeSort (le := fun x y => decide (x ≤ y)) (fun a b c h1 h2 => by simp at *; omega) (fun a b => by simp; omega) ss
  have h2 : (ss.mergeSort (fun x y => decide (x ≤ y))).Perm l := (List.mergeSort_perm _ _).trans hp
  refine h2.eq_of_pairwise (le := fun x y => decide (x ≤ y) = true) ?_ h1 (hl.imp fun h => by simp; omega)
  intro a b _ _ h3 h4
  simp at h3 h4
  omega
end Go.Proofs.Ytoaaoggggjjbaaa
