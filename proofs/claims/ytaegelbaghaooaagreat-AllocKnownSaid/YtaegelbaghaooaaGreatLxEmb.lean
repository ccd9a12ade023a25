/- The local executor: heaps of own blocks within a world; loads, stores, new blocks. -/
import Derived.Test.YtaegelbaghaooaaGreatLxSem
namespace Go.Proofs.YtaegelbaghaooaaGreat.Lx
open Go

/-- the blocks of H stand in w, at the places that e says. -/
structure Emb (pv : Value) (e : Env) (H : Heap) (w : World) : Prop where
  len : H.length = e.length
  row : ∀ i k, blkAt H i = some k → ∃ r cs tl, e[i]? = some r ∧ denL pv e k.real = some cs ∧
    w.heap[r.1]? = some (.cells (cs ++ tl).toArray k.elem (0, 0)) ∧ (k.grown = false → tl = []) ∧ (k.grown = true → (cs ++ tl).length = r.2 ∧ r.2 ≤ maxLen)
  inj : ∀ i j k k' r r', blkAt H i = some k → blkAt H j = some k' → e[i]? = some r → e[j]? = some r' → r.1 = r'.1 → i = j
  ok : ∀ i k, blkAt H i = some k → k.ok
/-- a block of the world that one of H's stands for. -/
def Own (e : Env) (H : Heap) (b : Nat) : Prop := ∃ i k r, blkAt H i = some k ∧ e[i]? = some r ∧ r.1 = b
/-- only these blocks are changed; new ones may be made. -/
structure Keeps (S : Nat → Prop) (w w' : World) : Prop where
  os : w'.os = w.os
  tape : w'.tape = w.tape
  output : w'.output = w.output
  size : w.heap.size ≤ w'.heap.size
  block : ∀ b, b < w.heap.size → ¬ S b → w'.heap[b]? = w.heap[b]?
theorem Keeps.refl (S : Nat → Prop) (w : World) : Keeps S w w := ⟨rfl, rfl, rfl, Nat.le_refl _, fun _ _ _ => rfl⟩
theorem Keeps.trans {S S' : Nat → Prop} {w w' w'' : World} (h : Keeps S w w') (h' : Keeps S' w' w'') (hs : ∀ b, S' b → S b ∨ w.heap.size ≤ b) : Keeps S w w'' :=
  ⟨h'.os.trans h.os, h'.tape.trans h.tape, h'.output.trans h.output, Nat.le_trans h.size h'.size, fun b hb hn => by
    rw [h'.block b (Nat.lt_of_lt_of_le hb h.size) (fun hb' => by rcases hs b hb' with h1 | h1; exact hn h1; omega), h.block b hb hn]⟩
theorem Keeps.mono {S S' : Nat → Prop} {w w' : World} (h : Keeps S w w') (hs : ∀ b, S b → S' b) : Keeps S' w w' :=
  ⟨h.os, h.tape, h.output, h.size, fun b hb hn => h.block b hb fun hb' => hn (hs b hb')⟩
theorem Emb.own_lt {pv : Value} {e : Env} {H : Heap} {w : World} (E : Emb pv e H w) {b : Nat} (h : Own e H b) : b < w.heap.size := by
  obtain ⟨i, k, r, hk, hr, rfl⟩ := h
  obtain ⟨r', cs, tl, hr', _, hw, _⟩ := E.row i k hk
  rw [hr] at hr'
  cases hr'
  exact (Array.getElem?_eq_some_iff.1 hw).1
theorem Emb.ofSame {pv : Value} {e : Env} {H : Heap} {w w' : World} (E : Emb pv e H w) (h : ∀ b, Own e H b → w'.heap[b]? = w.heap[b]?) : Emb pv e H w' := by
  refine ⟨E.len, fun i k hk => ?_, E.inj, E.ok⟩
  obtain ⟨r, cs, tl, hr, hd, hw, h1, h2⟩ := E.row i k hk
  exact ⟨r, cs, tl, hr, hd, (h r.1 ⟨i, k, r, hk, hr, rfl⟩).trans hw, h1, h2⟩
theorem Emb.get {pv : Value} {e : Env} {H : Heap} {w : World} (E : Emb pv e H w) {i : Nat} {k : Blk} (hk : blkAt H i = some k) : ∃ r, e[i]? = some r := by
  obtain ⟨r, _, _, hr, _⟩ := E.row i k hk
  exact ⟨r, hr⟩

/-! ### blocks told as tables -/
theorem Blk.real_none {k : Blk} (h : k.tab = none) : k.real = k.cells := by unfold Blk.real; rw [h]
theorem Blk.real_some {k : Blk} {t : Tab} (h : k.tab = some t) : k.real = t.cells := by unfold Blk.real; rw [h]
theorem Blk.ok_none {k : Blk} (h : k.tab = none) : k.ok := fun t ht => by rw [h] at ht; cases ht
theorem flatC_den {pv pv' : Value} {e e' : Env} {c : C} (h : flatC c = true) : den pv' e' c = den pv e c := by
  cases c <;> first | rfl | (simp [flatC] at h)
theorem flatL_den {pv pv' : Value} {e e' : Env} {l : List C} (h : l.all flatC = true) : denL pv' e' l = denL pv e l := by
  induction l with
  | nil => rfl
  | cons c l ih =>
    simp only [List.all_cons, Bool.and_eq_true] at h
    simp only [denL, flatC_den (pv := pv) (pv' := pv') (e := e) (e' := e') h.1, ih h.2]
theorem rowC_flat : ∀ (sh : List CK) (r : List Int), (rowC sh r).all flatC = true
  | [], r => rfl
  | s :: sh, r => by
    simp only [rowC, List.all_cons, Bool.and_eq_true]
    exact ⟨by cases s <;> rfl, rowC_flat sh r.tail⟩
theorem tab_flat (t : Tab) : t.cells.all flatC = true := by
  cases t with
  | col k l => rw [List.all_eq_true]; intro c hc; simp only [Tab.cells, List.mem_map] at hc; obtain ⟨x, _, rfl⟩ := hc; rfl
  | rows sh l =>
    rw [List.all_eq_true]; intro c hc; simp only [Tab.cells, List.mem_flatMap] at hc; obtain ⟨x, _, hx⟩ := hc
    exact List.all_eq_true.1 (rowC_flat sh x) c hx
theorem slice_nil {o n : Nat} {r : List C} (h : slice [] o n = some r) : n = 0 ∧ r = [] := by
  cases n with
  | zero => simp only [slice] at h; cases h; exact ⟨rfl, rfl⟩
  | succ n => cases o <;> simp [slice] at h
theorem slice_zero (l : List C) (o : Nat) : slice l o 0 = some [] := by cases l <;> cases o <;> rfl
theorem slice_real {k : Blk} (hk : k.ok) {o n : Nat} {r : List C} (h : slice k.cells o n = some r) : slice k.real o n = some r := by
  cases ht : k.tab with
  | none => rw [Blk.real_none ht]; exact h
  | some t =>
    rw [hk t ht] at h
    obtain ⟨rfl, rfl⟩ := slice_nil h
    exact slice_zero _ _
theorem part_real {P : Program} {t : TypeId} {k : Blk} (hk : k.ok) {o : Nat} {v : V} (h : partT P t k.cells o = some v) : partT P t k.real o = some v := by
  unfold partT at h ⊢
  split at h
  · rw [Option.map_eq_some_iff] at h
    obtain ⟨l, h1, h2⟩ := h
    rw [slice_real hk h1]; exact congrArg some h2
  · split at h
    · rename_i hx
      rw [slice_real hk hx]; exact h
    · cases h
  · cases h
theorem inB_eq : ∀ (l : List Int) (o : Nat), inB l o = decide (o < l.length)
  | [], o => by simp [inB]
  | x :: l, 0 => by simp [inB]
  | x :: l, o + 1 => by simp [inB, inB_eq l o]
theorem slice_one_of {l : List C} {o : Nat} {x : C} (h : l[o]? = some x) : slice l o 1 = some [x] := by
  induction l generalizing o with
  | nil => simp at h
  | cons a l ih =>
    cases o with
    | zero => simp at h; subst h; simp [slice, slice_zero]
    | succ o => simp at h; simpa [slice] using ih h
theorem loadB_eq {P : Program} {t : TypeId} {k : Blk} {o : Nat} {v : V} (hk : k.ok) (h : loadB P t k o = some (true, v)) : partT P t k.real o = some v := by
  unfold loadB at h
  split at h
  · rename_i ht
    rw [Option.map_eq_some_iff] at h
    obtain ⟨u, h1, h2⟩ := h
    cases h2
    exact part_real hk h1
  · rename_i kd l ht
    split at h
    · rename_i n h1 h2
      simp only [Option.some.injEq, Prod.mk.injEq] at h
      obtain ⟨h3, rfl⟩ := h
      rw [inB_eq, decide_eq_true_eq] at h3
      unfold partT
      rw [Blk.real_some ht, h1, h2]
      have : (Tab.col kd l).cells[o]? = some (.int kd (l.getD o 0)) := by
        simp [Tab.cells, List.getElem?_eq_getElem h3]
      simp only [slice_one_of this]
    · cases h
  · cases h
theorem splice_nilC (l : List C) (o : Nat) : splice l o [] = some l := by cases l <;> cases o <;> rfl
theorem splice_one_of {l : List C} {o : Nat} {x : C} (h : o < l.length) : splice l o [x] = some (l.set o x) := by
  induction l generalizing o with
  | nil => simp at h
  | cons a l ih =>
    cases o with
    | zero => simp [splice, splice_nilC]
    | succ o => simp at h; simp [splice, ih h]
theorem storeB_eq {k k' : Blk} {o : Nat} {xs : List C} (hk : k.ok) (h : storeB k o xs = some (true, k')) : k'.ok ∧ k'.elem = k.elem ∧ k'.grown = k.grown ∧ splice k.real o xs = some k'.real := by
  unfold storeB at h
  split at h
  · rename_i ht
    split at h
    · rename_i cs hcs
      cases h
      refine ⟨Blk.ok_none ht, rfl, rfl, ?_⟩
      rw [Blk.real_none ht, Blk.real_none (k := { k with cells := cs }) ht]
      exact hcs
    · cases h
  · rename_i kd l ht
    split at h
    · rename_i kd' x
      split at h
      · rename_i hkd
        subst hkd
        simp only [Option.some.injEq, Prod.mk.injEq] at h
        obtain ⟨h3, rfl⟩ := h
        rw [inB_eq, decide_eq_true_eq] at h3
        refine ⟨fun t _ => hk _ ht, rfl, rfl, ?_⟩
        rw [Blk.real_some ht, Blk.real_some (k := { k with tab := some (.col kd' (l.set o x)) }) rfl]
        simp only [Tab.cells]
        rw [splice_one_of (by simpa using h3), List.map_set]
      · cases h
    · cases h
  · cases h

/-! ### reading -/
theorem cell_of {w : World} {r o : Nat} {c : Array Value} {t : TypeId} {f : Nat × Nat} (h : w.heap[r]? = some (.cells c t f)) : w.cell? ⟨r, o, none⟩ = c[o]? := by
  simp [World.cell?, h]
theorem loadCellsFrom_run (P : Program) (w : World) (r o : Nat) : ∀ (n i : Nat) (vs : List Value) (acc : Array Value), vs.length = n → (∀ j, j < n → w.cell? ⟨r, o + (i + j), none⟩ = vs[j]?) →
    (loadCellsFrom ⟨r, o, none⟩ i n acc).run P w = .ok (acc ++ vs.toArray) w
  | 0, i, vs, acc, hl, h => by
    obtain rfl := List.length_eq_zero_iff.1 hl
    simp [loadCellsFrom, pure, Sem.run]
  | n + 1, i, [], acc, hl, h => by simp at hl
  | n + 1, i, v :: vs, acc, hl, h => by
    have h0 := h 0 (by omega)
    simp only [Nat.add_zero, List.getElem?_cons_zero] at h0
    have ha : (⟨r, o, none⟩ : Addr).add i = ⟨r, o + i, none⟩ := by
      unfold Addr.add
      split
      · rename_i hi; subst hi; rfl
      · rfl
    have ih := loadCellsFrom_run P w r o n (i + 1) vs (acc.push v) (by simpa using hl) fun j hj => by
      have := h (j + 1) (by omega)
      rw [show i + 1 + j = i + (j + 1) by omega, this]
      simp
    simp only [loadCellsFrom, ha, load, bind, Sem.bind, Sem.run, h0, ih]
    simp
theorem isAgg_run {P : Program} {t : TypeId} {d : TypeDesc} (h : P.underlying t = some d) (w : World) : (isAgg t).run P w = .ok (isAggD d) w := by
  simp only [isAgg, underlying, program, bind, Sem.bind, Sem.run, h]
  cases d <;> rfl
theorem sizeOf_run {P : Program} {t : TypeId} {n : Nat} (h : sizeT P t = some n) (w : World) : (sizeOf t).run P w = .ok n w := by
  unfold sizeT at h
  rw [Option.map_eq_some_iff] at h
  obtain ⟨i, hi, rfl⟩ := h
  simp [sizeOf, typeInfo, program, bind, Sem.bind, Sem.run, hi, pure]
theorem underlying_run {P : Program} {t : TypeId} {d : TypeDesc} (h : P.underlying t = some d) (w : World) : (underlying t).run P w = .ok d w := by
  simp [underlying, program, bind, Sem.bind, Sem.run, h, pure]
theorem slice_one {l : List C} {o : Nat} {x : C} (h : slice l o 1 = some [x]) : l[o]? = some x := by
  have := ((slice_eq l o 1 [x] h).2 0 (by omega)).1
  simpa using this.symm
/-- what a place of a row reads as. -/
theorem part_load {pv : Value} {P : Program} {e : Env} {cells : List C} {cs tl : List Value} {w : World} {r o : Nat} {el t : TypeId} {v : V} {f : Nat × Nat}
    (hd : denL pv e cells = some cs) (hw : w.heap[r]? = some (.cells (cs ++ tl).toArray el f)) (h : partT P t cells o = some v) :
    ∃ rv, (loadVar t ⟨r, o, none⟩).run P w = .ok rv w ∧ denV pv e v = some rv := by
  unfold partT aggOf at h
  split at h
  · rename_i n hu hn
    rw [Option.map_eq_some_iff] at hu
    obtain ⟨d, hd', hda⟩ := hu
    rw [Option.map_eq_some_iff] at h
    obtain ⟨l, hl, rfl⟩ := h
    have hle : denL pv e l = some (cs.extract o (o + n)) ∧ (n = 0 ∨ o + n ≤ cs.length) := by
      rcases denL_slice hd hl with ⟨h1, h2⟩ | ⟨rfl, rfl⟩
      · exact ⟨h1, .inr h2⟩
      · exact ⟨by simp [denL], .inl rfl⟩
    refine ⟨.agg (cs.extract o (o + n)).toArray, ?_, by simp [denV, hle.1]⟩
    have hr := loadCellsFrom_run P w r o n 0 (cs.extract o (o + n)) #[] (by simp; omega) fun j hj => by
      rw [cell_of hw, List.getElem?_toArray, List.getElem?_append_left (by omega), List.extract_eq_take_drop, List.getElem?_take, if_pos (by omega), List.getElem?_drop]
      congr 1
      omega
    simp only [loadVar, Sem.run_bind, isAgg_run hd', Result.andThen_ok, hda, if_true, sizeOf_run hn, loadCells, hr, Sem.run_pure]
    simp
  · rename_i n hu hn
    rw [Option.map_eq_some_iff] at hu
    obtain ⟨d, hd', hda⟩ := hu
    split at h
    · rename_i x hx
      cases h
      obtain ⟨rv, h1, h2⟩ := denL_get hd (slice_one hx)
      refine ⟨rv, ?_, h1⟩
      have hc : w.cell? ⟨r, o, none⟩ = some rv := by
        rw [cell_of hw, List.getElem?_toArray, List.getElem?_append_left (List.getElem?_eq_some_iff.1 h2).1, h2]
      simp [loadVar, isAgg_run hd', hda, hc]
    · cases h
  · cases h
theorem part_run {pv : Value} {P : Program} {e : Env} {cells : List C} {cs : List Value} {w : World} {o : Nat} {t : TypeId} {v : V}
    (hd : denL pv e cells = some cs) (h : partT P t cells o = some v) :
    ∃ rv, (part t cs.toArray o).run P w = .ok rv w ∧ denV pv e v = some rv := by
  unfold partT aggOf at h
  split at h
  · rename_i n hu hn
    rw [Option.map_eq_some_iff] at hu
    obtain ⟨d, hd', hda⟩ := hu
    rw [Option.map_eq_some_iff] at h
    obtain ⟨l, hl, rfl⟩ := h
    have hle : denL pv e l = some (cs.extract o (o + n)) := by
      rcases denL_slice hd hl with ⟨h1, h2⟩ | ⟨rfl, rfl⟩
      · exact h1
      · simp [denL]
    refine ⟨.agg (cs.extract o (o + n)).toArray, ?_, by simp [denV, hle]⟩
    simp [part, isAgg_run hd', hda, sizeOf_run hn]
  · rename_i n hu hn
    rw [Option.map_eq_some_iff] at hu
    obtain ⟨d, hd', hda⟩ := hu
    split at h
    · rename_i x hx
      cases h
      obtain ⟨rv, h1, h2⟩ := denL_get hd (slice_one hx)
      refine ⟨rv, ?_, h1⟩
      simp [part, isAgg_run hd', hda, h2]
    · cases h
  · cases h

/-! ### writing -/
theorem setCell_eq {w : World} {r o : Nat} {c : Array Value} {t : TypeId} {f : Nat × Nat} (h : w.heap[r]? = some (.cells c t f)) (v : Value) :
    w.setCell ⟨r, o, none⟩ v = { w with heap := w.heap.setIfInBounds r (.cells (c.setIfInBounds o v) t f) } := by
  obtain ⟨hr, hc⟩ := Array.getElem?_eq_some_iff.1 h
  simp only [World.setCell]
  congr 1
  apply Array.ext
  · simp
  · intro i h1 h2
    rw [Array.getElem_modify]
    split
    · rename_i hi; subst hi; simp [hc]
    · rename_i hi
      rw [Array.getElem_setIfInBounds_ne _ hi]
theorem storeCells_run (P : Program) (r o : Nat) (el : TypeId) : ∀ (vs : List Value) (i : Nat) (w : World) (cs : List Value), w.heap[r]? = some (.cells cs.toArray el (0, 0)) → (∀ v ∈ vs, One v) → o + i + vs.length ≤ cs.length →
    (storeCells ⟨r, o, none⟩ vs i).run P w = .ok () { w with heap := w.heap.setIfInBounds r (.cells (put cs (o + i) vs).toArray el (0, 0)) }
  | [], i, w, cs, hw, h1, hl => by
    obtain ⟨hr, hc⟩ := Array.getElem?_eq_some_iff.1 hw
    simp only [storeCells, Sem.run_pure, put]
    congr 1
    have : w.heap.setIfInBounds r (.cells cs.toArray el (0, 0)) = w.heap := by
      rw [← hc, Array.setIfInBounds_def, dif_pos hr, Array.set_getElem_self]
    rw [this]
  | v :: vs, i, w, cs, hw, h1, hl => by
    simp only [List.length_cons] at hl
    have ha : (⟨r, o, none⟩ : Addr).add i = ⟨r, o + i, none⟩ := by
      unfold Addr.add
      split
      · rename_i hi; subst hi; rfl
      · rfl
    have hcell : ∃ u, w.cell? ⟨r, o + i, none⟩ = some u := by
      rw [cell_of hw]
      exact ⟨cs[o + i]'(by omega), by simp⟩
    obtain ⟨u, hu⟩ := hcell
    have hfz : w.frozen? ⟨r, o + i, none⟩ = false := by simp [World.frozen?, hw]
    have hv := h1 v (by simp)
    have hst : (store ⟨r, o + i, none⟩ v).run P w = .ok () (w.setCell ⟨r, o + i, none⟩ v) := by
      cases v with
      | agg c => exact absurd rfl (hv.1 c)
      | tuple c => exact absurd rfl (hv.2 c)
      | _ => simp only [store, Sem.run, hu, hfz]; rfl
    obtain ⟨hr, hc⟩ := Array.getElem?_eq_some_iff.1 hw
    have hw1 : (w.setCell ⟨r, o + i, none⟩ v).heap[r]? = some (.cells (cs.set (o + i) v).toArray el (0, 0)) := by
      rw [setCell_eq hw]
      simp [hr]
    have ih := storeCells_run P r o el vs (i + 1) (w.setCell ⟨r, o + i, none⟩ v) (cs.set (o + i) v) hw1 (fun x hx => h1 x (by simp [hx])) (by simp; omega)
    simp only [storeCells, ha, Sem.run_bind, hst, Result.andThen_ok, ih]
    congr 1
    rw [setCell_eq hw]
    simp only [put, Nat.add_assoc, Array.setIfInBounds_setIfInBounds]
theorem Emb.stored {pv : Value} {e : Env} {H : Heap} {w : World} (E : Emb pv e H w) {b : Nat} {k kn : Blk} {r : Nat × Nat} {vs' tl : List Value} (hk : blkAt H b = some k) (hr : e[b]? = some r)
    (hd : denL pv e kn.real = some vs') (hok : kn.ok) (hel : kn.elem = k.elem) (hgr : kn.grown = k.grown) (h1 : k.grown = false → tl = []) (h2 : k.grown = true → (vs' ++ tl).length = r.2 ∧ r.2 ≤ maxLen) :
    Emb pv e (setB H b (some kn)) { w with heap := w.heap.setIfInBounds r.1 (.cells (vs' ++ tl).toArray k.elem (0, 0)) } := by
  obtain ⟨r0, cs0, tl0, hr0, _, hw0, _, _⟩ := E.row b k hk
  rw [hr] at hr0
  cases hr0
  obtain ⟨hlt, _⟩ := Array.getElem?_eq_some_iff.1 hw0
  have hset : ∀ i k', blkAt (setB H b (some kn)) i = some k' → (i = b ∧ k' = kn) ∨ (i ≠ b ∧ blkAt H i = some k') := by
    intro i k' h
    rw [setB_eq, blkAt_eq, List.getElem?_set] at h
    split at h
    · rename_i hi
      subst hi
      split at h
      · simp at h; exact .inl ⟨rfl, h.symm⟩
      · simp at h
    · rename_i hi
      exact .inr ⟨fun h => hi h.symm, by rw [blkAt_eq]; exact h⟩
  refine ⟨by rw [setB_eq, List.length_set]; exact E.len, fun i k' hk' => ?_, fun i j k' k'' r1 r2 h3 h4 h5 h6 h7 => ?_, fun i k' hk' => ?_⟩
  rotate_right
  · rcases hset i k' hk' with ⟨_, rfl⟩ | ⟨_, h⟩
    · exact hok
    · exact E.ok i k' h
  · rcases hset i k' hk' with ⟨rfl, rfl⟩ | ⟨hne, hk'⟩
    · exact ⟨r, vs', tl, hr, hd, by simp [hlt, hel], fun h => h1 (hgr.symm.trans h), fun h => h2 (hgr.symm.trans h)⟩
    · obtain ⟨r', cs, tl', hr', hd', hw', h3, h4⟩ := E.row i k' hk'
      refine ⟨r', cs, tl', hr', hd', ?_, h3, h4⟩
      have : r.1 ≠ r'.1 := fun h => hne (E.inj i b k' k r' r hk' hk hr' hr h.symm)
      simp [Array.getElem?_setIfInBounds, this, hw']
  · have g1 : ∃ k, blkAt H i = some k := by rcases hset i k' h3 with ⟨h, _⟩ | ⟨_, h⟩ <;> first | exact ⟨k, h ▸ hk⟩ | exact ⟨_, h⟩
    have g2 : ∃ k, blkAt H j = some k := by rcases hset j k'' h4 with ⟨h, _⟩ | ⟨_, h⟩ <;> first | exact ⟨k, h ▸ hk⟩ | exact ⟨_, h⟩
    obtain ⟨k1, g1⟩ := g1
    obtain ⟨k2, g2⟩ := g2
    exact E.inj i j k1 k2 r1 r2 g1 g2 h5 h6 h7
theorem own_stored {e : Env} {H : Heap} {b : Nat} {k kn : Blk} (hk : blkAt H b = some k) {x : Nat} (h : Own e (setB H b (some kn)) x) : Own e H x := by
  obtain ⟨i, k', r, h1, h2, h3⟩ := h
  rw [setB_eq, blkAt_eq, List.getElem?_set] at h1
  split at h1
  · rename_i hi
    subst hi
    exact ⟨b, k, r, hk, h2, h3⟩
  · exact ⟨i, k', r, by rw [blkAt_eq]; exact h1, h2, h3⟩

/-! ### new blocks -/
theorem heap_alloc (w : World) (o : Obj) : (w.alloc o).heap = w.heap.push o := rfl
theorem blkAt_new (H : Heap) (k : Blk) (i : Nat) : blkAt (newB H k) i = if i = H.length then some k else blkAt H i := by
  rw [blkAt_eq, blkAt_eq, newB]
  by_cases h : i < H.length
  · rw [List.getElem?_append_left h, if_neg (by omega)]
  · by_cases h2 : i = H.length
    · subst h2; simp
    · rw [if_neg h2, List.getElem?_eq_none (by simp; omega), List.getElem?_eq_none (by omega)]
theorem Emb.made {pv : Value} {e : Env} {H : Heap} {w : World} (E : Emb pv e H w) {cs : List C} {vs : List Value} (t : TypeId) (hd : denL pv e cs = some vs) (cap : Nat) :
    Emb pv (e ++ [(w.heap.size, cap)]) (newB H ⟨cs, t, false, none⟩) (w.alloc (.cells vs.toArray t)) := by
  have hx : Ext e (e ++ [(w.heap.size, cap)]) := ⟨_, rfl⟩
  have hlen := E.len
  have hsplit : ∀ i k, blkAt (newB H ⟨cs, t, false, none⟩) i = some k → (i = H.length ∧ k = ⟨cs, t, false, none⟩) ∨ (blkAt H i = some k ∧ i < H.length) := by
    intro i k h
    rw [blkAt_new] at h
    split at h
    · cases h; exact .inl ⟨‹_›, rfl⟩
    · refine .inr ⟨h, ?_⟩
      rw [blkAt_eq] at h
      by_cases hi : i < H.length
      · exact hi
      · rw [List.getElem?_eq_none (by omega)] at h; simp at h
  refine ⟨by simp [newB, hlen], fun i k hk => ?_, fun i j k k' r r' hk hk' hr hr' he => ?_, fun i k hk => ?_⟩
  rotate_right
  · rcases hsplit i k hk with ⟨_, rfl⟩ | ⟨h, _⟩
    · intro t ht; cases ht
    · exact E.ok i k h
  · rcases hsplit i k hk with ⟨rfl, rfl⟩ | ⟨hk, hi⟩
    · refine ⟨(w.heap.size, cap), vs, [], by simp [hlen], denL_ext hx _ _ hd, by rw [heap_alloc]; simp, fun _ => rfl, fun h => by cases h⟩
    · obtain ⟨r, cs', tl, hr, hd', hw, h1, h2⟩ := E.row i k hk
      refine ⟨r, cs', tl, hx.get hr, denL_ext hx _ _ hd', ?_, h1, h2⟩
      have := (Array.getElem?_eq_some_iff.1 hw).1
      rw [heap_alloc, Array.getElem?_push, if_neg (Nat.ne_of_lt this), hw]
  · have old : ∀ i k r, blkAt H i = some k → i < H.length → (e ++ [(w.heap.size, cap)])[i]? = some r → e[i]? = some r ∧ r.1 < w.heap.size := by
      intro i k r hk hi hr
      rw [List.getElem?_append_left (by omega)] at hr
      exact ⟨hr, E.own_lt ⟨i, k, r, hk, hr, rfl⟩⟩
    have new : ∀ r, (e ++ [(w.heap.size, cap)])[H.length]? = some r → r.1 = w.heap.size := by
      intro r hr
      rw [hlen, List.getElem?_append_right (by omega)] at hr
      simp at hr
      simp [← hr]
    rcases hsplit i k hk with ⟨rfl, rfl⟩ | ⟨hk, hi⟩ <;> rcases hsplit j k' hk' with ⟨rfl, rfl⟩ | ⟨hk', hj⟩
    · rfl
    · have := new r hr; have := (old j k' r' hk' hj hr').2; omega
    · have := new r' hr'; have := (old i k r hk hi hr).2; omega
    · exact E.inj i j k k' r r' hk hk' (old i k r hk hi hr).1 (old j k' r' hk' hj hr').1 he
theorem own_made {pv : Value} {e : Env} {H : Heap} {w : World} (E : Emb pv e H w) {k : Blk} {cap x : Nat} (h : Own (e ++ [(w.heap.size, cap)]) (newB H k) x) : Own e H x ∨ x = w.heap.size := by
  obtain ⟨i, k', r, h1, h2, h3⟩ := h
  rw [blkAt_new] at h1
  split at h1
  · rename_i hi
    right
    rw [hi, E.len, List.getElem?_append_right (by omega)] at h2
    simp at h2
    rw [← h3, ← h2]
  · left
    have : i < H.length := by
      rw [blkAt_eq] at h1
      by_cases hi : i < H.length
      · exact hi
      · rw [List.getElem?_eq_none (by omega)] at h1; simp at h1
    rw [List.getElem?_append_left (by rw [← E.len]; exact this)] at h2
    exact ⟨i, k', r, h1, h2, h3⟩
end Go.Proofs.YtaegelbaghaooaaGreat.Lx
