/- The local executor: heaps of own blocks within a world; loads, stores, new blocks. -/
import Derived.Test.YtjcdojcbdfblbaaLxSem
namespace Go.Proofs.Ytjcdojcbdfblbaa.Lx
open Go

/-- a block's cells stand in w: in a block of their own, or in a window; or nowhere. -/
def Lies (w : World) (r : Nat × Nat) (k : Blk) (cs : List Value) : Prop := k.virt = true ∨ match k.mapped with
  | some m => r.1 < w.heap.size ∧ MapIs w r.1 m
  | none => match k.win with
  | some off => r.1 < w.heap.size ∧ ∀ j v, cs[j]? = some v → w.cell? ⟨r.1, off + j, none⟩ = some v
  | none => ∃ tl, w.heap[r.1]? = some (.cells (cs ++ tl).toArray k.elem (0, 0)) ∧ (k.grown = false → tl = []) ∧ (k.grown = true → (cs ++ tl).length = r.2 * k.wid ∧ r.2 ≤ maxLen)
theorem Lies.lt {w : World} {r : Nat × Nat} {k : Blk} {cs : List Value} (h : Lies w r k cs) (hv : k.virt = false) : r.1 < w.heap.size := by
  rcases h with h | h
  · rw [hv] at h; cases h
  · split at h
    · exact h.1
    · split at h
      · exact h.1
      · obtain ⟨tl, h1, _⟩ := h
        exact (Array.getElem?_eq_some_iff.1 h1).1
theorem Lies.same {w w' : World} {r : Nat × Nat} {k : Blk} {cs : List Value} (h : Lies w r k cs) (hs : k.virt = false → w'.heap[r.1]? = w.heap[r.1]?) : Lies w' r k cs := by
  cases hv : k.virt with
  | true => exact .inl hv
  | false =>
    replace hs := hs hv
    have hlt0 := h.lt hv
    rcases h with h | h
    · exact .inl h
    · right
      have hlt : r.1 < w'.heap.size := by
        rw [Array.getElem?_eq_getElem hlt0] at hs
        exact (Array.getElem?_eq_some_iff.1 hs).1
      split at h
      · exact ⟨hlt, h.2.same hs⟩
      · split at h
        · refine ⟨hlt, fun j v hj => ?_⟩
          have := h.2 j v hj
          simp only [World.cell?] at this ⊢
          rw [hs]; exact this
        · obtain ⟨tl, h1, h2, h3⟩ := h
          exact ⟨tl, hs.trans h1, h2, h3⟩
theorem Blk.mapped_win {k : Blk} {m : Bool × List CK × List (List Int)} (h : k.mapped = some m) : k.win = none ∧ k.virt = false ∧ k.real = [] ∧ k.wid = 1 := by
  unfold Blk.mapped at h
  split at h
  · rename_i ht
    unfold Blk.win Blk.virt Blk.real Blk.wid
    rw [ht]
    exact ⟨rfl, rfl, rfl, rfl⟩
  · cases h
theorem Blk.mapped_none {k : Blk} (h : k.tab = none) : k.mapped = none := by unfold Blk.mapped; rw [h]
theorem Blk.mapped_real {k : Blk} {c : C} {j : Nat} (h : k.real[j]? = some c) : k.mapped = none := by
  cases hm : k.mapped with
  | none => rfl
  | some m => rw [(Blk.mapped_win hm).2.2.1] at h; simp at h
theorem Blk.mapped_virt {k : Blk} (h : k.virt = true) : k.mapped = none := by
  cases hm : k.mapped with
  | none => rfl
  | some m => rw [(Blk.mapped_win hm).2.1] at h; cases h
theorem Blk.mapped_some {k : Blk} {pv : Value} {e : Env} {cs : List Value} {j : Nat} {v : Value} (hd : denL pv e k.real = some cs) (h : cs[j]? = some v) : k.mapped = none := by
  cases hm : k.mapped with
  | none => rfl
  | some m =>
    rw [(Blk.mapped_win hm).2.2.1] at hd
    simp only [denL, Option.some.injEq] at hd
    subst hd
    simp at h
/-- a map that is an own block. -/
theorem Lies.map {w : World} {r : Nat × Nat} {k : Blk} {cs : List Value} {m : Bool × List CK × List (List Int)} (h : Lies w r k cs) (hm : k.mapped = some m) : MapIs w r.1 m := by
  rcases h with h | h
  · rw [(Blk.mapped_win hm).2.1] at h; cases h
  · rw [hm] at h; exact h.2
theorem Lies.own {w : World} {r : Nat × Nat} {k : Blk} {cs : List Value} (h : Lies w r k cs) (hk : k.win = none) (hv : k.virt = false) (hm : k.mapped = none) : ∃ tl, w.heap[r.1]? = some (.cells (cs ++ tl).toArray k.elem (0, 0)) ∧ (k.grown = false → tl = []) ∧ (k.grown = true → (cs ++ tl).length = r.2 * k.wid ∧ r.2 ≤ maxLen) := by
  rcases h with h | h
  · rw [hv] at h; cases h
  · rw [hm, hk] at h; exact h
theorem Lies.mk {w : World} {r : Nat × Nat} {k : Blk} {cs tl : List Value} (hk : k.win = none) (h1 : w.heap[r.1]? = some (.cells (cs ++ tl).toArray k.elem (0, 0))) (h2 : k.grown = false → tl = []) (h3 : k.grown = true → (cs ++ tl).length = r.2 * k.wid ∧ r.2 ≤ maxLen) (hm : k.mapped = none := by first | rfl | assumption | (exact Blk.mapped_none (by assumption))) : Lies w r k cs := by
  right; rw [hm, hk]; exact ⟨tl, h1, h2, h3⟩
/-- the blocks of H stand in w, at the places that e says. -/
structure Emb (pv : Value) (e : Env) (H : Heap) (w : World) : Prop where
  len : H.length = e.length
  lies : ∀ i k, blkAt H i = some k → ∃ r cs, e[i]? = some r ∧ denL pv e k.real = some cs ∧ Lies w r k cs
  alone : ∀ i j k k' r r', blkAt H i = some k → blkAt H j = some k' → e[i]? = some r → e[j]? = some r' → r.1 = r'.1 → k.virt = false → k'.virt = false → i = j ∨ (k.win.isSome = true ∧ k'.win.isSome = true)
  ok : ∀ i k, blkAt H i = some k → k.ok
theorem Emb.row {pv : Value} {e : Env} {H : Heap} {w : World} (E : Emb pv e H w) (i : Nat) (k : Blk) (h : blkAt H i = some k) (hk : k.win = none) (hv : k.virt = false) (hm : k.mapped = none := by first | rfl | assumption | (exact Blk.mapped_none (by assumption))) : ∃ r cs tl, e[i]? = some r ∧ denL pv e k.real = some cs ∧
    w.heap[r.1]? = some (.cells (cs ++ tl).toArray k.elem (0, 0)) ∧ (k.grown = false → tl = []) ∧ (k.grown = true → (cs ++ tl).length = r.2 * k.wid ∧ r.2 ≤ maxLen) := by
  obtain ⟨r, cs, h1, h2, h3⟩ := E.lies i k h
  obtain ⟨tl, h4, h5, h6⟩ := h3.own hk hv hm
  exact ⟨r, cs, tl, h1, h2, h4, h5, h6⟩
theorem Emb.inj {pv : Value} {e : Env} {H : Heap} {w : World} (E : Emb pv e H w) (i j : Nat) (k k' : Blk) (r r' : Nat × Nat) (h1 : blkAt H i = some k) (h2 : blkAt H j = some k') (h3 : e[i]? = some r) (h4 : e[j]? = some r') (h5 : r.1 = r'.1) (hv : k.virt = false) (hv' : k'.virt = false) (hk : k.win = none ∨ k'.win = none) : i = j := by
  rcases E.alone i j k k' r r' h1 h2 h3 h4 h5 hv hv' with h | ⟨h6, h7⟩
  · exact h
  · rcases hk with hk | hk
    · rw [hk] at h6; cases h6
    · rw [hk] at h7; cases h7
theorem Blk.win_none {k : Blk} (h : k.tab = none) : k.win = none := by unfold Blk.win; rw [h]
theorem Blk.virt_none {k : Blk} (h : k.tab = none) : k.virt = false := by unfold Blk.virt; rw [h]
theorem Blk.virt_some {k : Blk} {v : Value} {pv : Value} {e : Env} {cs : List Value} {j : Nat} (hd : denL pv e k.real = some cs) (h : cs[j]? = some v) : k.virt = false := by
  cases hv : k.virt with
  | false => rfl
  | true =>
    unfold Blk.virt at hv
    have hr : k.real = [] := by
      unfold Blk.real
      split at hv
      · rename_i sh l ht
        rw [ht]
        cases l with
        | nil => rfl
        | cons a l => simp [emptyL] at hv
      · rename_i kd l ht
        rw [ht]
        cases l with
        | nil => rfl
        | cons a l => simp [emptyL] at hv
      · rename_i o kd l ht
        rw [ht]
        cases l with
        | nil => rfl
        | cons a l => cases hv
      · rename_i o sh l ht
        rw [ht]
        cases l with
        | nil => rfl
        | cons a l => cases hv
      · cases hv
      · cases hv
    rw [hr] at hd
    simp only [denL, Option.some.injEq] at hd
    subst hd
    simp at h
/-- a block of the world that one of H's stands for. -/
def Own (q : Bool) (e : Env) (H : Heap) (b : Nat) : Prop := ∃ i k r, blkAt H i = some k ∧ e[i]? = some r ∧ r.1 = b ∧ k.virt = false ∧ (q = true → k.win = none)
theorem Own.weak {q : Bool} {e : Env} {H : Heap} {b : Nat} (h : Own q e H b) : Own false e H b := by
  obtain ⟨i, k, r, h1, h2, h3, h4, _⟩ := h
  exact ⟨i, k, r, h1, h2, h3, h4, fun h => by cases h⟩
theorem own_any {e : Env} {H : Heap} {i : Nat} {k : Blk} {r : Nat × Nat} (h1 : blkAt H i = some k) (h2 : e[i]? = some r) (hv : k.virt = false) : Own false e H r.1 := ⟨i, k, r, h1, h2, rfl, hv, fun h => by cases h⟩
/-- only these blocks are changed; new ones may be made. -/
structure Keeps (S : Nat → Prop) (w w' : World) : Prop where
  os : w'.os = w.os
  tape : w'.tape = w.tape
  output : w'.output = w.output
  size : w.heap.size ≤ w'.heap.size
  block : ∀ b, b < w.heap.size → ¬ S b → w'.heap[b]? = w.heap[b]?
theorem Keeps.refl (S : Nat → Prop) (w : World) : Keeps S w w := ⟨rfl, rfl, rfl, Nat.le_refl _, fun _ _ _ => rfl⟩
theorem Keeps.trans {S S' : Nat → Prop} {w w' w'' : World} (h : Keeps S w w') (h' : Keeps S' w' w'') (hs : ∀ b, S' b → S b ∨ w.heap.size ≤ b) : Keeps S w w'' :=
  ⟨h'.os.trans h.os, h'.tape.trans h.tape, h'.output.trans h.output, Nat.le_trans h.size h'.size, fun b hb hn => by
    rw [h'.block b (Nat.lt_of_lt_of_le hb h.size) (fun hb' => by rcases hs b hb' with h1 | h1; exact hn h1; omega), h.block b hb hn]⟩
theorem Keeps.mono {S S' : Nat → Prop} {w w' : World} (h : Keeps S w w') (hs : ∀ b, S b → S' b) : Keeps S' w w' :=
  ⟨h.os, h.tape, h.output, h.size, fun b hb hn => h.block b hb fun hb' => hn (hs b hb')⟩
theorem Emb.own_lt {pv : Value} {e : Env} {H : Heap} {w : World} (E : Emb pv e H w) {q : Bool} {b : Nat} (h : Own q e H b) : b < w.heap.size := by
  obtain ⟨i, k, r, hk, hr, rfl, hv, _⟩ := h
  obtain ⟨r', cs, hr', _, hw⟩ := E.lies i k hk
  rw [hr] at hr'
  cases hr'
  exact hw.lt hv
theorem Emb.ofSame {pv : Value} {e : Env} {H : Heap} {w w' : World} (E : Emb pv e H w) (h : ∀ b, Own false e H b → w'.heap[b]? = w.heap[b]?) : Emb pv e H w' := by
  refine ⟨E.len, fun i k hk => ?_, E.alone, E.ok⟩
  obtain ⟨r, cs, hr, hd, hw⟩ := E.lies i k hk
  exact ⟨r, cs, hr, hd, hw.same fun hv => h r.1 (own_any hk hr hv)⟩
theorem Emb.get {pv : Value} {e : Env} {H : Heap} {w : World} (E : Emb pv e H w) {i : Nat} {k : Blk} (hk : blkAt H i = some k) : ∃ r, e[i]? = some r := by
  obtain ⟨r, _, hr, _⟩ := E.lies i k hk
  exact ⟨r, hr⟩

/-! ### blocks told as tables -/
theorem Blk.real_none {k : Blk} (h : k.tab = none) : k.real = k.cells := by unfold Blk.real; rw [h]
theorem Blk.real_some {k : Blk} {t : Tab} (h : k.tab = some t) : k.real = t.cells := by unfold Blk.real; rw [h]
theorem Blk.ok_none {k : Blk} (h : k.tab = none) : k.ok := fun t ht => by rw [h] at ht; cases ht
theorem flatC_den {pv pv' : Value} {e e' : Env} {c : C} (h : flatC c = true) : den pv' e' c = den pv e c := by
  cases c <;> first | rfl | (simp [flatC] at h)
theorem flatL_den {pv pv' : Value} {e e' : Env} {l : List C} (h : l.all flatC = true) : denL pv' e' l = denL pv e l := by
  induction l with
  | nil => rfl
  | cons c l ih =>
    simp only [List.all_cons, Bool.and_eq_true] at h
    simp only [denL, flatC_den (pv := pv) (pv' := pv') (e := e) (e' := e') h.1, ih h.2]
theorem rowG_flat : ∀ (sh : List CK) (j : Nat) (r : List Int), (rowG sh j r).all flatC = true
  | [], j, r => rfl
  | s :: sh, j, r => by
    simp only [rowG, List.all_cons, Bool.and_eq_true]
    exact ⟨by cases s <;> rfl, rowG_flat sh (j + 1) r⟩
theorem rowC_flat (sh : List CK) (r : List Int) : (rowC sh r).all flatC = true := rowG_flat sh 0 r
theorem rowG_length : ∀ (sh : List CK) (j : Nat) (r : List Int), (rowG sh j r).length = sh.length
  | [], j, r => rfl
  | s :: sh, j, r => by simp only [rowG, List.length_cons, rowG_length sh (j + 1) r]
theorem rowC_length (sh : List CK) (r : List Int) : (rowC sh r).length = sh.length := rowG_length sh 0 r
theorem tab_flat (t : Tab) : t.cells.all flatC = true := by
  cases t with
  | col k l => rw [List.all_eq_true]; intro c hc; simp only [Tab.cells, List.mem_map] at hc; obtain ⟨x, _, rfl⟩ := hc; rfl
  | rows sh l =>
    rw [List.all_eq_true]; intro c hc; simp only [Tab.cells, List.mem_flatMap] at hc; obtain ⟨x, _, hx⟩ := hc
    exact List.all_eq_true.1 (rowC_flat sh x) c hx
  | wcol o k l => rw [List.all_eq_true]; intro c hc; simp only [Tab.cells, List.mem_map] at hc; obtain ⟨x, _, rfl⟩ := hc; rfl
  | wrows o sh l =>
    rw [List.all_eq_true]; intro c hc; simp only [Tab.cells, List.mem_flatMap] at hc; obtain ⟨x, _, hx⟩ := hc
    exact List.all_eq_true.1 (rowC_flat sh x) c hx
  | imap g sh l => rfl
/-- a row's cells lie at its place. -/
theorem flat_row {sh : List CK} : ∀ {l : List (List Int)} {i j : Nat}, i < l.length → j < sh.length → (l.flatMap (rowC sh))[i * sh.length + j]? = (rowC sh (getR l i))[j]?
  | [], i, j, h, _ => by simp at h
  | r :: l, 0, j, h, hj => by
    rw [Nat.zero_mul, Nat.zero_add, List.flatMap_cons, List.getElem?_append_left (by rw [rowC_length]; exact hj)]; rfl
  | r :: l, i + 1, j, h, hj => by
    rw [List.flatMap_cons, List.getElem?_append_right (by rw [rowC_length, Nat.add_mul]; omega), rowC_length]
    rw [show (i + 1) * sh.length + j - sh.length = i * sh.length + j by rw [Nat.add_mul]; omega]
    exact flat_row (by simpa using h) hj
theorem flat_length {sh : List CK} : ∀ (l : List (List Int)), (l.flatMap (rowC sh)).length = l.length * sh.length
  | [] => by simp
  | r :: l => by rw [List.flatMap_cons, List.length_append, rowC_length, flat_length l, List.length_cons, Nat.add_mul]; omega
theorem slice_get {l r : List C} {o n : Nat} (h : slice l o n = some r) : r.length = n ∧ (n = 0 ∨ o + n ≤ l.length) ∧ ∀ j, j < n → r[j]? = l[o + j]? := by
  obtain ⟨h1, h2⟩ := slice_eq l o n r h
  refine ⟨h1, ?_, fun j hj => (h2 j hj).1⟩
  cases n with
  | zero => exact .inl rfl
  | succ n => have := (h2 n (by omega)).2; exact .inr (by omega)
theorem slice_of : ∀ {l r : List C} {o n : Nat}, r.length = n → (∀ j, j < n → r[j]? = l[o + j]?) → slice l o n = some r
  | l, [], o, n, h, _ => by simp at h; subst h; exact slice_zero' l o
  | l, x :: r, o, n, h, hj => by
    obtain rfl : n = r.length + 1 := by simpa using h.symm
    have h0 := hj 0 (by omega)
    simp only [List.getElem?_cons_zero, Nat.add_zero] at h0
    obtain ⟨hlt, _⟩ := List.getElem?_eq_some_iff.1 h0.symm
    induction l generalizing o with
    | nil => simp at hlt
    | cons a l ih =>
      cases o with
      | zero =>
        simp only [List.getElem?_cons_zero, Option.some.injEq] at h0
        subst h0
        have := slice_of (l := l) (r := r) (o := 0) (n := r.length) rfl fun j hlj => by
          have := hj (j + 1) (by omega)
          simpa using this
        simp only [slice, this]
      | succ o =>
        simp only [slice]
        exact ih o (fun j hlj => by rw [hj j hlj, show o + 1 + j = (o + j) + 1 by omega]; simp) (by simpa using h0) (by simpa using hlt) (by assumption)
where slice_zero' (l : List C) (o : Nat) : slice l o 0 = some [] := by cases l <;> cases o <;> rfl
/-- a part of a row is a part of all cells. -/
theorem part_sub {P : Program} {t : TypeId} {l m : List C} {f o : Nat} {v : V} (h : partT P t m f = some v) (hs : ∀ j, j < m.length → l[o + j]? = m[j]?) : partT P t l (o + f) = some v := by
  have key : ∀ {n : Nat} {r : List C}, slice m f n = some r → slice l (o + f) n = some r := by
    intro n r hr
    obtain ⟨h1, h2, h3⟩ := slice_get hr
    refine slice_of h1 fun j hj => ?_
    have hfj : f + j < m.length := by omega
    rw [h3 j hj, Nat.add_assoc, hs (f + j) hfj]
  unfold partT at h ⊢
  split at h
  · rw [Option.map_eq_some_iff] at h
    obtain ⟨r, h1, h2⟩ := h
    rw [key h1]; exact congrArg some h2
  · split at h
    · rename_i hx
      rw [key hx]; exact h
    · cases h
  · cases h
theorem inR_eq {m : Nat} {i : Int} (h : inR m i = true) : 0 ≤ i ∧ i.toNat < m := by
  unfold inR at h
  rw [decide_eq_true_eq] at h
  omega
theorem loadP_eq {P : Program} {t : TypeId} {k : Blk} {off n f : Nat} {i : Int} {v : V} (h : loadP P t k off i n f = some (true, v)) : (k.win = none ∧ off = 0 ∨ k.win = some off) ∧ partT P t k.real (i.toNat * n + f) = some v := by
  have one : ∀ {kd : IntKind} {l : List Int}, i.toNat < l.length → ∀ j, j < ([C.int kd (getI l i.toNat)] : List C).length → (l.map (C.int kd))[i.toNat * 1 + j]? = [C.int kd (getI l i.toNat)][j]? := by
    intro kd l hl j hj
    obtain rfl : j = 0 := by simpa using hj
    simp [getI, List.getElem?_eq_getElem hl]
  unfold loadP at h
  split at h
  · cases h
  all_goals rename_i ht
  all_goals first | (cases h; done) | skip
  all_goals split at h
  all_goals first | (cases h; done) | skip
  all_goals rename_i hc
  all_goals rw [Option.map_eq_some_iff] at h
  all_goals obtain ⟨u, h1, h2⟩ := h
  all_goals simp only [Prod.mk.injEq, Bool.and_eq_true] at h2
  · obtain ⟨h3, rfl⟩ := h2
    obtain ⟨rfl, rfl⟩ := hc
    refine ⟨.inl ⟨by unfold Blk.win; rw [ht], rfl⟩, ?_⟩
    rw [Blk.real, ht]
    exact part_sub h1 (one (inR_eq h3).2)
  · obtain ⟨h3, rfl⟩ := h2
    obtain ⟨rfl, rfl⟩ := hc
    refine ⟨.inl ⟨by unfold Blk.win; rw [ht], rfl⟩, ?_⟩
    rw [Blk.real, ht]
    exact part_sub h1 fun j hj => flat_row (inR_eq h3).2 (by rw [rowC_length] at hj; exact hj)
  · obtain ⟨⟨h4, h3⟩, rfl⟩ := h2
    obtain rfl := hc
    obtain rfl := Nat.eq_of_beq_eq_true h4
    refine ⟨.inr (by unfold Blk.win; rw [ht]), ?_⟩
    rw [Blk.real, ht]
    exact part_sub h1 (one (inR_eq h3).2)
  · obtain ⟨⟨h4, h3⟩, rfl⟩ := h2
    obtain rfl := hc
    obtain rfl := Nat.eq_of_beq_eq_true h4
    refine ⟨.inr (by unfold Blk.win; rw [ht]), ?_⟩
    rw [Blk.real, ht]
    exact part_sub h1 fun j hj => flat_row (inR_eq h3).2 (by rw [rowC_length] at hj; exact hj)
theorem slice_nil {o n : Nat} {r : List C} (h : slice [] o n = some r) : n = 0 ∧ r = [] := by
  cases n with
  | zero => simp only [slice] at h; cases h; exact ⟨rfl, rfl⟩
  | succ n => cases o <;> simp [slice] at h
theorem slice_zero (l : List C) (o : Nat) : slice l o 0 = some [] := by cases l <;> cases o <;> rfl
theorem slice_real {k : Blk} (hk : k.ok) {o n : Nat} {r : List C} (h : slice k.cells o n = some r) : slice k.real o n = some r := by
  cases ht : k.tab with
  | none => rw [Blk.real_none ht]; exact h
  | some t =>
    rw [hk t ht] at h
    obtain ⟨rfl, rfl⟩ := slice_nil h
    exact slice_zero _ _
theorem part_real {P : Program} {t : TypeId} {k : Blk} (hk : k.ok) {o : Nat} {v : V} (h : partT P t k.cells o = some v) : partT P t k.real o = some v := by
  unfold partT at h ⊢
  split at h
  · rw [Option.map_eq_some_iff] at h
    obtain ⟨l, h1, h2⟩ := h
    rw [slice_real hk h1]; exact congrArg some h2
  · split at h
    · rename_i hx
      rw [slice_real hk hx]; exact h
    · cases h
  · cases h
theorem inB_eq : ∀ (l : List Int) (o : Nat), inB l o = decide (o < l.length)
  | [], o => by simp [inB]
  | x :: l, 0 => by simp [inB]
  | x :: l, o + 1 => by simp [inB, inB_eq l o]
theorem slice_one_of {l : List C} {o : Nat} {x : C} (h : l[o]? = some x) : slice l o 1 = some [x] := by
  induction l generalizing o with
  | nil => simp at h
  | cons a l ih =>
    cases o with
    | zero => simp at h; subst h; simp [slice, slice_zero]
    | succ o => simp at h; simpa [slice] using ih h
theorem loadB_eq {P : Program} {t : TypeId} {k : Blk} {o : Nat} {v : V} (hk : k.ok) (h : loadB P t k o = some (true, v)) : partT P t k.real o = some v := by
  unfold loadB at h
  split at h
  · rename_i ht
    rw [Option.map_eq_some_iff] at h
    obtain ⟨u, h1, h2⟩ := h
    cases h2
    exact part_real hk h1
  · rename_i kd l ht
    split at h
    · rename_i n h1 h2
      simp only [Option.some.injEq, Prod.mk.injEq] at h
      obtain ⟨h3, rfl⟩ := h
      rw [inB_eq, decide_eq_true_eq] at h3
      unfold partT
      rw [Blk.real_some ht, h1, h2]
      have : (Tab.col kd l).cells[o]? = some (.int kd (l.getD o 0)) := by
        simp [Tab.cells, List.getElem?_eq_getElem h3]
      simp only [slice_one_of this]
    · cases h
  · cases h
theorem loadB_win {P : Program} {t : TypeId} {k : Blk} {o : Nat} {r : Bool × V} (h : loadB P t k o = some r) : k.win = none := by
  unfold loadB at h
  unfold Blk.win
  split at h
  · rename_i ht; rw [ht]
  · rename_i ht; rw [ht]
  · cases h
theorem splice_nilC (l : List C) (o : Nat) : splice l o [] = some l := by cases l <;> cases o <;> rfl
theorem splice_one_of {l : List C} {o : Nat} {x : C} (h : o < l.length) : splice l o [x] = some (l.set o x) := by
  induction l generalizing o with
  | nil => simp at h
  | cons a l ih =>
    cases o with
    | zero => simp [splice, splice_nilC]
    | succ o => simp at h; simp [splice, ih h]
theorem rowG_shift : ∀ (sh : List CK) (j : Nat) (a : Int) (r : List Int), rowG sh (j + 1) (a :: r) = rowG sh j r
  | [], j, a, r => rfl
  | s :: sh, j, a, r => by
    simp only [rowG]
    rw [rowG_shift sh (j + 1) a r]
    rfl
theorem uncell_eq : ∀ (xs : List C) (sh : List CK) (r : List Int), uncell xs = some (sh, r) → rowC sh r = xs ∧ sh.length = xs.length
  | [], sh, r, h => by simp only [uncell, Option.some.injEq, Prod.mk.injEq] at h; obtain ⟨rfl, rfl⟩ := h; exact ⟨rfl, rfl⟩
  | .int k n :: l, sh, r, h => by
    simp only [uncell] at h
    split at h
    · rename_i sh' r' hr
      cases h
      obtain ⟨h1, h2⟩ := uncell_eq l sh' r' hr
      refine ⟨?_, by simp [h2]⟩
      show _ :: rowG sh' 1 (n :: r') = _
      rw [rowG_shift]; exact congrArg (C.int k n :: ·) h1
    · cases h
  | .bool b :: l, sh, r, h => by
    simp only [uncell] at h
    split at h
    · rename_i sh' r' hr
      cases h
      obtain ⟨h1, h2⟩ := uncell_eq l sh' r' hr
      refine ⟨?_, by simp [h2]⟩
      show CK.bool.cell (bif b then 1 else 0) :: rowG sh' 1 ((bif b then 1 else 0) :: r') = _
      rw [rowG_shift]
      have : CK.bool.cell (bif b then 1 else 0) = .bool b := by cases b <;> rfl
      rw [this]; exact congrArg (C.bool b :: ·) h1
    · cases h
  | .nilp :: l, sh, r, h => by simp [uncell] at h
  | .ptr _ _ :: l, sh, r, h => by simp [uncell] at h
  | .nils :: l, sh, r, h => by simp [uncell] at h
  | .sl _ _ _ _ :: l, sh, r, h => by simp [uncell] at h
  | .slg _ _ _ :: l, sh, r, h => by simp [uncell] at h
  | .pr _ _ _ _ _ :: l, sh, r, h => by simp [uncell] at h
  | .slw _ _ _ _ _ :: l, sh, r, h => by simp [uncell] at h
  | .slr _ _ :: l, sh, r, h => by simp [uncell] at h
  | .slv _ _ _ _ :: l, sh, r, h => by simp [uncell] at h
  | .fn _ _ :: l, sh, r, h => by simp [uncell] at h
  | .meth _ _ :: l, sh, r, h => by simp [uncell] at h
  | .nilf :: l, sh, r, h => by simp [uncell] at h
  | .nili :: l, sh, r, h => by simp [uncell] at h
  | .nilm :: l, sh, r, h => by simp [uncell] at h
  | .port :: l, sh, r, h => by simp [uncell] at h
  | .mp _ :: l, sh, r, h => by simp [uncell] at h
  | .ifc _ _ :: l, sh, r, h => by simp [uncell] at h
theorem splice_head : ∀ (xs ys rest : List C), xs.length = ys.length → splice (ys ++ rest) 0 xs = some (xs ++ rest)
  | [], [], rest, _ => splice_nilC _ _
  | x :: xs, y :: ys, rest, h => by
    simp only [List.cons_append, splice]
    rw [splice_head xs ys rest (by simpa using h)]
  | [], _ :: _, rest, h => by simp at h
  | _ :: _, [], rest, h => by simp at h
theorem splice_skip : ∀ (ys rest : List C) (o : Nat) (xs r : List C), splice rest o xs = some r → splice (ys ++ rest) (ys.length + o) xs = some (ys ++ r)
  | [], rest, o, xs, r, h => by simpa using h
  | y :: ys, rest, o, [], r, h => by
    rw [splice_nilC] at h ⊢
    cases h; rfl
  | y :: ys, rest, o, x :: xs, r, h => by
    rw [show (y :: ys).length + o = (ys.length + o) + 1 by simp only [List.length_cons]; omega]
    simp only [List.cons_append, splice]
    rw [splice_skip ys rest o (x :: xs) r h]
theorem splice_row {sh : List CK} {r : List Int} : ∀ {l : List (List Int)} {i : Nat}, i < l.length → splice (l.flatMap (rowC sh)) (i * sh.length) (rowC sh r) = some ((l.set i r).flatMap (rowC sh))
  | [], i, h => by simp at h
  | a :: l, 0, h => by
    rw [Nat.zero_mul, List.flatMap_cons, List.set_cons_zero, List.flatMap_cons]
    exact splice_head _ _ _ (by rw [rowC_length, rowC_length])
  | a :: l, i + 1, h => by
    rw [List.flatMap_cons, List.set_cons_succ, List.flatMap_cons, show (i + 1) * sh.length = (rowC sh a).length + i * sh.length by rw [rowC_length, Nat.add_mul]; omega]
    exact splice_skip _ _ _ _ _ (splice_row (by simpa using h))
theorem storeB_win {k k' : Blk} {o : Nat} {xs : List C} {g : Bool} (h : storeB k o xs = some (g, k')) : k.win = none ∧ k'.win = none ∧ k'.wid = k.wid := by
  unfold storeB at h
  unfold Blk.win Blk.wid
  split at h
  · rename_i ht
    split at h
    · cases h; simp only [ht]; trivial
    · cases h
  · rename_i kd l ht
    split at h
    · split at h
      · cases h; simp only [ht]; trivial
      · cases h
    · cases h
  · rename_i sh l ht
    split at h
    · split at h
      · cases h; simp only [ht]; trivial
      · cases h
    · cases h
  · cases h
theorem storeB_mapped {k k' : Blk} {o : Nat} {xs : List C} {g : Bool} (h : storeB k o xs = some (g, k')) : k.mapped = none ∧ k'.mapped = none := by
  unfold storeB at h
  unfold Blk.mapped
  split at h
  · rename_i ht
    split at h
    · cases h; simp only [ht]; trivial
    · cases h
  · rename_i kd l ht
    split at h
    · split at h
      · cases h; simp only [ht]; trivial
      · cases h
    · cases h
  · rename_i sh l ht
    split at h
    · split at h
      · cases h; simp only [ht]; trivial
      · cases h
    · cases h
  · cases h
theorem storeB_virt {k k' : Blk} {o : Nat} {xs : List C} (h : storeB k o xs = some (true, k')) : k.virt = false ∧ k'.virt = false := by
  unfold storeB at h
  split at h
  · rename_i ht
    split at h
    · cases h; exact ⟨Blk.virt_none ht, Blk.virt_none (k := { k with cells := _ }) ht⟩
    · cases h
  · rename_i kd l ht
    split at h
    · split at h
      · simp only [Option.some.injEq, Prod.mk.injEq] at h
        obtain ⟨h3, rfl⟩ := h
        rw [inB_eq, decide_eq_true_eq] at h3
        unfold Blk.virt
        simp only [ht]
        cases l with
        | nil => simp at h3
        | cons a l => cases o <;> simp [emptyL]
      · cases h
    · cases h
  · rename_i sh l ht
    split at h
    · split at h
      · simp only [Option.some.injEq, Prod.mk.injEq] at h
        obtain ⟨h3, rfl⟩ := h
        rw [blt_eq, decide_eq_true_eq] at h3
        unfold Blk.virt
        simp only [ht]
        cases l with
        | nil => simp at h3
        | cons a l => cases (o / sh.length) <;> simp [emptyL]
      · cases h
    · cases h
  · cases h
theorem storeB_eq {k k' : Blk} {o : Nat} {xs : List C} (hk : k.ok) (h : storeB k o xs = some (true, k')) : k'.ok ∧ k'.elem = k.elem ∧ k'.grown = k.grown ∧ splice k.real o xs = some k'.real := by
  unfold storeB at h
  split at h
  · rename_i ht
    split at h
    · rename_i cs hcs
      cases h
      refine ⟨Blk.ok_none ht, rfl, rfl, ?_⟩
      rw [Blk.real_none ht, Blk.real_none (k := { k with cells := cs }) ht]
      exact hcs
    · cases h
  · rename_i kd l ht
    split at h
    · rename_i kd' x
      split at h
      · rename_i hkd
        subst hkd
        simp only [Option.some.injEq, Prod.mk.injEq] at h
        obtain ⟨h3, rfl⟩ := h
        rw [inB_eq, decide_eq_true_eq] at h3
        refine ⟨fun t _ => hk _ ht, rfl, rfl, ?_⟩
        rw [Blk.real_some ht, Blk.real_some (k := { k with tab := some (.col kd' (l.set o x)) }) rfl]
        simp only [Tab.cells]
        rw [splice_one_of (by simpa using h3), List.map_set]
      · cases h
    · cases h
  · rename_i sh l ht
    split at h
    · rename_i sh' r hu
      split at h
      · rename_i hc
        obtain ⟨rfl, hmod⟩ := hc
        simp only [Option.some.injEq, Prod.mk.injEq] at h
        obtain ⟨h3, rfl⟩ := h
        rw [blt_eq, decide_eq_true_eq] at h3
        refine ⟨fun t _ => hk _ ht, rfl, rfl, ?_⟩
        rw [Blk.real_some ht, Blk.real_some (k := { k with tab := some (.rows sh' (l.set (o / sh'.length) r)) }) rfl]
        simp only [Tab.cells]
        obtain ⟨h1, _⟩ := uncell_eq xs sh' r hu
        have ho : o = o / sh'.length * sh'.length := by
          have := Nat.div_add_mod o sh'.length
          rw [hmod, Nat.mul_comm] at this
          omega
        have := splice_row (sh := sh') (r := r) h3
        rw [← ho, h1] at this
        exact this
      · cases h
    · cases h
  · cases h

/-! ### reading -/
theorem cell_of {w : World} {r o : Nat} {c : Array Value} {t : TypeId} {f : Nat × Nat} (h : w.heap[r]? = some (.cells c t f)) : w.cell? ⟨r, o, none⟩ = c[o]? := by
  simp [World.cell?, h]
theorem loadCellsFrom_run (P : Program) (w : World) (r o : Nat) : ∀ (n i : Nat) (vs : List Value) (acc : Array Value), vs.length = n → (∀ j, j < n → w.cell? ⟨r, o + (i + j), none⟩ = vs[j]?) →
    (loadCellsFrom ⟨r, o, none⟩ i n acc).run P w = .ok (acc ++ vs.toArray) w
  | 0, i, vs, acc, hl, h => by
    obtain rfl := List.length_eq_zero_iff.1 hl
    simp [loadCellsFrom, pure, Sem.run]
  | n + 1, i, [], acc, hl, h => by simp at hl
  | n + 1, i, v :: vs, acc, hl, h => by
    have h0 := h 0 (by omega)
    simp only [Nat.add_zero, List.getElem?_cons_zero] at h0
    have ha : (⟨r, o, none⟩ : Addr).add i = ⟨r, o + i, none⟩ := by
      unfold Addr.add
      split
      · rename_i hi; subst hi; rfl
      · rfl
    have ih := loadCellsFrom_run P w r o n (i + 1) vs (acc.push v) (by simpa using hl) fun j hj => by
      have := h (j + 1) (by omega)
      rw [show i + 1 + j = i + (j + 1) by omega, this]
      simp
    simp only [loadCellsFrom, ha, load, bind, Sem.bind, Sem.run, h0, ih]
    simp
theorem isAgg_run {P : Program} {t : TypeId} {d : TypeDesc} (h : P.underlying t = some d) (w : World) : (isAgg t).run P w = .ok (isAggD d) w := by
  simp only [isAgg, underlying, program, bind, Sem.bind, Sem.run, h]
  cases d <;> rfl
theorem sizeOf_run {P : Program} {t : TypeId} {n : Nat} (h : sizeT P t = some n) (w : World) : (sizeOf t).run P w = .ok n w := by
  unfold sizeT at h
  rw [Option.map_eq_some_iff] at h
  obtain ⟨i, hi, rfl⟩ := h
  simp [sizeOf, typeInfo, program, bind, Sem.bind, Sem.run, hi, pure]
theorem underlying_run {P : Program} {t : TypeId} {d : TypeDesc} (h : P.underlying t = some d) (w : World) : (underlying t).run P w = .ok d w := by
  simp [underlying, program, bind, Sem.bind, Sem.run, h, pure]
theorem slice_one {l : List C} {o : Nat} {x : C} (h : slice l o 1 = some [x]) : l[o]? = some x := by
  have := ((slice_eq l o 1 [x] h).2 0 (by omega)).1
  simpa using this.symm
/-- what a place of a row reads as. -/
theorem part_loadC {pv : Value} {P : Program} {e : Env} {cells : List C} {cs : List Value} {w : World} {r q o : Nat} {t : TypeId} {v : V}
    (hd : denL pv e cells = some cs) (hw : ∀ j u, cs[j]? = some u → w.cell? ⟨r, q + j, none⟩ = some u) (h : partT P t cells o = some v) :
    ∃ rv, (loadVar t ⟨r, q + o, none⟩).run P w = .ok rv w ∧ denV pv e v = some rv := by
  unfold partT aggOf at h
  split at h
  · rename_i n hu hn
    rw [Option.map_eq_some_iff] at hu
    obtain ⟨d, hd', hda⟩ := hu
    rw [Option.map_eq_some_iff] at h
    obtain ⟨l, hl, rfl⟩ := h
    have hle : denL pv e l = some (cs.extract o (o + n)) ∧ (n = 0 ∨ o + n ≤ cs.length) := by
      rcases denL_slice hd hl with ⟨h1, h2⟩ | ⟨rfl, rfl⟩
      · exact ⟨h1, .inr h2⟩
      · exact ⟨by simp [denL], .inl rfl⟩
    refine ⟨.agg (cs.extract o (o + n)).toArray, ?_, by simp [denV, hle.1]⟩
    have hr := loadCellsFrom_run P w r (q + o) n 0 (cs.extract o (o + n)) #[] (by simp; omega) fun j hj => by
      have hlt : o + j < cs.length := by omega
      rw [show q + o + (0 + j) = q + (o + j) by omega, hw (o + j) _ (List.getElem?_eq_getElem hlt), List.extract_eq_take_drop, List.getElem?_take, if_pos (by omega), List.getElem?_drop, List.getElem?_eq_getElem hlt]
    simp only [loadVar, Sem.run_bind, isAgg_run hd', Result.andThen_ok, hda, if_true, sizeOf_run hn, loadCells, hr, Sem.run_pure]
    simp
  · rename_i n hu hn
    rw [Option.map_eq_some_iff] at hu
    obtain ⟨d, hd', hda⟩ := hu
    split at h
    · rename_i x hx
      cases h
      obtain ⟨rv, h1, h2⟩ := denL_get hd (slice_one hx)
      refine ⟨rv, ?_, h1⟩
      have hc := hw o rv h2
      simp [loadVar, isAgg_run hd', hda, hc]
    · cases h
  · cases h
theorem part_load {pv : Value} {P : Program} {e : Env} {cells : List C} {cs tl : List Value} {w : World} {r o : Nat} {el t : TypeId} {v : V} {f : Nat × Nat}
    (hd : denL pv e cells = some cs) (hw : w.heap[r]? = some (.cells (cs ++ tl).toArray el f)) (h : partT P t cells o = some v) :
    ∃ rv, (loadVar t ⟨r, o, none⟩).run P w = .ok rv w ∧ denV pv e v = some rv := by
  have := part_loadC (P := P) (q := 0) hd (fun j u hj => by
    rw [Nat.zero_add, cell_of hw, List.getElem?_toArray, List.getElem?_append_left (List.getElem?_eq_some_iff.1 hj).1, hj]) h
  rwa [Nat.zero_add] at this
theorem part_run {pv : Value} {P : Program} {e : Env} {cells : List C} {cs : List Value} {w : World} {o : Nat} {t : TypeId} {v : V}
    (hd : denL pv e cells = some cs) (h : partT P t cells o = some v) :
    ∃ rv, (part t cs.toArray o).run P w = .ok rv w ∧ denV pv e v = some rv := by
  unfold partT aggOf at h
  split at h
  · rename_i n hu hn
    rw [Option.map_eq_some_iff] at hu
    obtain ⟨d, hd', hda⟩ := hu
    rw [Option.map_eq_some_iff] at h
    obtain ⟨l, hl, rfl⟩ := h
    have hle : denL pv e l = some (cs.extract o (o + n)) := by
      rcases denL_slice hd hl with ⟨h1, h2⟩ | ⟨rfl, rfl⟩
      · exact h1
      · simp [denL]
    refine ⟨.agg (cs.extract o (o + n)).toArray, ?_, by simp [denV, hle]⟩
    simp [part, isAgg_run hd', hda, sizeOf_run hn]
  · rename_i n hu hn
    rw [Option.map_eq_some_iff] at hu
    obtain ⟨d, hd', hda⟩ := hu
    split at h
    · rename_i x hx
      cases h
      obtain ⟨rv, h1, h2⟩ := denL_get hd (slice_one hx)
      refine ⟨rv, ?_, h1⟩
      simp [part, isAgg_run hd', hda, h2]
    · cases h
  · cases h

/-! ### writing -/
theorem setCell_eq {w : World} {r o : Nat} {c : Array Value} {t : TypeId} {f : Nat × Nat} (h : w.heap[r]? = some (.cells c t f)) (v : Value) :
    w.setCell ⟨r, o, none⟩ v = { w with heap := w.heap.setIfInBounds r (.cells (c.setIfInBounds o v) t f) } := by
  obtain ⟨hr, hc⟩ := Array.getElem?_eq_some_iff.1 h
  simp only [World.setCell]
  congr 1
  apply Array.ext
  · simp
  · intro i h1 h2
    rw [Array.getElem_modify]
    split
    · rename_i hi; subst hi; simp [hc]
    · rename_i hi
      rw [Array.getElem_setIfInBounds_ne _ hi]
theorem storeCells_run (P : Program) (r o : Nat) (el : TypeId) : ∀ (vs : List Value) (i : Nat) (w : World) (cs : List Value), w.heap[r]? = some (.cells cs.toArray el (0, 0)) → (∀ v ∈ vs, One v) → o + i + vs.length ≤ cs.length →
    (storeCells ⟨r, o, none⟩ vs i).run P w = .ok () { w with heap := w.heap.setIfInBounds r (.cells (put cs (o + i) vs).toArray el (0, 0)) }
  | [], i, w, cs, hw, h1, hl => by
    obtain ⟨hr, hc⟩ := Array.getElem?_eq_some_iff.1 hw
    simp only [storeCells, Sem.run_pure, put]
    congr 1
    have : w.heap.setIfInBounds r (.cells cs.toArray el (0, 0)) = w.heap := by
      rw [← hc, Array.setIfInBounds_def, dif_pos hr, Array.set_getElem_self]
    rw [this]
  | v :: vs, i, w, cs, hw, h1, hl => by
    simp only [List.length_cons] at hl
    have ha : (⟨r, o, none⟩ : Addr).add i = ⟨r, o + i, none⟩ := by
      unfold Addr.add
      split
      · rename_i hi; subst hi; rfl
      · rfl
    have hcell : ∃ u, w.cell? ⟨r, o + i, none⟩ = some u := by
      rw [cell_of hw]
      exact ⟨cs[o + i]'(by omega), by simp⟩
    obtain ⟨u, hu⟩ := hcell
    have hfz : w.frozen? ⟨r, o + i, none⟩ = false := by simp [World.frozen?, hw]
    have hv := h1 v (by simp)
    have hst : (store ⟨r, o + i, none⟩ v).run P w = .ok () (w.setCell ⟨r, o + i, none⟩ v) := by
      cases v with
      | agg c => exact absurd rfl (hv.1 c)
      | tuple c => exact absurd rfl (hv.2 c)
      | _ => simp only [store, Sem.run, hu, hfz]; rfl
    obtain ⟨hr, hc⟩ := Array.getElem?_eq_some_iff.1 hw
    have hw1 : (w.setCell ⟨r, o + i, none⟩ v).heap[r]? = some (.cells (cs.set (o + i) v).toArray el (0, 0)) := by
      rw [setCell_eq hw]
      simp [hr]
    have ih := storeCells_run P r o el vs (i + 1) (w.setCell ⟨r, o + i, none⟩ v) (cs.set (o + i) v) hw1 (fun x hx => h1 x (by simp [hx])) (by simp; omega)
    simp only [storeCells, ha, Sem.run_bind, hst, Result.andThen_ok, ih]
    congr 1
    rw [setCell_eq hw]
    simp only [put, Nat.add_assoc, Array.setIfInBounds_setIfInBounds]
theorem Emb.stored {pv : Value} {e : Env} {H : Heap} {w : World} (E : Emb pv e H w) {b : Nat} {k kn : Blk} {r : Nat × Nat} {vs' tl : List Value} (hk : blkAt H b = some k) (hr : e[b]? = some r)
    (hd : denL pv e kn.real = some vs') (hok : kn.ok) (hel : kn.elem = k.elem) (hgr : kn.grown = k.grown) (hkw : k.win = none) (hnw : kn.win = none) (hkv : k.virt = false) (hnv : kn.virt = false) (hwd : kn.wid = k.wid) (h1 : k.grown = false → tl = []) (h2 : k.grown = true → (vs' ++ tl).length = r.2 * k.wid ∧ r.2 ≤ maxLen) (hkm : k.mapped = none) (hnm : kn.mapped = none) :
    Emb pv e (setB H b (some kn)) { w with heap := w.heap.setIfInBounds r.1 (.cells (vs' ++ tl).toArray k.elem (0, 0)) } := by
  obtain ⟨r0, cs0, tl0, hr0, _, hw0, _, _⟩ := E.row b k hk hkw hkv hkm
  rw [hr] at hr0
  cases hr0
  obtain ⟨hlt, _⟩ := Array.getElem?_eq_some_iff.1 hw0
  have hset : ∀ i k', blkAt (setB H b (some kn)) i = some k' → (i = b ∧ k' = kn) ∨ (i ≠ b ∧ blkAt H i = some k') := by
    intro i k' h
    rw [setB_eq, blkAt_eq, List.getElem?_set] at h
    split at h
    · rename_i hi
      subst hi
      split at h
      · simp at h; exact .inl ⟨rfl, h.symm⟩
      · simp at h
    · rename_i hi
      exact .inr ⟨fun h => hi h.symm, by rw [blkAt_eq]; exact h⟩
  refine ⟨by rw [setB_eq, List.length_set]; exact E.len, fun i k' hk' => ?_, fun i j k' k'' r1 r2 h3 h4 h5 h6 h7 v1 v2 => ?_, fun i k' hk' => ?_⟩
  rotate_right
  · rcases hset i k' hk' with ⟨_, rfl⟩ | ⟨_, h⟩
    · exact hok
    · exact E.ok i k' h
  · rcases hset i k' hk' with ⟨rfl, rfl⟩ | ⟨hne, hk'⟩
    · exact ⟨r, vs', hr, hd, Lies.mk (tl := tl) hnw (by simp [hlt, hel]) (fun h => h1 (hgr.symm.trans h)) (fun h => by rw [hwd]; exact h2 (hgr.symm.trans h)) hnm⟩
    · obtain ⟨r', cs, hr', hd', hw'⟩ := E.lies i k' hk'
      refine ⟨r', cs, hr', hd', hw'.same fun hv => ?_⟩
      have : r.1 ≠ r'.1 := fun h => hne (E.inj i b k' k r' r hk' hk hr' hr h.symm hv hkv (.inr hkw))
      simp [Array.getElem?_setIfInBounds, this]
  · have g1 : ∃ k1, blkAt H i = some k1 ∧ k1.win.isSome = k'.win.isSome ∧ k1.virt = false := by rcases hset i k' h3 with ⟨h, h'⟩ | ⟨_, h⟩ <;> first | exact ⟨k, h ▸ hk, by rw [h', hkw, hnw], hkv⟩ | exact ⟨_, h, rfl, v1⟩
    have g2 : ∃ k1, blkAt H j = some k1 ∧ k1.win.isSome = k''.win.isSome ∧ k1.virt = false := by rcases hset j k'' h4 with ⟨h, h'⟩ | ⟨_, h⟩ <;> first | exact ⟨k, h ▸ hk, by rw [h', hkw, hnw], hkv⟩ | exact ⟨_, h, rfl, v2⟩
    obtain ⟨k1, g1, g3, g5⟩ := g1
    obtain ⟨k2, g2, g4, g6⟩ := g2
    rw [← g3, ← g4]
    exact E.alone i j k1 k2 r1 r2 g1 g2 h5 h6 h7 g5 g6
theorem own_stored {e : Env} {H : Heap} {b : Nat} {k kn : Blk} (hk : blkAt H b = some k) (hkn : kn.win = none → k.win = none) (hkv : k.virt = false) {q : Bool} {x : Nat} (h : Own q e (setB H b (some kn)) x) : Own q e H x := by
  obtain ⟨i, k', r, h1, h2, h3, hv, h4⟩ := h
  rw [setB_eq, blkAt_eq, List.getElem?_set] at h1
  split at h1
  · rename_i hi
    subst hi
    refine ⟨b, k, r, hk, h2, h3, hkv, fun hq => hkn ?_⟩
    split at h1
    · simp only [Option.join_some, Option.some.injEq] at h1
      rw [h1]; exact h4 hq
    · simp at h1
  · exact ⟨i, k', r, by rw [blkAt_eq]; exact h1, h2, h3, hv, h4⟩

/-! ### new blocks -/
theorem heap_alloc (w : World) (o : Obj) : (w.alloc o).heap = w.heap.push o := rfl
theorem blkAt_new (H : Heap) (k : Blk) (i : Nat) : blkAt (newB H k) i = if i = H.length then some k else blkAt H i := by
  rw [blkAt_eq, blkAt_eq, newB]
  by_cases h : i < H.length
  · rw [List.getElem?_append_left h, if_neg (by omega)]
  · by_cases h2 : i = H.length
    · subst h2; simp
    · rw [if_neg h2, List.getElem?_eq_none (by simp; omega), List.getElem?_eq_none (by omega)]
theorem Emb.made {pv : Value} {e : Env} {H : Heap} {w : World} (E : Emb pv e H w) {cs : List C} {vs : List Value} (t : TypeId) (hd : denL pv e cs = some vs) (cap : Nat) :
    Emb pv (e ++ [(w.heap.size, cap)]) (newB H ⟨cs, t, false, none⟩) (w.alloc (.cells vs.toArray t)) := by
  have hx : Ext e (e ++ [(w.heap.size, cap)]) := ⟨_, rfl⟩
  have hlen := E.len
  have hsplit : ∀ i k, blkAt (newB H ⟨cs, t, false, none⟩) i = some k → (i = H.length ∧ k = ⟨cs, t, false, none⟩) ∨ (blkAt H i = some k ∧ i < H.length) := by
    intro i k h
    rw [blkAt_new] at h
    split at h
    · cases h; exact .inl ⟨‹_›, rfl⟩
    · refine .inr ⟨h, ?_⟩
      rw [blkAt_eq] at h
      by_cases hi : i < H.length
      · exact hi
      · rw [List.getElem?_eq_none (by omega)] at h; simp at h
  refine ⟨by simp [newB, hlen], fun i k hk => ?_, fun i j k k' r r' hk hk' hr hr' he v1 v2 => ?_, fun i k hk => ?_⟩
  rotate_right
  · rcases hsplit i k hk with ⟨_, rfl⟩ | ⟨h, _⟩
    · intro t ht; cases ht
    · exact E.ok i k h
  · rcases hsplit i k hk with ⟨rfl, rfl⟩ | ⟨hk, hi⟩
    · refine ⟨(w.heap.size, cap), vs, by simp [hlen], denL_ext hx _ _ hd, Lies.mk (tl := []) rfl (by rw [heap_alloc]; simp) (fun _ => rfl) (fun h => by cases h)⟩
    · obtain ⟨r, cs', hr, hd', hw⟩ := E.lies i k hk
      refine ⟨r, cs', hx.get hr, denL_ext hx _ _ hd', hw.same fun hv => ?_⟩
      rw [heap_alloc, Array.getElem?_push, if_neg (Nat.ne_of_lt (hw.lt hv))]
  · have old : ∀ i k r, blkAt H i = some k → k.virt = false → i < H.length → (e ++ [(w.heap.size, cap)])[i]? = some r → e[i]? = some r ∧ r.1 < w.heap.size := by
      intro i k r hk hv hi hr
      rw [List.getElem?_append_left (by omega)] at hr
      exact ⟨hr, E.own_lt (own_any hk hr hv)⟩
    have new : ∀ r, (e ++ [(w.heap.size, cap)])[H.length]? = some r → r.1 = w.heap.size := by
      intro r hr
      rw [hlen, List.getElem?_append_right (by omega)] at hr
      simp at hr
      simp [← hr]
    rcases hsplit i k hk with ⟨rfl, rfl⟩ | ⟨hk, hi⟩ <;> rcases hsplit j k' hk' with ⟨rfl, rfl⟩ | ⟨hk', hj⟩
    · exact .inl rfl
    · have := new r hr; have := (old j k' r' hk' v2 hj hr').2; omega
    · have := new r' hr'; have := (old i k r hk v1 hi hr).2; omega
    · exact E.alone i j k k' r r' hk hk' (old i k r hk v1 hi hr).1 (old j k' r' hk' v2 hj hr').1 he v1 v2
theorem Emb.madeMap {pv : Value} {e : Env} {H : Heap} {w : World} (E : Emb pv e H w) (g : Bool) (sh : List CK) (t : TypeId) :
    Emb pv (e ++ [(w.heap.size, 0)]) (newB H ⟨[], t, false, some (.imap g sh [])⟩) (w.alloc (.map #[] 0)) := by
  have hx : Ext e (e ++ [(w.heap.size, 0)]) := ⟨_, rfl⟩
  have hlen := E.len
  generalize hkn : (⟨[], t, false, some (.imap g sh [])⟩ : Blk) = kn
  have hsplit : ∀ i k, blkAt (newB H kn) i = some k → (i = H.length ∧ k = kn) ∨ (blkAt H i = some k ∧ i < H.length) := by
    intro i k h
    rw [blkAt_new] at h
    split at h
    · cases h; exact .inl ⟨‹_›, rfl⟩
    · refine .inr ⟨h, ?_⟩
      rw [blkAt_eq] at h
      by_cases hi : i < H.length
      · exact hi
      · rw [List.getElem?_eq_none (by omega)] at h; simp at h
  refine ⟨by simp [newB, hlen], fun i k hk => ?_, fun i j k k' r r' hk hk' hr hr' he v1 v2 => ?_, fun i k hk => ?_⟩
  rotate_right
  · rcases hsplit i k hk with ⟨_, rfl⟩ | ⟨h, _⟩
    · subst hkn; intro t ht; rfl
    · exact E.ok i k h
  · rcases hsplit i k hk with ⟨rfl, rfl⟩ | ⟨hk, hi⟩
    · refine ⟨(w.heap.size, 0), [], by simp [hlen], by subst hkn; rfl, .inr ?_⟩
      have hm : k.mapped = some (g, sh, []) := by subst hkn; rfl
      rw [hm]
      exact ⟨by rw [heap_alloc]; simp, MapIs.made w g sh⟩
    · obtain ⟨r, cs', hr, hd', hw⟩ := E.lies i k hk
      refine ⟨r, cs', hx.get hr, denL_ext hx _ _ hd', hw.same fun hv => ?_⟩
      rw [heap_alloc, Array.getElem?_push, if_neg (Nat.ne_of_lt (hw.lt hv))]
  · have old : ∀ i k r, blkAt H i = some k → k.virt = false → i < H.length → (e ++ [(w.heap.size, 0)])[i]? = some r → e[i]? = some r ∧ r.1 < w.heap.size := by
      intro i k r hk hv hi hr
      rw [List.getElem?_append_left (by omega)] at hr
      exact ⟨hr, E.own_lt (own_any hk hr hv)⟩
    have new : ∀ r, (e ++ [(w.heap.size, 0)])[H.length]? = some r → r.1 = w.heap.size := by
      intro r hr
      rw [hlen, List.getElem?_append_right (by omega)] at hr
      simp at hr
      simp [← hr]
    rcases hsplit i k hk with ⟨hi, _⟩ | ⟨hk1, hi⟩ <;> rcases hsplit j k' hk' with ⟨hj, _⟩ | ⟨hk2, hj⟩
    · exact .inl (hi.trans hj.symm)
    · subst hi; have := new r hr; have := (old j k' r' hk2 v2 hj hr').2; omega
    · subst hj; have := new r' hr'; have := (old i k r hk1 v1 hi hr).2; omega
    · exact E.alone i j k k' r r' hk1 hk2 (old i k r hk1 v1 hi hr).1 (old j k' r' hk2 v2 hj hr').1 he v1 v2
/-- a map is turned. -/
theorem Emb.turned {pv : Value} {e : Env} {H : Heap} {w w' : World} (E : Emb pv e H w) {b : Nat} {k kn : Blk} {r : Nat × Nat} {m m' : Bool × List CK × List (List Int)} (hk : blkAt H b = some k) (hr : e[b]? = some r) (hm : k.mapped = some m) (hn : kn.mapped = some m') (hok : kn.ok)
    (hw : MapIs w' r.1 m') (hg : w.grownBy w' (some r.1)) : Emb pv e (setB H b (some kn)) w' := by
  obtain ⟨hkw, hkv, _, _⟩ := Blk.mapped_win hm
  obtain ⟨hnw, hnv, hnr, _⟩ := Blk.mapped_win hn
  have hlt : r.1 < w.heap.size := E.own_lt (own_any hk hr hkv)
  have hset : ∀ i k', blkAt (setB H b (some kn)) i = some k' → (i = b ∧ k' = kn) ∨ (i ≠ b ∧ blkAt H i = some k') := by
    intro i k' h
    rw [setB_eq, blkAt_eq, List.getElem?_set] at h
    split at h
    · rename_i hi
      subst hi
      split at h
      · simp at h; exact .inl ⟨rfl, h.symm⟩
      · simp at h
    · rename_i hi
      exact .inr ⟨fun h => hi h.symm, by rw [blkAt_eq]; exact h⟩
  refine ⟨by rw [setB_eq, List.length_set]; exact E.len, fun i k' hk' => ?_, fun i j k' k'' r1 r2 h3 h4 h5 h6 h7 v1 v2 => ?_, fun i k' hk' => ?_⟩
  rotate_right
  · rcases hset i k' hk' with ⟨_, rfl⟩ | ⟨_, h⟩
    · exact hok
    · exact E.ok i k' h
  · rcases hset i k' hk' with ⟨rfl, rfl⟩ | ⟨hne, hk'⟩
    · refine ⟨r, [], hr, by rw [hnr]; rfl, .inr ?_⟩
      rw [hn]
      exact ⟨Nat.lt_of_lt_of_le hlt hg.size, hw⟩
    · obtain ⟨r', cs, hr', hd', hw'⟩ := E.lies i k' hk'
      refine ⟨r', cs, hr', hd', hw'.same fun hv => ?_⟩
      have : r.1 ≠ r'.1 := fun h => hne (E.inj i b k' k r' r hk' hk hr' hr h.symm hv hkv (.inr hkw))
      exact hg.block r'.1 (hw'.lt hv) (by simp; exact fun h => this h.symm)
  · have g1 : ∃ k1, blkAt H i = some k1 ∧ k1.win.isSome = k'.win.isSome ∧ k1.virt = false := by rcases hset i k' h3 with ⟨h, h'⟩ | ⟨_, h⟩ <;> first | exact ⟨k, h ▸ hk, by rw [h', hkw, hnw], hkv⟩ | exact ⟨_, h, rfl, v1⟩
    have g2 : ∃ k1, blkAt H j = some k1 ∧ k1.win.isSome = k''.win.isSome ∧ k1.virt = false := by rcases hset j k'' h4 with ⟨h, h'⟩ | ⟨_, h⟩ <;> first | exact ⟨k, h ▸ hk, by rw [h', hkw, hnw], hkv⟩ | exact ⟨_, h, rfl, v2⟩
    obtain ⟨k1, g1, g3, g5⟩ := g1
    obtain ⟨k2, g2, g4, g6⟩ := g2
    rw [← g3, ← g4]
    exact E.alone i j k1 k2 r1 r2 g1 g2 h5 h6 h7 g5 g6
theorem own_made {pv : Value} {e : Env} {H : Heap} {w : World} (E : Emb pv e H w) {k : Blk} {cap x : Nat} {q : Bool} (h : Own q (e ++ [(w.heap.size, cap)]) (newB H k) x) : Own q e H x ∨ x = w.heap.size := by
  obtain ⟨i, k', r, h1, h2, h3, hv, h4⟩ := h
  rw [blkAt_new] at h1
  split at h1
  · rename_i hi
    right
    rw [hi, E.len, List.getElem?_append_right (by omega)] at h2
    simp at h2
    rw [← h3, ← h2]
  · left
    have : i < H.length := by
      rw [blkAt_eq] at h1
      by_cases hi : i < H.length
      · exact hi
      · rw [List.getElem?_eq_none (by omega)] at h1; simp at h1
    rw [List.getElem?_append_left (by rw [← E.len]; exact this)] at h2
    exact ⟨i, k', r, h1, h2, h3, hv, h4⟩
end Go.Proofs.Ytjcdojcbdfblbaa.Lx
