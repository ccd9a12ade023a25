/- appending events to a row of the call's own: a whole slice that came in; in plain regions and in drawn ones. -/
import Derived.Test.YtoaaoggggjjbaaaTaken
import Derived.Maps.AppendAt
import Derived.Deep.AppendLies
import Derived.RegionTactic
import Derived.OwnWalk
namespace Go.Proofs.Ytoaaoggggjjbaaa
open Go.RowKit Go.Deep
theorem flat_len (es : List Ev) : (es.flatMap Ev.cells).length = es.length * 24 := by
  induction es with
  | nil => rfl
  | cons e es ih => rw [List.flatMap_cons, List.length_append, ih, Ev.cells_length, List.length_cons]; omega
theorem flat_one (es : List Ev) : ∀ u ∈ es.flatMap Ev.cells, u.oneCell' = true := by
  intro u hu
  obtain ⟨e, _, h⟩ := List.mem_flatMap.1 hu
  exact e.oneCell u h
theorem EvRow.cells {w : World} {B : Nat} {b o n c : Nat} {es : List Ev} (h : EvRow w B (some ⟨b, o, none⟩) n c es) : ∀ j u, (es.flatMap Ev.cells)[j]? = some u → w.cell? ((⟨b, o, none⟩ : Addr).add j) = some u := fun j u hu => by
  have hj : j < es.length * 24 := by
    rcases Nat.lt_or_ge j (es.length * 24) with h | h
    · exact h
    · rw [List.getElem?_eq_none (by rw [flat_len]; exact h)] at hu; cases hu
  have hn : 0 < n := by have := h.1; omega
  obtain ⟨b', o', e1, _, hr⟩ := h.2.2.2.2 hn
  injection e1 with e1
  injection e1 with e1 e2
  subst e1 e2
  have hi : j / 24 < es.length := by omega
  have hx := hr (j / 24) es[j / 24] (List.getElem?_eq_getElem hi) (j % 24)
  have hg := flat_get es (j / 24) es[j / 24] (List.getElem?_eq_getElem hi) (j % 24) (by omega)
  rw [show j / 24 * 24 + j % 24 = j by omega, hu] at hg
  have := hx u hg.symm
  have hadd : (⟨b, o, none⟩ : Addr).add j = ⟨b, o + j, none⟩ := by unfold Addr.add; split <;> simp_all
  rw [hadd]
  rw [show o + j / 24 * 24 + j % 24 = o + j by omega] at this
  exact this
theorem Try.append_run (w : World) (base : Nat) (v : Value) (k : Nat) (xs : List Value) (hown : w.ownsRow base 35 24 v k xs) (hbase : base ≤ w.heap.size)
    (B : Nat) (A : Option Addr) (n c : Nat) (es : List Ev) (hE : EvRow w B A n c es) (hk : k ≤ 1000) (hn : n ≤ 1000) (ty : TypeId) :
    ∃ v' w', (Builtin.append_ #[22, 22] ty #[v, .slice A n c]).run Try.prog w = .ok v' w' ∧ w'.ownsRow base 35 24 v' (k + n) (xs ++ es.flatMap Ev.cells) ∧ w.grownBy w' v.ownBlock := by
  obtain ⟨i0, hi, hz0, hz1, hz2⟩ := info_parts Try.info_event
  rcases A with _ | ad
  · have h0 : n = 0 := by
      rcases Nat.eq_zero_or_pos n with h | h
      · exact h
      · obtain ⟨b, o, e, _⟩ := hE.2.2.2.2 h
        cases e
    subst h0
    have hes : es = [] := List.eq_nil_of_length_eq_zero hE.1
    subst hes
    refine ⟨v, w, ?_, by simpa using hown, World.grownBy.refl w _⟩
    rcases hown.2 with ⟨rfl, rfl⟩ | ⟨g, cap, cur, rfl, _, _, hnc, _⟩
    · simp [Builtin.append_, run_underlying Try.underlying22, sizeOf, typeInfo, hi, Builtin.lenOf, Builtin.firstCells]
    · simp [Builtin.append_, run_underlying Try.underlying22, sizeOf, typeInfo, hi, Builtin.lenOf, Builtin.firstCells, hnc, storeCells]
  · have hc : ∀ j u, (es.flatMap Ev.cells)[j]? = some u → w.cell? (ad.add j) = some u := by
      rcases Nat.eq_zero_or_pos n with h | h
      · have hes : es = [] := List.eq_nil_of_length_eq_zero (by rw [hE.1, h])
        subst hes
        intro j u hu
        simp at hu
      · obtain ⟨b, o, e, _⟩ := hE.2.2.2.2 h
        injection e with e
        subst e
        exact hE.cells
    obtain ⟨v', w', hrun, h2, h3, _, _⟩ := run_append_own_at (P := Try.prog) w base 22 ty 35 i0 _ 24 192 Try.underlying22 hi hz0 hz1 hz2 rfl (by decide) v k xs hown ad n c (es.flatMap Ev.cells)
      (by rw [flat_len, hE.1]) hc (flat_one es) (by unfold maxLen; omega) (by omega) hbase
    exact ⟨v', w', hrun, h2, h3⟩
theorem wp_append_evs {w : World} {o : Oper} {a : Act} {K : Act → World → Prop} {Q : Exit → Act → World → Prop} (s x : Operand)
    (ho : o.op = .call { callee := .builtin .append, args := #[s, x], argTypes := #[22, 22] })
    (base : Nat) (v : Value) (k : Nat) (xs : List Value) (hs : a.eval s = v) (hown : w.ownsRow base 35 24 v k xs) (hbase : base ≤ w.heap.size)
    (B : Nat) (A : Option Addr) (n c : Nat) (es : List Ev) (hx : a.eval x = .slice A n c) (hE : EvRow w B A n c es) (hk : k ≤ 1000) (hn : n ≤ 1000)
    (h : ∀ v' w', w'.ownsRow base 35 24 v' (k + n) (xs ++ es.flatMap Ev.cells) → w.grownBy w' v.ownBlock → K (a.put o.dst v') w') : o.wp Try.prog a w K Q := by
  obtain ⟨v', w', hrun, h2, h3⟩ := Try.append_run w base v k xs hown hbase B A n c es hE hk hn o.type
  unfold Oper.wp execOp
  simp only [ho, resolve, invoke, builtin, Sem.run_bind, Sem.run_pure, Result.andThen_ok, List.map_toArray, List.map_cons, List.map_nil, hs, hx, hrun]
  exact h v' w' h2 h3
theorem wpList_append_evs {w : World} {ops : Array Oper} {rest : List Oper} {o : Oper} {a : Act} {Q : Exit → Act → World → Prop} (hgd : o.guard = none) (s x : Operand)
    (ho : o.op = .call { callee := .builtin .append, args := #[s, x], argTypes := #[22, 22] })
    (base : Nat) (v : Value) (k : Nat) (xs : List Value) (hs : a.eval s = v) (hown : w.ownsRow base 35 24 v k xs) (hbase : base ≤ w.heap.size)
    (B : Nat) (A : Option Addr) (n c : Nat) (es : List Ev) (hx : a.eval x = .slice A n c) (hE : EvRow w B A n c es) (hk : k ≤ 1000) (hn : n ≤ 1000)
    (h : ∀ v' w', w'.ownsRow base 35 24 v' (k + n) (xs ++ es.flatMap Ev.cells) → w.grownBy w' v.ownBlock → wpList Try.prog ops Q rest (a.put o.dst v') w') : wpList Try.prog ops Q (o :: rest) a w :=
  wpList_plain hgd fun _ hK => wp_append_evs s x ho base v k xs hs hown hbase B A n c es hx hE hk hn fun v' w' h2 h3 => hK _ _ (h v' w' h2 h3)
theorem step_append_evs {w : World} {ops : Array Oper} {o : Oper} {a : Act} {K : Act → World → Prop} {Q : Exit → Act → World → Prop} {E : Prop} (hgd : o.guard = none) (s x : Operand)
    (ho : o.op = .call { callee := .builtin .append, args := #[s, x], argTypes := #[22, 22] })
    (base : Nat) (v : Value) (k : Nat) (xs : List Value) (hs : a.eval s = v) (hown : w.ownsRow base 35 24 v k xs) (hbase : base ≤ w.heap.size)
    (B : Nat) (A : Option Addr) (n c : Nat) (es : List Ev) (hx : a.eval x = .slice A n c) (hE : EvRow w B A n c es) (hk : k ≤ 1000) (hn : n ≤ 1000)
    (h : ∀ v' w', w'.ownsRow base 35 24 v' (k + n) (xs ++ es.flatMap Ev.cells) → w.grownBy w' v.ownBlock → K (a.put o.dst v') w') :
    if Region.wanted o (yielded ops a.tmps) = true then Oper.wp Try.prog o a w K Q else E := by
  have hw : Region.wanted o (yielded ops a.tmps) = true := by simp [Region.wanted, hgd]
  rw [if_pos hw]
  exact wp_append_evs s x ho base v k xs hs hown hbase B A n c es hx hE hk hn h
theorem Try.buildSlice_none (w : World) : (Instr.buildSlice 22 0 #[]).run Try.prog w = .ok (.slice (some ⟨w.heap.size, 0, none⟩) 0 0) (w.alloc (.cells #[] 35)) := by kernel_rfl
theorem own_empty {w : World} {base g : Nat} (hb : base ≤ g) (h : w.heap[g]? = some (.cells #[] 35 (0, 0))) : w.ownsRow base 35 24 (.slice (some ⟨g, 0, none⟩) 0 0) 0 [] :=
  ⟨rfl, .inr ⟨g, 0, #[], rfl, hb, h, Nat.le_refl _, Nat.zero_le _, rfl, rfl⟩⟩
end Go.Proofs.Ytoaaoggggjjbaaa
