/- Between append's words (ownsRow) and the sort's (HoldsK, SWK), at rows of k cells an element. -/
import Derived.Test.YtoaaoggggjjbaaaStableMath
import Derived.Shelf.SlSortCmp.KitK
import Derived.Laws.OwnMore
import Derived.Sort.OwnSorted
namespace Go.Proofs.Ytoaaoggggjjbaaa.St
open Go.Shelf Go.RowKit Go.Lib Go.Sort
variable {α : Type} [Inhabited α] {enc : α → List Value} {k : Nat}
omit [Inhabited α] in
theorem flat_at (hk : ∀ x, (enc x).length = k) : ∀ (L : List α) (i : Nat) (hi : i < L.length) (j : Nat), j < k → (L.flatMap enc)[i * k + j]? = (enc L[i])[j]?
  | [], i, hi, j, hj => by simp at hi
  | x :: L, 0, hi, j, hj => by
    rw [List.flatMap_cons, Nat.zero_mul, Nat.zero_add, List.getElem?_append_left (by rw [hk]; exact hj)]
    rfl
  | x :: L, i + 1, hi, j, hj => by
    rw [List.flatMap_cons, List.getElem?_append_right (by rw [hk, Nat.add_mul]; omega), hk, List.getElem_cons_succ, ← flat_at hk L i (by simpa using hi) j hj]
    congr 1
    rw [Nat.add_mul]
    omega
omit [Inhabited α] in
theorem length_flat (hk : ∀ x, (enc x).length = k) : ∀ L : List α, (L.flatMap enc).length = L.length * k
  | [] => by simp
  | x :: L => by rw [List.flatMap_cons, List.length_append, hk, length_flat hk L, List.length_cons, Nat.add_mul]; omega
theorem flatK_flat (hk : ∀ x, (enc x).length = k) (L : List α) : flatK enc k L.toArray = (L.flatMap enc).toArray := by
  apply Array.ext (by rw [size_flatK, List.size_toArray, List.size_toArray, length_flat hk])
  intro t h1 h2
  rw [← getElem!_pos _ t h1, get_flatK _ _ _ _ (by simpa using h1), List.getElem_toArray]
  have hlt : t < L.length * k := by simpa [size_flatK] using h1
  have hk0 : 0 < k := by rcases Nat.eq_zero_or_pos k with h | h; · subst h; simp at hlt
                         · exact h
  have hd : t / k < L.length := (Nat.div_lt_iff_lt_mul hk0).2 hlt
  have hm : t % k < k := Nat.mod_lt _ hk0
  have e : t = t / k * k + t % k := by rw [Nat.mul_comm]; exact (Nat.div_add_mod t k).symm
  have hf := flat_at hk L (t / k) hd (t % k) hm
  rw [← e, List.getElem?_eq_getElem (by rw [length_flat hk]; exact hlt), List.getElem?_eq_getElem (by rw [hk]; exact hm)] at hf
  injection hf with hf
  rw [hf, getElem!_pos L.toArray _ (by simpa using hd), getElem!_pos _ _ (by rw [hk]; exact hm)]
  rfl
theorem row_of_own (hk : ∀ x, (enc x).length = k) (h1 : ∀ x, ∀ v ∈ enc x, v.oneCell' = true) {w : World} {g n : Nat} {cur : Array Value} {e : TypeId} {L : List α} (hb : w.heap[g]? = some (.cells cur e (0, 0))) (hn : L.length = n) (ht : cur.toList.take (n * k) = L.flatMap enc) :
    RowK enc k w g 0 L.toArray := by
  refine ⟨hk, h1, ?_, (Array.getElem?_eq_some_iff.1 hb).1⟩
  unfold HoldsK
  rw [flatK_flat hk]
  intro j hj
  have hj' : j < n * k := by rw [List.size_toArray, length_flat hk] at hj; rw [← hn]; exact hj
  refine ⟨?_, by simp [World.frozen?, hb]⟩
  rw [cell_of_row w g _ cur e (0, 0) hb, Nat.zero_add, ← Array.getElem?_toList]
  have : (cur.toList.take (n * k))[j]? = (L.flatMap enc)[j]? := by rw [ht]
  rw [List.getElem?_take_of_lt hj'] at this
  rw [this, List.getElem?_eq_getElem (by rw [length_flat hk, hn]; exact hj'), getElem!_pos (List.flatMap enc L).toArray j hj]
  simp
theorem own_of_swk (hk : ∀ x, (enc x).length = k) {w w' : World} {base g n cap : Nat} {cur : Array Value} {e : TypeId} {L' : List α} (hbase : base ≤ g) (hb : w.heap[g]? = some (.cells cur e (0, 0))) (hn : L'.length = n) (h1 : n ≤ cap) (h2 : cap ≤ maxLen) (h3 : cur.size = cap * k)
    (S : SWK enc k w g 0 L'.toArray w') : w'.ownsRow base e k (.slice (some ⟨g, 0, none⟩) n cap) n (L'.flatMap enc) ∧ w.grownBy w' (some g) := by
  obtain ⟨m, os, rfl⟩ := S
  unfold sortWorldK putRowK
  rw [flatK_flat hk]
  have hF : (L'.flatMap enc).length = n * k := by rw [length_flat hk, hn]
  generalize L'.flatMap enc = F at hF ⊢
  have hg : g < w.heap.size := (Array.getElem?_eq_some_iff.1 hb).1
  have hh : (grow (putRow id (Sort.ahead w m) g 0 F.toArray) os).heap[g]? = some (.cells (putCells id 0 F.toArray cur) e (0, 0)) := by
    rw [heap_grow_old _ _ (by simpa using hg)]
    simp [putRow, mapBlock, Sort.ahead, Array.getElem?_modify, hb, onCells]
  refine ⟨⟨hF, .inr ⟨g, cap, _, rfl, hbase, hh, h1, h2, by simp [putCells, h3], ?_⟩⟩, ⟨rfl, rfl, rfl, by simp, fun i hi hne => ?_⟩⟩
  · have hle : n * k ≤ cap * k := Nat.mul_le_mul_right k h1
    apply List.ext_getElem?
    intro j
    by_cases hj : j < n * k
    · rw [List.getElem?_take_of_lt hj, Array.getElem?_toList]
      have hl : j < F.length := by omega
      simp [putCells, hl, show j < cur.size by omega]
    · rw [List.getElem?_take_eq_none (by omega), List.getElem?_eq_none (by omega)]
  · rw [heap_grow_old _ _ (by simpa using hi)]
    have : g ≠ i := fun e => hne (by rw [e])
    simp [putRow, mapBlock, Sort.ahead, Array.getElem?_modify, this]
end Go.Proofs.Ytoaaoggggjjbaaa.St
