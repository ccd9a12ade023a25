/- Go maps keyed by int, as sorted lists of pairs. -/
import Derived.Maps.Own
import Derived.Maps.OwnOps
import Derived.Maps.OwnSet
import Derived.Maps.Ext
import Derived.WalkKit
namespace Go.Proofs.Ytjcdojcbdfblbaa.IM
open Go.RowKit Go.Maps
variable {α : Type}
def insI (p : Int × α) : List (Int × α) → List (Int × α)
  | [] => [p]
  | q :: l => if p.1 < q.1 then p :: q :: l else q :: insI p l
def delI (k : Int) (l : List (Int × α)) : List (Int × α) := l.filter fun p => !decide (p.1 = k)
def putI (k : Int) (v : α) (l : List (Int × α)) : List (Int × α) := insI (k, v) (delI k l)
def getI (k : Int) (l : List (Int × α)) : Option α := (l.find? fun p => decide (p.1 = k)).map (·.2)
/-- as the model's data. -/
def toD (dv : α → DataW Unit) (l : List (Int × α)) : DataW Unit := .map (l.map fun p => (.int .i64 p.1, dv p.2))
variable (dv : α → DataW Unit)
theorem map_ins (p : Int × α) : ∀ l : List (Int × α), DataW.insert (.int .i64 p.1, dv p.2) (l.map fun p => (Lit.int .i64 p.1, dv p.2)) = (insI p l).map fun p => (Lit.int .i64 p.1, dv p.2)
  | [] => rfl
  | q :: l => by
    rw [List.map_cons, DataW.insert, insI]
    by_cases h : p.1 < q.1
    · rw [if_pos h, if_pos (by simp [Lit.before, h])]; rfl
    · rw [if_neg h, if_neg (by simp [Lit.before, h]), map_ins p l]; rfl
theorem map_del (k : Int) (l : List (Int × α)) : ((l.map fun p => (Lit.int .i64 p.1, dv p.2)).filter fun p => !p.1.sameKey (.int .i64 k)) = (delI k l).map fun p => (Lit.int .i64 p.1, dv p.2) := by
  unfold delI
  rw [List.filter_map]
  congr 1
  apply List.filter_congr
  intro p _
  simp [Lit.sameKey]
theorem toD_del (k : Int) (l : List (Int × α)) : (toD dv l).del (.int .i64 k) = toD dv (delI k l) := by
  unfold toD DataW.del
  simp only [map_del]
theorem toD_put (k : Int) (v : α) (l : List (Int × α)) : (toD dv l).put (.int .i64 k) (dv v) = toD dv (putI k v l) := by
  unfold toD DataW.put putI
  simp only [map_del, map_ins dv (k, v)]
theorem toD_at (k : Int) (l : List (Int × α)) (z : DataW Unit) : (toD dv l).atKey (.int .i64 k) z = ((getI k l).map dv).getD z := by
  unfold toD DataW.atKey getI
  simp only
  rw [List.find?_map]
  have e : ((fun p : Lit × DataW Unit => p.1.sameKey (.int .i64 k)) ∘ fun p : Int × α => (Lit.int .i64 p.1, dv p.2)) = fun p => decide (p.1 = k) := by
    funext p; simp [Lit.sameKey]
  rw [e]
  cases l.find? fun p => decide (p.1 = k) <;> rfl
theorem toD_has (k : Int) (l : List (Int × α)) : Maps.has (toD dv l) (.int .i64 k) = (getI k l).isSome := by
  unfold toD getI
  rw [Maps.has_eq, List.any_map, Option.isSome_map, List.isSome_find?]
  congr 1
  funext p
  simp [Lit.sameKey]
theorem toD_size (l : List (Int × α)) : Maps.size (toD dv l) = l.length := by unfold toD; rw [Maps.size_eq]; simp
def Rising (l : List (Int × α)) : Prop := l.Pairwise fun p q => p.1 < q.1
theorem rising_del (k : Int) {l : List (Int × α)} (h : Rising l) : Rising (delI k l) := List.Pairwise.filter _ h
theorem mem_del {k : Int} {l : List (Int × α)} {p : Int × α} : p ∈ delI k l ↔ p ∈ l ∧ p.1 ≠ k := by unfold delI; rw [List.mem_filter]; simp
theorem mem_ins {p q : Int × α} : ∀ {l : List (Int × α)}, q ∈ insI p l ↔ q = p ∨ q ∈ l
  | [] => by simp [insI]
  | r :: l => by
    unfold insI
    split
    · simp
    · simp only [List.mem_cons, mem_ins (l := l)]
      constructor
      · rintro (h | h | h) <;> simp [h]
      · rintro (h | h | h) <;> simp [h]
theorem rising_ins (p : Int × α) : ∀ {l : List (Int × α)}, Rising l → (∀ q ∈ l, q.1 ≠ p.1) → Rising (insI p l)
  | [], _, _ => by simp [insI, Rising]
  | q :: l, h, hn => by
    have h' := h
    unfold Rising at h'
    rw [List.pairwise_cons] at h'
    unfold insI
    split
    · rename_i hlt
      unfold Rising
      rw [List.pairwise_cons]
      refine ⟨fun r hr => ?_, h⟩
      rcases List.mem_cons.1 hr with rfl | hr
      · exact hlt
      · have := h'.1 r hr; omega
    · rename_i hge
      unfold Rising
      rw [List.pairwise_cons]
      refine ⟨fun r hr => ?_, rising_ins p h'.2 fun r hr => hn r (List.mem_cons_of_mem _ hr)⟩
      rcases mem_ins.1 hr with rfl | hr
      · have := hn q (List.mem_cons_self ..); omega
      · exact h'.1 r hr
theorem rising_put (k : Int) (v : α) {l : List (Int × α)} (h : Rising l) : Rising (putI k v l) := rising_ins _ (rising_del k h) fun _ hq => (mem_del.1 hq).2
theorem rising_nil : Rising ([] : List (Int × α)) := List.Pairwise.nil
theorem mem_put {k : Int} {v : α} {l : List (Int × α)} {p : Int × α} : p ∈ putI k v l ↔ p = (k, v) ∨ p ∈ l ∧ p.1 ≠ k := by unfold putI; rw [mem_ins, mem_del]
theorem length_ins (p : Int × α) : ∀ l : List (Int × α), (insI p l).length = l.length + 1
  | [] => rfl
  | q :: l => by unfold insI; split <;> simp [length_ins p l]
theorem length_put (k : Int) (v : α) (l : List (Int × α)) : (putI k v l).length ≤ l.length + 1 := by
  unfold putI; rw [length_ins]; have : (delI k l).length ≤ l.length := List.length_filter_le _ _; omega
theorem getI_mem {k : Int} {l : List (Int × α)} {v : α} (h : Rising l) : getI k l = some v ↔ (k, v) ∈ l := by
  unfold getI
  constructor
  · intro hq
    obtain ⟨p, hp, rfl⟩ := Option.map_eq_some_iff.1 hq
    have h1 := List.mem_of_find?_eq_some hp
    have h2 := List.find?_some hp
    simp only [decide_eq_true_eq] at h2
    rw [← h2]; exact h1
  · intro hm
    induction l with
    | nil => simp at hm
    | cons q l ih =>
      unfold Rising at h
      rw [List.pairwise_cons] at h
      rw [List.find?_cons]
      rcases List.mem_cons.1 hm with e | hm
      · subst e; simp
      · have := h.1 _ hm
        rw [show decide (q.1 = k) = false by simp; simp at this; omega]
        exact ih h.2 hm
end Go.Proofs.Ytjcdojcbdfblbaa.IM
