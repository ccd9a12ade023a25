/- Stable sorting by an integer key, on lists: insertion, merging, and what exchanges of an array's elements do to its list. Plain Lean: no program. -/
import Derived.Sort.LotA
namespace Go.Proofs.Ytoaaoggggjjbaaa.St
open Go.Sort
variable {α : Type} (κ : α → Int)
/-- x behind all that are not greater. -/
def ins (x : α) : List α → List α
  | [] => [x]
  | y :: l => if κ x < κ y then x :: y :: l else y :: ins x l
def ssort (l : List α) : List α := l.foldl (fun s x => ins κ x s) []
/-- two lists merged: of equals those of the first come first. -/
def mrg : List α → List α → List α
  | [], v => v
  | u :: us, [] => u :: us
  | u :: us, v :: vs => if κ v < κ u then v :: mrg (u :: us) vs else u :: mrg us (v :: vs)
termination_by u v => u.length + v.length
def Srt (l : List α) : Prop := l.Pairwise fun x y => κ x ≤ κ y

theorem ssort_snoc (l : List α) (x : α) : ssort κ (l ++ [x]) = ins κ x (ssort κ l) := by simp [ssort]
theorem mrg_nil_left (v : List α) : mrg κ [] v = v := by unfold mrg; rfl
theorem mrg_nil_right (u : List α) : mrg κ u [] = u := by cases u <;> (unfold mrg; rfl)
theorem mrg_cons (u v : α) (us vs : List α) : mrg κ (u :: us) (v :: vs) = if κ v < κ u then v :: mrg κ (u :: us) vs else u :: mrg κ us (v :: vs) := by rw [mrg]
theorem length_ins (x : α) : ∀ l : List α, (ins κ x l).length = l.length + 1
  | [] => rfl
  | y :: l => by unfold ins; split <;> simp [length_ins x l]
theorem snoc_ind {p : List α → Prop} (h0 : p []) (h1 : ∀ l x, p l → p (l ++ [x])) (l : List α) : p l := by
  have : ∀ r : List α, p r.reverse := by
    intro r
    induction r with
    | nil => exact h0
    | cons x r ih => rw [List.reverse_cons]; exact h1 _ x ih
  have h := this l.reverse
  rwa [List.reverse_reverse] at h
theorem length_ssort (l : List α) : (ssort κ l).length = l.length := by
  induction l using snoc_ind with
  | h0 => rfl
  | h1 l x ih => rw [ssort_snoc, length_ins, ih]; simp
theorem mem_ins (x y : α) : ∀ l : List α, y ∈ ins κ x l ↔ y = x ∨ y ∈ l
  | [] => by simp [ins]
  | z :: l => by
    unfold ins
    split
    · simp
    · simp only [List.mem_cons, mem_ins x y l]
      constructor
      · rintro (h | h | h) <;> simp [h]
      · rintro (h | h | h) <;> simp [h]
theorem mem_ssort (y : α) (l : List α) : y ∈ ssort κ l ↔ y ∈ l := by
  induction l using snoc_ind with
  | h0 => simp [ssort]
  | h1 l x ih => rw [ssort_snoc, mem_ins, ih]; simp [or_comm]
theorem srt_ins (x : α) : ∀ l : List α, Srt κ l → Srt κ (ins κ x l)
  | [], _ => by simp [ins, Srt]
  | y :: l, h => by
    have h' := h
    unfold Srt at h'
    rw [List.pairwise_cons] at h'
    unfold ins
    split
    · rename_i hlt
      unfold Srt
      rw [List.pairwise_cons]
      refine ⟨fun z hz => ?_, h⟩
      rcases List.mem_cons.1 hz with rfl | hz
      · omega
      · have := h'.1 z hz; omega
    · rename_i hge
      unfold Srt
      rw [List.pairwise_cons]
      refine ⟨fun z hz => ?_, srt_ins x l h'.2⟩
      rcases (mem_ins κ x z l).1 hz with rfl | hz
      · omega
      · exact h'.1 z hz
theorem srt_ssort (l : List α) : Srt κ (ssort κ l) := by
  induction l using snoc_ind with
  | h0 => simp [ssort, Srt]
  | h1 l x ih => rw [ssort_snoc]; exact srt_ins κ x _ ih
theorem srt_cons {x : α} {l : List α} (h : Srt κ (x :: l)) : (∀ y ∈ l, κ x ≤ κ y) ∧ Srt κ l := by
  unfold Srt at h; rw [List.pairwise_cons] at h; exact h
/-- x ahead of all of a list of greater ones. -/
theorem ins_lt (x : α) : ∀ l : List α, (∀ y ∈ l, κ x < κ y) → ins κ x l = x :: l
  | [], _ => rfl
  | y :: l, h => by unfold ins; rw [if_pos (h y (List.mem_cons_self ..))]
theorem ins_ge (x : α) : ∀ l : List α, (∀ y ∈ l, κ y ≤ κ x) → ins κ x l = l ++ [x]
  | [], _ => rfl
  | y :: l, h => by
    unfold ins
    rw [if_neg (by have := h y (List.mem_cons_self ..); omega), ins_ge x l fun z hz => h z (List.mem_cons_of_mem _ hz)]
    rfl
theorem mrg_ins (x : α) : ∀ (n : Nat) (S T : List α), S.length + T.length = n → Srt κ S → Srt κ T → mrg κ S (ins κ x T) = ins κ x (mrg κ S T)
  | n, [], T, _, _, _ => by rw [mrg_nil_left, mrg_nil_left]
  | n, s :: S, [], hn, hS, _ => by
    show mrg κ (s :: S) [x] = _
    rw [mrg_nil_right, mrg_cons]
    obtain ⟨h1, h2⟩ := srt_cons κ hS
    by_cases h : κ x < κ s
    · rw [if_pos h, mrg_nil_right, ins, if_pos h]
    · rw [if_neg h]
      have := mrg_ins x (n - 1) S [] (by simp at hn ⊢; omega) h2 (by simp [Srt])
      rw [mrg_nil_right] at this
      show s :: mrg κ S (ins κ x []) = _
      rw [this, ins, if_neg h]
  | n, s :: S, t :: T, hn, hS, hT => by
    obtain ⟨h1, h2⟩ := srt_cons κ hS
    obtain ⟨h3, h4⟩ := srt_cons κ hT
    by_cases hts : κ t < κ s
    · by_cases hxt : κ x < κ t
      · have e : ins κ x (t :: T) = x :: t :: T := by rw [ins, if_pos hxt]
        rw [e, mrg_cons, if_pos (by omega), mrg_cons, if_pos hts, ins, if_pos hxt]
      · have e : ins κ x (t :: T) = t :: ins κ x T := by rw [ins, if_neg hxt]
        rw [e, mrg_cons, if_pos hts, mrg_ins x (n - 1) (s :: S) T (by simp at hn ⊢; omega) hS h4, mrg_cons, if_pos hts, ins, if_neg hxt]
    · by_cases hxt : κ x < κ t
      · have e : ins κ x (t :: T) = x :: t :: T := by rw [ins, if_pos hxt]
        rw [mrg_cons κ s t, if_neg hts]
        by_cases hxs : κ x < κ s
        · rw [e, mrg_cons, if_pos hxs, ins, if_pos hxs, mrg_cons, if_neg hts]
        · rw [e, mrg_cons, if_neg hxs, ← e, mrg_ins x (n - 1) S (t :: T) (by simp at hn ⊢; omega) h2 hT, ins, if_neg hxs]
      · have e : ins κ x (t :: T) = t :: ins κ x T := by rw [ins, if_neg hxt]
        rw [e, mrg_cons, if_neg hts, ← e, mrg_ins x (n - 1) S (t :: T) (by simp at hn ⊢; omega) h2 hT, mrg_cons, if_neg hts]
        conv => rhs; rw [ins, if_neg (by omega)]
termination_by n _ _ => n
theorem ssort_append (A B : List α) : ssort κ (A ++ B) = mrg κ (ssort κ A) (ssort κ B) := by
  induction B using snoc_ind with
  | h0 => rw [List.append_nil, show ssort κ ([] : List α) = [] from rfl, mrg_nil_right]
  | h1 l x ih => rw [← List.append_assoc, ssort_snoc, ih, ssort_snoc, mrg_ins κ x _ _ _ rfl (srt_ssort κ A) (srt_ssort κ l)]
theorem ssort_srt (l : List α) (h : Srt κ l) : ssort κ l = l := by
  induction l using snoc_ind with
  | h0 => rfl
  | h1 l x ih =>
    unfold Srt at h
    rw [List.pairwise_append] at h
    rw [ssort_snoc, ih h.1, ins_ge κ x l fun y hy => h.2.2 y hy x (by simp)]
theorem mrg_split : ∀ (U1 V1 U2 V2 : List α), (∀ u ∈ U1, ∀ v ∈ V2, κ u ≤ κ v) → (∀ v ∈ V1, ∀ u ∈ U2, κ v < κ u) → mrg κ (U1 ++ U2) (V1 ++ V2) = mrg κ U1 V1 ++ mrg κ U2 V2
  | [], [], U2, V2, _, _ => by simp [mrg_nil_left]
  | [], v :: V1, U2, V2, h1, h2 => by
    cases U2 with
    | nil => simp [mrg_nil_left]
    | cons u U2 =>
      have ih := mrg_split [] V1 (u :: U2) V2 (by simp) (fun w hw => h2 w (List.mem_cons_of_mem _ hw))
      simp only [List.nil_append, mrg_nil_left] at ih ⊢
      rw [List.cons_append, mrg_cons, if_pos (h2 v (List.mem_cons_self ..) u (List.mem_cons_self ..)), ih]
      rfl
  | u :: U1, [], U2, V2, h1, h2 => by
    cases V2 with
    | nil => simp [mrg_nil_right]
    | cons v V2 =>
      have ih := mrg_split U1 [] U2 (v :: V2) (fun w hw => h1 w (List.mem_cons_of_mem _ hw)) (by simp)
      simp only [List.nil_append, mrg_nil_right] at ih ⊢
      rw [List.cons_append, mrg_cons, if_neg (by have := h1 u (List.mem_cons_self ..) v (List.mem_cons_self ..); omega), ih]
      rfl
  | u :: U1, v :: V1, U2, V2, h1, h2 => by
    simp only [List.cons_append]
    rw [mrg_cons, mrg_cons]
    split
    · have ih := mrg_split (u :: U1) V1 U2 V2 h1 (fun w hw => h2 w (List.mem_cons_of_mem _ hw))
      rw [List.cons_append] at ih
      rw [ih]; rfl
    · have ih := mrg_split U1 (v :: V1) U2 V2 (fun w hw => h1 w (List.mem_cons_of_mem _ hw)) h2
      rw [List.cons_append] at ih
      rw [ih]; rfl
termination_by U1 V1 => U1.length + V1.length
theorem length_mrg (n : Nat) : ∀ U V : List α, U.length + V.length = n → (mrg κ U V).length = n := by
  induction n with
  | zero => intro U V h; rw [List.eq_nil_of_length_eq_zero (by omega : U.length = 0), List.eq_nil_of_length_eq_zero (by omega : V.length = 0)]; simp [mrg_nil_left]
  | succ n ih =>
    intro U V h
    cases U with
    | nil => rw [mrg_nil_left]; simpa using h
    | cons u U =>
      cases V with
      | nil => rw [mrg_nil_right]; simpa using h
      | cons v V =>
        rw [mrg_cons]
        simp at h
        split
        · rw [List.length_cons, ih _ _ (by simp; omega)]
        · rw [List.length_cons, ih _ _ (by simp; omega)]
theorem mrg_one_left (u : α) (V1 V2 : List α) (h1 : ∀ v ∈ V1, κ v < κ u) (h2 : ∀ v ∈ V2, κ u ≤ κ v) : mrg κ [u] (V1 ++ V2) = V1 ++ u :: V2 := by
  have := mrg_split κ [] V1 [u] V2 (by simp) (fun v hv w hw => by simp at hw; subst hw; exact h1 v hv)
  simp only [List.nil_append, mrg_nil_left] at this
  rw [this]
  cases V2 with
  | nil => rw [mrg_nil_right]
  | cons v V2 => rw [mrg_cons, if_neg (by have := h2 v (List.mem_cons_self ..); omega), mrg_nil_left]
theorem mrg_one_right (v : α) (U1 U2 : List α) (h1 : ∀ u ∈ U1, κ u ≤ κ v) (h2 : ∀ u ∈ U2, κ v < κ u) : mrg κ (U1 ++ U2) [v] = U1 ++ v :: U2 := by
  have := mrg_split κ U1 [] U2 [v] (fun u hu w hw => by simp at hw; subst hw; exact h1 u hu) (by simp)
  simp only [List.nil_append, mrg_nil_right] at this
  rw [this]
  cases U2 with
  | nil => rw [mrg_nil_left]
  | cons u U2 => rw [mrg_cons, if_pos (h2 u (List.mem_cons_self ..)), mrg_nil_right]

/-! ### exchanges -/
section
variable [Inhabited α]
theorem get_mid (A C : List α) (x : α) (n : Nat) (h : n = A.length) : (A ++ x :: C).toArray[n]! = x := by
  subst h
  rw [getElem!_pos _ _ (by simp)]
  simp
theorem swp_mid (A B C : List α) (x y : α) (i j : Nat) (hi : i = A.length) (hj : j = A.length + 1 + B.length) :
    swp (A ++ x :: (B ++ y :: C)).toArray i j = (A ++ y :: (B ++ x :: C)).toArray := by
  have gi : (A ++ x :: (B ++ y :: C)).toArray[i]! = x := get_mid A _ x i hi
  have gj : (A ++ x :: (B ++ y :: C)).toArray[j]! = y := by
    have := get_mid (A ++ x :: B) C y j (by simp; omega)
    rwa [List.append_assoc, List.cons_append] at this
  unfold swp
  rw [gi, gj]
  apply Array.ext'
  simp only [List.setIfInBounds_toArray]
  subst hi hj
  rw [List.set_append_right _ _ (Nat.le_refl _), Nat.sub_self, List.set_cons_zero, List.set_append_right _ _ (by omega)]
  congr 1
  rw [show A.length + 1 + B.length - A.length = B.length + 1 by omega, List.set_cons_succ, List.set_append_right _ _ (Nat.le_refl _), Nat.sub_self, List.set_cons_zero]
theorem swp_comm (d : Array α) (i j : Nat) (hi : i < d.size) (hj : j < d.size) : swp d i j = swp d j i := by
  apply Array.ext (by rw [size_swp, size_swp])
  intro t h1 h2
  rw [← getElem!_pos _ t h1, ← getElem!_pos _ t h2, swp_get d hi hj, swp_get d hj hi]
  by_cases a : t = j
  · by_cases b : t = i
    · subst a; subst b; rfl
    · rw [if_pos a, if_neg b, if_pos a]
  · by_cases b : t = i
    · rw [if_neg a, if_pos b, if_pos b]
    · rw [if_neg a, if_neg b, if_neg b, if_neg a]
theorem insInner_list (lt : α → α → Bool) (hlt : ∀ x y, lt x y = decide (κ x < κ y)) (pre : List α) (x : α) : ∀ (S C : List α), Srt κ S →
    insInner lt pre.length (pre.length + S.length) (pre ++ (S ++ x :: C)).toArray = (pre ++ (ins κ x S ++ C)).toArray := by
  intro S
  induction S using snoc_ind with
  | h0 =>
    intro C _
    show insInner lt pre.length (pre.length + 0) _ = _
    rw [Nat.add_zero]
    cases hp : pre.length with
    | zero => rfl
    | succ n => rw [insInner, if_neg (by simp)]; rfl
  | h1 S y ih =>
    intro C hS
    have hS' := hS
    unfold Srt at hS'
    rw [List.pairwise_append] at hS'
    have e1 : pre.length + (S ++ [y]).length = pre.length + S.length + 1 := by simp; omega
    have gx : (pre ++ ((S ++ [y]) ++ x :: C)).toArray[pre.length + S.length + 1]! = x := by
      have := get_mid (pre ++ (S ++ [y])) C x (pre.length + S.length + 1) (by simp; omega)
      rwa [List.append_assoc] at this
    have gy : (pre ++ ((S ++ [y]) ++ x :: C)).toArray[pre.length + S.length]! = y := by
      have := get_mid (pre ++ S) (x :: C) y (pre.length + S.length) (by simp)
      rw [List.append_assoc] at this
      rw [List.append_assoc S]
      exact this
    rw [e1, insInner, gx, gy, hlt]
    by_cases h : κ x < κ y
    · rw [if_pos (by simp [h]; omega)]
      have hsw : swp (pre ++ ((S ++ [y]) ++ x :: C)).toArray (pre.length + S.length + 1) (pre.length + S.length) = (pre ++ (S ++ x :: (y :: C))).toArray := by
        rw [swp_comm _ _ _ (by simp; omega) (by simp)]
        have := swp_mid (pre ++ S) [] C y x (pre.length + S.length) (pre.length + S.length + 1) (by simp) (by simp)
        simpa using this
      rw [hsw, ih (y :: C) hS'.1]
      congr 2
      have : ins κ x (S ++ [y]) = ins κ x S ++ [y] := by
        clear ih hsw gx gy e1 hS hS'
        induction S with
        | nil => simp [ins, h]
        | cons z S ih =>
          simp only [List.cons_append]
          rw [ins, ins]
          split
          · rfl
          · rw [ih]; rfl
      rw [this, List.append_assoc]
      rfl
    · rw [if_neg (by simp [h])]
      rw [ins_ge κ x (S ++ [y]) (fun z hz => by
        rcases List.mem_append.1 hz with hz | hz
        · have := hS'.2.2 z hz y (by simp)
          omega
        · simp at hz; subst hz; omega)]
      simp
theorem insOuter_list (lt : α → α → Bool) (hlt : ∀ x y, lt x y = decide (κ x < κ y)) (pre post : List α) : ∀ (T S : List α), 1 ≤ S.length →
    insOuter lt pre.length (pre.length + S.length + T.length) (pre.length + S.length) (pre ++ (ssort κ S ++ (T ++ post))).toArray = (pre ++ (ssort κ (S ++ T) ++ post)).toArray
  | [], S, _ => by
    rw [insOuter, if_neg (by simp)]
    simp
  | x :: T, S, hS => by
    rw [insOuter, if_pos (by simp)]
    have h := insInner_list κ lt hlt pre x (ssort κ S) (T ++ post) (srt_ssort κ S)
    rw [length_ssort] at h
    have e : pre.length + S.length + (x :: T).length = pre.length + (S ++ [x]).length + T.length := by simp; omega
    rw [List.cons_append, h, ← ssort_snoc, e]
    have e2 : pre.length + S.length + 1 = pre.length + (S ++ [x]).length := by simp; omega
    rw [e2, insOuter_list lt hlt pre post T (S ++ [x]) (by simp)]
    simp
theorem insertionSort_list (lt : α → α → Bool) (hlt : ∀ x y, lt x y = decide (κ x < κ y)) (pre seg post : List α) (a b : Nat) (ha : a = pre.length) (hb : b = pre.length + seg.length) :
    insertionSort lt (pre ++ (seg ++ post)).toArray a b = (pre ++ (ssort κ seg ++ post)).toArray := by
  subst ha hb
  unfold insertionSort
  cases seg with
  | nil => rw [insOuter, if_neg (by simp)]; rfl
  | cons x T =>
    have := insOuter_list κ lt hlt pre post T [x] (by simp)
    simp only [List.length_singleton] at this
    have e : pre.length + (x :: T).length = pre.length + 1 + T.length := by simp; omega
    rw [e]
    exact this

/-! ### swapRange, rotate -/
/-- two ranges, the first i elements of which are exchanged. -/
def swapRow (A X B Y C : List α) (i : Nat) : List α := A ++ (Y.take i ++ (X.drop i ++ (B ++ (X.take i ++ (Y.drop i ++ C)))))
omit [Inhabited α] in
theorem length_swapRow (A X B Y C : List α) (i : Nat) : (swapRow A X B Y C i).length = A.length + X.length + B.length + Y.length + C.length := by
  unfold swapRow
  simp only [List.length_append, List.length_take, List.length_drop]
  omega
omit [Inhabited α] in
theorem swapRow_zero (A X B Y C : List α) : swapRow A X B Y C 0 = A ++ (X ++ (B ++ (Y ++ C))) := by simp [swapRow]
omit [Inhabited α] in
theorem swapRow_all (A X B Y C : List α) (n : Nat) (hx : X.length = n) (hy : Y.length = n) : swapRow A X B Y C n = A ++ (Y ++ (B ++ (X ++ C))) := by
  unfold swapRow
  rw [List.take_of_length_le (by omega), List.take_of_length_le (by omega), List.drop_of_length_le (by omega), List.drop_of_length_le (by omega)]
  simp
theorem swapRow_step (A X B Y C : List α) (i n a b : Nat) (hx : X.length = n) (hy : Y.length = n) (hi : i < n) (ha : a = A.length) (hb : b = A.length + n + B.length) :
    swp (swapRow A X B Y C i).toArray (a + i) (b + i) = (swapRow A X B Y C (i + 1)).toArray := by
  have hix : i < X.length := by omega
  have hiy : i < Y.length := by omega
  have e0 : swapRow A X B Y C i = (A ++ Y.take i) ++ X[i] :: ((X.drop (i + 1) ++ (B ++ X.take i)) ++ Y[i] :: (Y.drop (i + 1) ++ C)) := by
    unfold swapRow
    rw [List.drop_eq_getElem_cons hix, List.drop_eq_getElem_cons hiy]
    simp only [List.append_assoc, List.cons_append]
  have e1 : swapRow A X B Y C (i + 1) = (A ++ Y.take i) ++ Y[i] :: ((X.drop (i + 1) ++ (B ++ X.take i)) ++ X[i] :: (Y.drop (i + 1) ++ C)) := by
    unfold swapRow
    rw [List.take_succ_eq_append_getElem hix, List.take_succ_eq_append_getElem hiy]
    simp only [List.append_assoc, List.cons_append, List.nil_append]
  rw [e0, e1]
  refine swp_mid _ _ _ _ _ _ _ ?_ ?_
  · simp only [List.length_append, List.length_take]; omega
  · simp only [List.length_append, List.length_take, List.length_drop]; omega
/-- an element on its way to the right. -/
def bubR (A : List α) (u : α) (V D : List α) (t : Nat) : List α := A ++ (V.take t ++ (u :: (V.drop t ++ D)))
omit [Inhabited α] in
theorem length_bubR (A : List α) (u : α) (V D : List α) (t : Nat) : (bubR A u V D t).length = A.length + 1 + V.length + D.length := by
  unfold bubR
  simp only [List.length_append, List.length_take, List.length_drop, List.length_cons]
  omega
theorem bubR_step (A : List α) (u : α) (V D : List α) (t x y : Nat) (ht : t < V.length) (hx : x = A.length + t) (hy : y = A.length + t + 1) : swp (bubR A u V D t).toArray x y = (bubR A u V D (t + 1)).toArray := by
  have e0 : bubR A u V D t = (A ++ V.take t) ++ u :: ([] ++ V[t] :: (V.drop (t + 1) ++ D)) := by
    unfold bubR
    rw [List.drop_eq_getElem_cons ht]
    simp only [List.append_assoc, List.cons_append, List.nil_append]
  have e1 : bubR A u V D (t + 1) = (A ++ V.take t) ++ V[t] :: ([] ++ u :: (V.drop (t + 1) ++ D)) := by
    unfold bubR
    rw [List.take_succ_eq_append_getElem ht]
    simp only [List.append_assoc, List.cons_append, List.nil_append]
  rw [e0, e1]
  refine swp_mid _ _ _ _ _ _ _ ?_ ?_
  · simp only [List.length_append, List.length_take]; omega
  · simp only [List.length_append, List.length_take, List.length_nil]; omega
theorem bubR_back (A : List α) (u : α) (V D : List α) (t x y : Nat) (ht : t < V.length) (hx : x = A.length + t + 1) (hy : y = A.length + t) : swp (bubR A u V D (t + 1)).toArray x y = (bubR A u V D t).toArray := by
  have hl : (bubR A u V D (t + 1)).toArray.size = A.length + 1 + V.length + D.length := by rw [List.size_toArray, length_bubR]
  have e0 : bubR A u V D t = (A ++ V.take t) ++ u :: ([] ++ V[t] :: (V.drop (t + 1) ++ D)) := by
    unfold bubR
    rw [List.drop_eq_getElem_cons ht]
    simp only [List.append_assoc, List.cons_append, List.nil_append]
  have e1 : bubR A u V D (t + 1) = (A ++ V.take t) ++ V[t] :: ([] ++ u :: (V.drop (t + 1) ++ D)) := by
    unfold bubR
    rw [List.take_succ_eq_append_getElem ht]
    simp only [List.append_assoc, List.cons_append, List.nil_append]
  rw [swp_comm _ _ _ (by omega) (by omega), e0, e1]
  refine swp_mid _ _ _ _ _ _ _ ?_ ?_
  · simp only [List.length_append, List.length_take]; omega
  · simp only [List.length_append, List.length_take, List.length_nil]; omega
/-- where the two parts are cut, each element of the left halves stands rightly to those of the right ones. -/
theorem sym_cut (dk : Array α) (a m b mid st s0 r0 e : Nat) (sU : ∀ x y, a ≤ x → x ≤ y → y < m → κ dk[x]! ≤ κ dk[y]!) (sV : ∀ x y, m ≤ x → x ≤ y → y < b → κ dk[x]! ≤ κ dk[y]!)
    (h1 : ∀ c, s0 ≤ c → c < st → κ dk[c]! ≤ κ dk[mid + m - 1 - c]!) (h2 : ∀ c, st ≤ c → c < r0 → κ dk[mid + m - 1 - c]! < κ dk[c]!)
    (e1 : s0 = a ∨ mid + m = s0 + b) (e2 : r0 = m ∨ r0 = mid) (hst0 : s0 ≤ st) (hst1 : st ≤ r0) (hr0 : r0 ≤ m) (hrm : r0 ≤ mid) (ha0 : a ≤ s0) (he : e + st = mid + m) (heb : e ≤ b) (hmid1 : a < mid) :
    (∀ x y, a ≤ x → x < st → e ≤ y → y < b → κ dk[x]! ≤ κ dk[y]!) ∧ (∀ y x, m ≤ y → y < e → st ≤ x → x < m → κ dk[y]! < κ dk[x]!) := by
  constructor
  · intro x y hx1 hx2 hy1 hy2
    have q1 := sU x (st - 1) hx1 (by omega) (by omega)
    have q2 := h1 (st - 1) (by omega) (by omega)
    have q3 := sV (mid + m - 1 - (st - 1)) y (by omega) (by omega) hy2
    omega
  · intro y x hy1 hy2 hx1 hx2
    have q1 := sU st x (by omega) hx1 hx2
    have q2 := h2 st (Nat.le_refl _) (by omega)
    have q3 := sV y (mid + m - 1 - st) hy1 (by omega) (by omega)
    omega
theorem get_first (A U T : List α) (x a m : Nat) (ha : a = A.length) (hm : m = A.length + U.length) (h1 : a ≤ x) (h2 : x < m) : (A ++ (U ++ T)).toArray[x]! = U[x - a]'(by omega) := by
  have e : A ++ (U ++ T) = (A ++ U.take (x - a)) ++ (U[x - a]'(by omega)) :: (U.drop (x - a + 1) ++ T) := by
    conv => lhs; rw [← List.take_append_drop (x - a) U, List.drop_eq_getElem_cons (by omega : x - a < U.length)]
    simp only [List.append_assoc, List.cons_append]
  rw [e]
  exact get_mid _ _ _ x (by simp only [List.length_append, List.length_take]; omega)
theorem srt_seg (A U T : List α) (hU : Srt κ U) (a m : Nat) (ha : a = A.length) (hm : m = A.length + U.length) (x y : Nat) (h1 : a ≤ x) (h2 : x ≤ y) (h3 : y < m) : κ (A ++ (U ++ T)).toArray[x]! ≤ κ (A ++ (U ++ T)).toArray[y]! := by
  rw [get_first A U T x a m ha hm h1 (by omega), get_first A U T y a m ha hm (by omega) h3]
  rcases Nat.eq_or_lt_of_le h2 with q | q
  · subst q; exact Int.le_refl _
  · exact List.pairwise_iff_getElem.1 hU (x - a) (y - a) (by omega) (by omega) (by omega)
theorem sym_lists (A U V C : List α) (a m b st e : Nat) (ha : a = A.length) (hm : m = A.length + U.length) (hb : b = A.length + U.length + V.length) (h1 : a ≤ st) (h2 : st ≤ m) (h3 : m ≤ e) (h4 : e ≤ b)
    (c1 : ∀ x y, a ≤ x → x < st → e ≤ y → y < b → κ (A ++ (U ++ (V ++ C))).toArray[x]! ≤ κ (A ++ (U ++ (V ++ C))).toArray[y]!) (c2 : ∀ y x, m ≤ y → y < e → st ≤ x → x < m → κ (A ++ (U ++ (V ++ C))).toArray[y]! < κ (A ++ (U ++ (V ++ C))).toArray[x]!) :
    mrg κ U V = mrg κ (U.take (st - a)) (V.take (e - m)) ++ mrg κ (U.drop (st - a)) (V.drop (e - m)) := by
  have gU : ∀ x, (h0 : a ≤ x) → (hx : x < m) → (A ++ (U ++ (V ++ C))).toArray[x]! = U[x - a]'(by omega) := fun x p q => get_first A U (V ++ C) x a m ha hm p q
  have gV : ∀ x, (h0 : m ≤ x) → (hx : x < b) → (A ++ (U ++ (V ++ C))).toArray[x]! = V[x - m]'(by omega) := fun x p q => by
    have := get_first (A ++ U) V C x m b (by simp; omega) (by simp; omega) p q
    rwa [List.append_assoc] at this
  have := mrg_split κ (U.take (st - a)) (V.take (e - m)) (U.drop (st - a)) (V.drop (e - m)) (fun u hu v hv => ?_) (fun v hv u hu => ?_)
  · rwa [List.take_append_drop, List.take_append_drop] at this
  · obtain ⟨x, hx, rfl⟩ := List.getElem_of_mem hu
    obtain ⟨y, hy, rfl⟩ := List.getElem_of_mem hv
    rw [List.length_take] at hx
    rw [List.length_drop] at hy
    rw [List.getElem_take, List.getElem_drop]
    have q := c1 (a + x) (e + y) (by omega) (by omega) (by omega) (by omega)
    rw [gU (a + x) (by omega) (by omega), gV (e + y) (by omega) (by omega)] at q
    have e1 : a + x - a = x := by omega
    have e2 : e + y - m = e - m + y := by omega
    simpa only [e1, e2] using q
  · obtain ⟨x, hx, rfl⟩ := List.getElem_of_mem hu
    obtain ⟨y, hy, rfl⟩ := List.getElem_of_mem hv
    rw [List.length_take] at hy
    rw [List.length_drop] at hx
    rw [List.getElem_take, List.getElem_drop]
    have q := c2 (m + y) (st + x) (by omega) (by omega) (by omega) (by omega)
    rw [gV (m + y) (by omega) (by omega), gU (st + x) (by omega) (by omega)] at q
    have e1 : m + y - m = y := by omega
    have e2 : st + x - a = st - a + x := by omega
    simpa only [e1, e2] using q
omit [Inhabited α] in
theorem srt_take (l : List α) (n : Nat) (h : Srt κ l) : Srt κ (l.take n) := List.Pairwise.sublist (List.take_sublist n l) h
omit [Inhabited α] in
theorem srt_drop (l : List α) (n : Nat) (h : Srt κ l) : Srt κ (l.drop n) := List.Pairwise.sublist (List.drop_sublist n l) h
end
end Go.Proofs.Ytoaaoggggjjbaaa.St
