/- The local executor: what its values and heaps stand for. -/
import Derived.Test.YtjcdojcbdfblbaaLxMap
import Derived.WalkKit
import Derived.Laws.Rows
namespace Go.Proofs.Ytjcdojcbdfblbaa.Lx
open Go

/-! ### lists -/
theorem blkAt_eq : ∀ (H : Heap) (b : Nat), blkAt H b = (H[b]?).join
  | [], b => by simp [blkAt]
  | x :: l, 0 => by simp [blkAt]
  | x :: l, b + 1 => by simp [blkAt, blkAt_eq l b]
theorem setB_eq : ∀ (H : Heap) (b : Nat) (x : Option Blk), setB H b x = H.set b x
  | [], b, x => by simp [setB]
  | y :: l, 0, x => by simp [setB]
  | y :: l, b + 1, x => by simp [setB, setB_eq l b]
theorem getS_tip (d t : Nat) : getS d .tip t = none := by cases d <;> rfl
theorem blt_eq (a b : Nat) : Nat.blt a b = decide (a < b) := by
  rw [Bool.eq_iff_iff, Nat.blt_eq, decide_eq_true_eq]
theorem beq0_eq (a : Nat) : Nat.beq a 0 = decide (a = 0) := by
  rw [Bool.eq_iff_iff, Nat.beq_eq, decide_eq_true_eq]
theorem getS_half (d : Nat) (s : Sl) (t : Nat) : getS (d + 1) s t = bif Nat.blt t (2 ^ d) then getS d s.left t else getS d s.right (t - 2 ^ d) := by
  cases s with
  | tip => simp only [getS, Sl.left, Sl.right, getS_tip]; cases Nat.blt t (2 ^ d) <;> rfl
  | leaf v => simp only [getS, Sl.left, Sl.right, getS_tip]; cases Nat.blt t (2 ^ d) <;> rfl
  | node l r => rfl
theorem getS_setS_ne : ∀ (d : Nat) (s : Sl) (i t : Nat) (v : V), t ≠ i → getS d (setS d s i v) t = getS d s t
  | 0, s, i, t, v, h => by
    simp only [setS, beq0_eq]
    by_cases hi : i = 0
    · subst hi
      have ht : Nat.beq t 0 = false := by rw [beq0_eq]; simpa using h
      rw [show decide (0 = 0) = true from rfl]
      cases s <;> simp only [cond_true, getS, ht, cond_false]
    · rw [show decide (i = 0) = false by simpa using hi]; rfl
  | d + 1, s, i, t, v, h => by
    rw [getS_half, getS_half, setS]
    simp only [blt_eq]
    by_cases hi : i < 2 ^ d
    · by_cases ht : t < 2 ^ d
      · simp only [hi, ht, decide_true, cond_true, Sl.left]
        exact getS_setS_ne d _ _ _ _ h
      · simp only [hi, ht, decide_true, decide_false, cond_true, cond_false, Sl.right]
    · by_cases ht : t < 2 ^ d
      · simp only [hi, ht, decide_true, decide_false, cond_true, cond_false, Sl.left]
      · simp only [hi, ht, decide_false, cond_false, Sl.right]
        exact getS_setS_ne d _ _ _ _ (by omega)
theorem getS_setS_eq : ∀ (d : Nat) (s : Sl) (i : Nat) (v u : V), getS d (setS d s i v) i = some u → u = v
  | 0, s, i, v, u, h => by
    simp only [setS, beq0_eq] at h
    by_cases hi : i = 0
    · subst hi
      rw [show decide (0 = 0) = true from rfl] at h
      simp only [cond_true, getS, show Nat.beq 0 0 = true from rfl, Option.some.injEq] at h
      exact h.symm
    · rw [show decide (i = 0) = false by simpa using hi, cond_false] at h
      have hb : Nat.beq i 0 = false := by rw [beq0_eq]; simpa using hi
      cases s <;> simp only [getS, hb, cond_false] at h <;> cases h
  | d + 1, s, i, v, u, h => by
    rw [getS_half, setS] at h
    simp only [blt_eq] at h
    by_cases hi : i < 2 ^ d
    · simp only [hi, decide_true, cond_true, Sl.left] at h
      exact getS_setS_eq d _ _ _ _ h
    · simp only [hi, decide_false, cond_false, Sl.right] at h
      exact getS_setS_eq d _ _ _ _ h
theorem setS_same : ∀ (d : Nat) (s : Sl) (i : Nat) (v : V), getS d s i = some v → setS d s i v = s
  | 0, s, i, v, h => by
    cases s with
    | leaf w =>
      simp only [getS] at h
      cases hb : Nat.beq i 0 with
      | false => rw [hb] at h; cases h
      | true => rw [hb] at h; cases h; simp only [setS, hb, cond_true]
    | _ => simp [getS] at h
  | d + 1, s, i, v, h => by
    cases s with
    | node l r =>
      simp only [getS] at h
      simp only [setS]
      cases hb : Nat.blt i (2 ^ d) with
      | true => rw [hb] at h; simp only [cond_true, Sl.left, Sl.right]; rw [setS_same d l i v h]
      | false => rw [hb] at h; simp only [cond_false, Sl.left, Sl.right]; rw [setS_same d r _ v h]
    | _ => simp [getS] at h
theorem setS_comm : ∀ (d : Nat) (s : Sl) (i j : Nat) (v u : V), i ≠ j → setS d (setS d s i v) j u = setS d (setS d s j u) i v
  | 0, s, i, j, v, u, h => by
    simp only [setS, beq0_eq]
    by_cases hi : i = 0 <;> by_cases hj : j = 0
    · omega
    · simp [hi, hj]
    · simp [hi, hj]
    · simp [hi, hj]
  | d + 1, s, i, j, v, u, h => by
    simp only [setS, blt_eq]
    by_cases hi : i < 2 ^ d <;> by_cases hj : j < 2 ^ d <;> simp only [hi, hj, decide_true, decide_false, cond_true, cond_false, Sl.left, Sl.right]
    · rw [setS_comm d _ _ _ _ _ h]
    · rw [setS_comm d _ _ _ _ _ (show i - 2 ^ d ≠ j - 2 ^ d by omega)]
theorem getS_mkN (d : Nat) (l r : Sl) (t : Nat) : getS (d + 1) (mkN l r) t = getS (d + 1) (.node l r) t := by
  unfold mkN
  split
  · rw [getS_tip, getS_half]; simp only [Sl.left, Sl.right, getS_tip]; cases Nat.blt t (2 ^ d) <;> rfl
  · rfl
theorem getS_keepS (m : Nat) : ∀ (d i : Nat) (s : Sl) (t : Nat) (v : V), getS d (keepS m d i s) t = some v → getS d s t = some v
  | 0, i, s, t, v, h => by
    cases s with
    | leaf w =>
      simp only [keepS] at h
      cases hb : m.testBit i with
      | true => rw [hb] at h; exact h
      | false => rw [hb] at h; simp [getS] at h
    | tip => simp [keepS, getS] at h
    | node l r => simp [keepS, getS] at h
  | d + 1, i, s, t, v, h => by
    cases s with
    | node l r =>
      simp only [keepS] at h
      rw [getS_mkN] at h
      simp only [getS] at h ⊢
      cases hb : Nat.blt t (2 ^ d) with
      | true => rw [hb] at h; exact getS_keepS m d i l t v h
      | false => rw [hb] at h; exact getS_keepS m d _ r _ v h
    | tip => simp [keepS, getS] at h
    | leaf w => simp [keepS, getS] at h
theorem getS_ids : ∀ (d : Nat) (s : Sl) (t : Nat) (v : V), getS d s t = some v → ∀ b ∈ idsV v, b ∈ idsS s
  | 0, s, t, v, h, b, hb => by
    cases s with
    | leaf w =>
      simp only [getS] at h
      cases hq : Nat.beq t 0 with
      | true => rw [hq] at h; cases h; exact hb
      | false => rw [hq] at h; cases h
    | _ => simp [getS] at h
  | d + 1, s, t, v, h, b, hb => by
    cases s with
    | node l r =>
      simp only [getS] at h
      simp only [idsS, List.mem_append]
      cases hq : Nat.blt t (2 ^ d) with
      | true => rw [hq] at h; exact .inl (getS_ids d l t v h b hb)
      | false => rw [hq] at h; exact .inr (getS_ids d r _ v h b hb)
    | _ => simp [getS] at h
theorem getT_some {l : Tm} {t : Nat} {v : V} (h : getT l t = some v) : t < l.n ∧ getS 9 l.s t = some v := by
  unfold getT at h
  rw [blt_eq] at h
  by_cases ht : t < l.n
  · simp only [ht, decide_true, cond_true] at h; exact ⟨ht, h⟩
  · simp only [ht, decide_false, cond_false] at h; cases h
theorem getT_setT_ne (l : Tm) {d t : Nat} (v : V) (h : t ≠ d) : getT (setT l d v) t = getT l t := by
  unfold setT
  cases hb : Nat.blt d l.n with
  | true => simp only [cond_true, getT, getS_setS_ne 9 l.s d t v h]
  | false => rfl
theorem setT_n (l : Tm) (d : Nat) (v : V) : (setT l d v).n = l.n := by unfold setT; cases Nat.blt d l.n <;> rfl
theorem getT_setT_eq {l : Tm} {d : Nat} {v u : V} (h : getT (setT l d v) d = some u) : d < l.n ∧ u = v := by
  obtain ⟨h1, h2⟩ := getT_some h
  rw [setT_n] at h1
  refine ⟨h1, ?_⟩
  unfold setT at h2
  rw [blt_eq] at h2
  simp only [h1, decide_true, cond_true] at h2
  exact getS_setS_eq 9 _ _ _ _ h2
theorem putArgs_get : ∀ (args : List V) (i : Nat) (s : Sl) (t : Nat) (v : V), getS 9 (putArgs i args s) t = some v → (i ≤ t ∧ args[t - i]? = some v) ∨ getS 9 s t = some v
  | [], i, s, t, v, h => .inr h
  | x :: l, i, s, t, v, h => by
    simp only [putArgs] at h
    rcases putArgs_get l (i + 1) _ t v h with ⟨h1, h2⟩ | h1
    · refine .inl ⟨by omega, ?_⟩
      rw [show t - i = (t - (i + 1)) + 1 by omega]
      simpa using h2
    · by_cases ht : t = i
      · subst ht
        have := getS_setS_eq 9 _ _ _ _ h1
        subst this
        exact .inl ⟨Nat.le_refl _, by simp⟩
      · rw [getS_setS_ne 9 _ _ _ _ ht] at h1
        exact .inr h1
theorem slice_eq : ∀ (l : List C) (o n : Nat) (r : List C), slice l o n = some r → r.length = n ∧ ∀ i, i < n → r[i]? = l[o + i]? ∧ o + i < l.length
  | l, o, 0, r, h => by cases l <;> simp [slice] at h <;> subst h <;> simp
  | [], o, n + 1, r, h => by simp [slice] at h
  | x :: l, 0, n + 1, r, h => by
    simp only [slice] at h
    split at h
    · rename_i r' hr
      cases h
      obtain ⟨h1, h2⟩ := slice_eq l 0 n r' hr
      refine ⟨by simp [h1], fun i hi => ?_⟩
      cases i with
      | zero => simp
      | succ i =>
        have := h2 i (by omega)
        simp at this ⊢
        exact this
    · cases h
  | x :: l, o + 1, n + 1, r, h => by
    simp only [slice] at h
    obtain ⟨h1, h2⟩ := slice_eq l o (n + 1) r h
    refine ⟨h1, fun i hi => ?_⟩
    have := h2 i hi
    rw [show o + 1 + i = (o + i) + 1 by omega]
    simp only [List.getElem?_cons_succ, List.length_cons]
    exact ⟨this.1, by omega⟩
theorem splice_eq : ∀ (l : List C) (o : Nat) (xs r : List C), splice l o xs = some r → o + xs.length ≤ l.length ∨ xs = []
  | l, o, [], r, h => .inr rfl
  | [], o, x :: xs, r, h => by simp [splice] at h
  | y :: l, 0, x :: xs, r, h => by
    simp only [splice] at h
    split at h
    · rename_i r' hr
      have := splice_eq l 0 xs r' hr
      left
      simp only [List.length_cons]
      rcases this with this | this
      · omega
      · subst this; simp
    · cases h
  | y :: l, o + 1, x :: xs, r, h => by
    simp only [splice] at h
    split at h
    · rename_i r' hr
      have := splice_eq l o (x :: xs) r' hr
      left
      rcases this with this | this
      · simp only [List.length_cons] at this ⊢; omega
      · cases this
    · cases h
/-- cells of any kind put in from a place on. -/
def put {α : Type} (l : List α) (o : Nat) : List α → List α
  | [] => l
  | x :: xs => put (l.set o x) (o + 1) xs
theorem put_cons {α : Type} (y : α) (l : List α) (o : Nat) (xs : List α) : put (y :: l) (o + 1) xs = y :: put l o xs := by
  induction xs generalizing l o with
  | nil => rfl
  | cons x xs ih => simp only [put, List.set_cons_succ]; exact ih _ _
theorem splice_put : ∀ (l : List C) (o : Nat) (xs r : List C), splice l o xs = some r → r = put l o xs
  | l, o, [], r, h => by
    cases l <;> cases o <;> simp [splice] at h <;> subst h <;> rfl
  | [], o, x :: xs, r, h => by simp [splice] at h
  | y :: l, 0, x :: xs, r, h => by
    simp only [splice] at h
    split at h
    · rename_i r' hr
      cases h
      have := splice_put l 0 xs r' hr
      subst this
      simp only [put, List.set_cons_zero]
      rw [put_cons]
    · cases h
  | y :: l, o + 1, x :: xs, r, h => by
    simp only [splice] at h
    split at h
    · rename_i r' hr
      cases h
      have := splice_put l o (x :: xs) r' hr
      subst this
      rw [put_cons]
    · cases h
theorem put_length {α : Type} (l : List α) (o : Nat) (xs : List α) : (put l o xs).length = l.length := by
  induction xs generalizing l o with
  | nil => rfl
  | cons x xs ih => simp [put, ih]
theorem put_append {α : Type} (l tl : List α) (o : Nat) (xs : List α) (h : o + xs.length ≤ l.length) : put (l ++ tl) o xs = put l o xs ++ tl := by
  induction xs generalizing l o with
  | nil => rfl
  | cons x xs ih =>
    simp only [put]
    simp only [List.length_cons] at h
    rw [List.set_append_left _ _ (by omega), ih _ _ (by simp; omega)]
theorem allSome_length {α β : Type} (f : α → Option β) : ∀ (l : List α) (r : List β), allSome f l = some r → r.length = l.length
  | [], r, h => by simp [allSome] at h; simp [← h]
  | x :: l, r, h => by
    simp only [allSome] at h
    split at h
    · split at h
      · rename_i hr
        cases h
        simp [allSome_length f l _ hr]
      · cases h
    · cases h
theorem allSome_get {α β : Type} (f : α → Option β) : ∀ (l : List α) (r : List β), allSome f l = some r → ∀ (i : Nat) x, l[i]? = some x → ∃ y, f x = some y ∧ r[i]? = some y
  | [], r, h, i, x, hx => by simp at hx
  | x :: l, r, h, i, x', hx => by
    simp only [allSome] at h
    split at h
    · rename_i y hy
      split at h
      · rename_i ys hr
        cases h
        cases i with
        | zero => simp at hx; subst hx; exact ⟨y, hy, rfl⟩
        | succ i => simp at hx; simpa using allSome_get f l ys hr i x' hx
      · cases h
    · cases h

/-! ### values -/
abbrev Env := List (Nat × Nat)
/-- a slice without elements: nil, or one that is not. -/
def zeroS (r : Nat × Nat) : Option Value := if r.2 = 0 then some (if r.1 = 0 then .slice none 0 0 else .slice (some ⟨r.1 - 1, 0, none⟩) 0 0) else none
mutual
def den (pv : Value) (e : Env) : C → Option Value
  | .bool b => some (.bool b)
  | .int k n => some (.int k n)
  | .nilp => some (.pointer none)
  | .ptr b o => (e[b]?).map fun r => .pointer (some ⟨r.1, o, none⟩)
  | .nils => some (.slice none 0 0)
  | .sl b o n c => (e[b]?).map fun r => .slice (some ⟨r.1, o, none⟩) n c
  | .slg b o n => (e[b]?).bind fun r => if o + n ≤ r.2 then some (.slice (some ⟨r.1, if r.2 = o then 0 else o, none⟩) n (r.2 - o)) else none
  | .pr b o i n f => (e[b]?).map fun r => .pointer (some ⟨r.1, o + (i.toNat * n + f), none⟩)
  | .slw b o z n c => (e[b]?).map fun r => .slice (if n = 0 then z else some ⟨r.1, o, none⟩) n c
  | .slr b n => (e[b]?).bind fun r => if n = 0 then zeroS r else if n ≤ r.2 then some (.slice (some ⟨r.1, 0, none⟩) n r.2) else none
  | .slv b z o n => (e[b]?).bind fun r => if r.2 = 0 then (if o + n = 0 then zeroS r else none) else if o + n ≤ r.2 then some (.slice (some ⟨r.1, if r.2 = o then 0 else o * z, none⟩) n (r.2 - o)) else none
  | .fn f caps => (denL pv e caps).map fun vs => .func (.func f) #[] vs.toArray
  | .meth s c => (den pv e c).map fun v => .func (.method s) #[v] #[]
  | .nilf => some .nilFunc
  | .nili => some .nilIface
  | .nilm => some (.map none)
  | .port => some pv
  | .mp b => (e[b]?).map fun r => .map (some r.1)
  | .ifc t c => (den pv e c).map fun v => .iface t v
def denL (pv : Value) (e : Env) : List C → Option (List Value)
  | [] => some []
  | c :: l => match den pv e c with
    | some v => match denL pv e l with
      | some vs => some (v :: vs)
      | none => none
    | none => none
end
theorem denL_eq (pv : Value) (e : Env) : ∀ l, denL pv e l = allSome (den pv e) l
  | [] => by simp [denL, allSome]
  | c :: l => by
    simp only [denL, allSome, denL_eq pv e l]
    cases den pv e c with
    | none => rfl
    | some v => cases allSome (den pv e) l <;> rfl
def denV1 (pv : Value) (e : Env) : V1 → Option Value
  | .c x => den pv e x
  | .agg l => (denL pv e l).map fun vs => .agg vs.toArray
def denV (pv : Value) (e : Env) : V → Option Value
  | .c x => den pv e x
  | .agg l => (denL pv e l).map fun vs => .agg vs.toArray
  | .tup l => (allSome (denV1 pv e) l).map fun vs => .tuple vs.toArray
theorem denV_up (pv : Value) (e : Env) (x : V1) : denV pv e x.up = denV1 pv e x := by cases x <;> rfl
theorem denV_down {pv : Value} {e : Env} {v : V} {x : V1} (h : v.down = some x) : denV1 pv e x = denV pv e v := by
  cases v <;> simp [V.down] at h <;> subst h <;> rfl
/-- an environment that goes on. -/
def Ext (e e' : Env) : Prop := ∃ x, e' = e ++ x
theorem Ext.refl (e : Env) : Ext e e := ⟨[], by simp⟩
theorem Ext.trans {a b c : Env} (h : Ext a b) (h' : Ext b c) : Ext a c := by
  obtain ⟨x, rfl⟩ := h
  obtain ⟨y, rfl⟩ := h'
  exact ⟨x ++ y, by simp⟩
theorem Ext.get {e e' : Env} (h : Ext e e') {i : Nat} {r : Nat × Nat} (hr : e[i]? = some r) : e'[i]? = some r := by
  obtain ⟨x, rfl⟩ := h
  rw [List.getElem?_append_left]
  · exact hr
  · exact (List.getElem?_eq_some_iff.1 hr).1
theorem map_some_mono {α β : Type} {f : α → β} {a b : Option α} {v : β} (h : ∀ x, a = some x → b = some x) (hv : a.map f = some v) : b.map f = some v := by
  cases a with
  | none => simp at hv
  | some x => rw [h x rfl]; exact hv
theorem bind_some_mono {α β : Type} {f : α → Option β} {a b : Option α} {v : β} (h : ∀ x, a = some x → b = some x) (hv : a.bind f = some v) : b.bind f = some v := by
  cases a with
  | none => simp at hv
  | some x => rw [h x rfl]; exact hv
mutual
theorem den_ext {pv : Value} {e e' : Env} (h : Ext e e') : ∀ (c : C) (v : Value), den pv e c = some v → den pv e' c = some v
  | .bool b, v, hv => by simpa [den] using hv
  | .int k n, v, hv => by simpa [den] using hv
  | .nilp, v, hv => by simpa [den] using hv
  | .ptr b o, v, hv => by simp only [den] at hv ⊢; exact map_some_mono (fun x hx => h.get hx) hv
  | .nils, v, hv => by simpa [den] using hv
  | .sl b o n c, v, hv => by simp only [den] at hv ⊢; exact map_some_mono (fun x hx => h.get hx) hv
  | .slg b o n, v, hv => by simp only [den] at hv ⊢; exact bind_some_mono (fun x hx => h.get hx) hv
  | .pr b o i n f, v, hv => by simp only [den] at hv ⊢; exact map_some_mono (fun x hx => h.get hx) hv
  | .slw b o z n c, v, hv => by simp only [den] at hv ⊢; exact map_some_mono (fun x hx => h.get hx) hv
  | .slr b n, v, hv => by simp only [den] at hv ⊢; exact bind_some_mono (fun x hx => h.get hx) hv
  | .slv b z o n, v, hv => by simp only [den] at hv ⊢; exact bind_some_mono (fun x hx => h.get hx) hv
  | .fn f caps, v, hv => by simp only [den] at hv ⊢; exact map_some_mono (fun x hx => denL_ext h caps x hx) hv
  | .meth s c, v, hv => by simp only [den] at hv ⊢; exact map_some_mono (fun x hx => den_ext h c x hx) hv
  | .nilf, v, hv => by simpa [den] using hv
  | .nili, v, hv => by simpa [den] using hv
  | .nilm, v, hv => by simpa [den] using hv
  | .port, v, hv => by simpa [den] using hv
  | .mp b, v, hv => by simp only [den] at hv ⊢; exact map_some_mono (fun x hx => h.get hx) hv
  | .ifc t c, v, hv => by simp only [den] at hv ⊢; exact map_some_mono (fun x hx => den_ext h c x hx) hv
theorem denL_ext {pv : Value} {e e' : Env} (h : Ext e e') : ∀ (l : List C) (vs : List Value), denL pv e l = some vs → denL pv e' l = some vs
  | [], vs, hv => by simpa [denL] using hv
  | c :: l, vs, hv => by
    simp only [denL] at hv ⊢
    split at hv
    · rename_i v hc
      split at hv
      · rename_i vs' hl
        rw [den_ext h c v hc, denL_ext h l vs' hl]
        exact hv
      · cases hv
    · cases hv
end
theorem denV1_ext {pv : Value} {e e' : Env} (h : Ext e e') (x : V1) (v : Value) (hv : denV1 pv e x = some v) : denV1 pv e' x = some v := by
  cases x with
  | c x => exact den_ext h x v hv
  | agg l => simp only [denV1] at hv ⊢; exact map_some_mono (fun x hx => denL_ext h l x hx) hv
theorem allSome_mono {α β : Type} {f g : α → Option β} (h : ∀ x y, f x = some y → g x = some y) : ∀ (l : List α) (r : List β), allSome f l = some r → allSome g l = some r
  | [], r, hr => by simpa [allSome] using hr
  | x :: l, r, hr => by
    simp only [allSome] at hr ⊢
    split at hr
    · rename_i y hy
      split at hr
      · rename_i ys hl
        rw [h x y hy, allSome_mono h l ys hl]
        exact hr
      · cases hr
    · cases hr
theorem denV_ext {pv : Value} {e e' : Env} (h : Ext e e') (x : V) (v : Value) (hv : denV pv e x = some v) : denV pv e' x = some v := by
  cases x with
  | c x => exact den_ext h x v hv
  | agg l => simp only [denV] at hv ⊢; exact map_some_mono (fun x hx => denL_ext h l x hx) hv
  | tup l => simp only [denV] at hv ⊢; exact map_some_mono (fun x hx => allSome_mono (fun a b => denV1_ext h a b) l x hx) hv
/-- values that fill one cell. -/
def One (v : Value) : Prop := (∀ cs, v ≠ .agg cs) ∧ ∀ cs, v ≠ .tuple cs
theorem One.cells {v : Value} (h : One v) : v.cells = #[v] := by
  cases v with
  | agg cs => exact absurd rfl (h.1 cs)
  | _ => rfl
theorem zeroS_eq {r : Nat × Nat} {v : Value} (h : zeroS r = some v) : r.2 = 0 ∧ (v = .slice none 0 0 ∨ ∃ a, v = .slice (some a) 0 0) := by
  unfold zeroS at h
  split at h
  · cases h
    refine ⟨‹_›, ?_⟩
    split
    · exact .inl rfl
    · exact .inr ⟨_, rfl⟩
  · cases h
theorem zeroS_one {r : Nat × Nat} {v : Value} (h : zeroS r = some v) : One v := by
  rcases (zeroS_eq h).2 with rfl | ⟨a, rfl⟩ <;> exact ⟨(fun _ h => by cases h), (fun _ h => by cases h)⟩
theorem den_one {pv : Value} (hp : One pv) {e : Env} {c : C} {v : Value} (h : den pv e c = some v) : One v := by
  cases c <;> simp only [den, Option.map_eq_some_iff, Option.some.injEq, Option.bind_eq_some_iff] at h
  case port => subst h; exact hp
  case slg => obtain ⟨_, _, h⟩ := h; split at h <;> cases h; exact ⟨(fun _ h => by cases h), (fun _ h => by cases h)⟩
  case slr =>
    obtain ⟨_, _, h⟩ := h
    split at h
    · exact zeroS_one h
    · split at h <;> cases h; exact ⟨(fun _ h => by cases h), (fun _ h => by cases h)⟩
  case slv =>
    obtain ⟨_, _, h⟩ := h
    split at h
    · split at h
      · exact zeroS_one h
      · cases h
    · split at h <;> cases h; exact ⟨(fun _ h => by cases h), (fun _ h => by cases h)⟩
  all_goals first
    | (subst h; exact ⟨(fun _ h => by cases h), (fun _ h => by cases h)⟩)
    | (obtain ⟨_, _, rfl⟩ := h; exact ⟨(fun _ h => by cases h), (fun _ h => by cases h)⟩)
theorem denL_one {pv : Value} (hp : One pv) {e : Env} {l : List C} {vs : List Value} (h : denL pv e l = some vs) : ∀ v ∈ vs, One v := by
  rw [denL_eq] at h
  intro v hv
  obtain ⟨i, hi⟩ := List.getElem?_of_mem hv
  have hl := allSome_length _ _ _ h
  have : i < l.length := by rw [← hl]; exact (List.getElem?_eq_some_iff.1 hi).1
  obtain ⟨y, hy, hr⟩ := allSome_get _ _ _ h i _ (List.getElem?_eq_getElem this)
  rw [hi] at hr
  cases hr
  exact den_one hp hy
theorem denV_cells {pv : Value} (hp : One pv) {e : Env} {v : V} {rv : Value} {cs : List C} (h : denV pv e v = some rv) (hc : v.cells = some cs) : denL pv e cs = some rv.cells.toList := by
  cases v with
  | c x =>
    simp only [V.cells, Option.some.injEq] at hc
    subst hc
    simp only [denV] at h
    simp only [denL, h, (den_one hp h).cells]
  | agg l =>
    simp only [V.cells, Option.some.injEq] at hc
    subst hc
    simp only [denV, Option.map_eq_some_iff] at h
    obtain ⟨vs, h1, rfl⟩ := h
    simpa [Value.cells] using h1
  | tup l => simp [V.cells] at hc
theorem denL_get {pv : Value} {e : Env} {l : List C} {vs : List Value} (h : denL pv e l = some vs) {i : Nat} {c : C} (hc : l[i]? = some c) : ∃ v, den pv e c = some v ∧ vs[i]? = some v := by
  rw [denL_eq] at h
  exact allSome_get _ _ _ h i c hc
theorem denL_length {pv : Value} {e : Env} {l : List C} {vs : List Value} (h : denL pv e l = some vs) : vs.length = l.length := by
  rw [denL_eq] at h
  exact allSome_length _ _ _ h
theorem denL_of {pv : Value} {e : Env} : ∀ {l : List C} {vs : List Value}, vs.length = l.length → (∀ (i : Nat) c, l[i]? = some c → den pv e c = vs[i]?) → denL pv e l = some vs
  | [], vs, hl, h => by cases vs with | nil => rfl | cons => simp at hl
  | c :: l, [], hl, h => by simp at hl
  | c :: l, v :: vs, hl, h => by
    have h0 := h 0 c rfl
    simp only [List.getElem?_cons_zero] at h0
    have := denL_of (pv := pv) (e := e) (l := l) (vs := vs) (by simpa using hl) fun i c hc => by simpa using h (i + 1) c (by simpa using hc)
    simp [denL, h0, this]
theorem denL_slice {pv : Value} {e : Env} {l r : List C} {vs : List Value} {o n : Nat} (h : denL pv e l = some vs) (hs : slice l o n = some r) : denL pv e r = some (vs.extract o (o + n)) ∧ o + n ≤ vs.length ∨ n = 0 ∧ r = [] := by
  obtain ⟨h1, h2⟩ := slice_eq l o n r hs
  have hl := denL_length h
  by_cases hn : n = 0
  · right
    subst hn
    exact ⟨rfl, List.length_eq_zero_iff.1 h1⟩
  · left
    have hb := (h2 (n - 1) (by omega)).2
    refine ⟨denL_of (by simp; omega) fun i c hc => ?_, by omega⟩
    have hi : i < n := by rw [← h1]; exact (List.getElem?_eq_some_iff.1 hc).1
    obtain ⟨h3, h4⟩ := h2 i hi
    rw [hc] at h3
    obtain ⟨v, hv, hvs⟩ := denL_get h h3.symm
    rw [hv, List.extract_eq_take_drop, List.getElem?_take, if_pos (by omega), List.getElem?_drop, hvs]
theorem denL_set {pv : Value} {e : Env} {l : List C} {vs : List Value} (h : denL pv e l = some vs) {o : Nat} {c : C} {v : Value} (hc : den pv e c = some v) : denL pv e (l.set o c) = some (vs.set o v) := by
  have hl := denL_length h
  refine denL_of (by simp [hl]) fun i x hx => ?_
  rw [List.getElem?_set] at hx ⊢
  split at hx
  · rename_i ho
    subst ho
    split at hx
    · cases hx
      rw [if_pos rfl, if_pos (by omega), hc]
    · cases hx
  · rename_i ho
    rw [if_neg ho]
    obtain ⟨y, hy, hys⟩ := denL_get h hx
    rw [hy, hys]
theorem denL_put {pv : Value} {e : Env} {l xs : List C} {vs ys : List Value} {o : Nat} (h : denL pv e l = some vs) (hx : denL pv e xs = some ys) : denL pv e (put l o xs) = some (put vs o ys) := by
  induction xs generalizing l vs ys o with
  | nil => simp only [denL, Option.some.injEq] at hx; subst hx; exact h
  | cons x xs ih =>
    simp only [denL] at hx
    split at hx
    · rename_i v hv
      split at hx
      · rename_i us hu
        cases hx
        exact ih (denL_set h hv) hu
      · cases hx
    · cases hx
theorem constC_den {pv : Value} {e : Env} {v : Value} {c : C} (h : constC v = some c) : den pv e c = some v := by
  unfold constC at h
  split at h <;> first | (cases h; rfl) | cases h
theorem constV_den {pv : Value} {e : Env} {v : Value} {x : V} (h : constV v = some x) : denV pv e x = some v := by
  unfold constV at h
  split at h
  · rename_i cs
    rw [Option.map_eq_some_iff] at h
    obtain ⟨l, hl, rfl⟩ := h
    have : denL pv e l = some cs.toList := by
      refine denL_of (by rw [allSome_length _ _ _ hl]) fun i c hc => ?_
      have hi : i < cs.toList.length := by rw [← allSome_length _ _ _ hl]; exact (List.getElem?_eq_some_iff.1 hc).1
      obtain ⟨y, hy, hr⟩ := allSome_get _ _ _ hl i _ (List.getElem?_eq_getElem hi)
      rw [hc] at hr
      cases hr
      rw [constC_den hy, List.getElem?_eq_getElem hi]
    simp [denV, this]
  · rename_i cs
    split at h
    · rename_i h0
      cases h
      simp only [denV, allSome, Option.map_some, Option.some.injEq, Value.tuple.injEq]
      exact (Array.eq_empty_of_size_eq_zero h0).symm
    · cases h
  · rename_i v h1 h2
    rw [Option.map_eq_some_iff] at h
    obtain ⟨c, hc, rfl⟩ := h
    exact constC_den hc
end Go.Proofs.Ytjcdojcbdfblbaa.Lx
