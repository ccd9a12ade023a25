/- Part. -/
import Derived.Test.YtaegelbaghaooaaGreatCfM7
set_option linter.all false
open Go.IntKind (i64 u64 u32 u8)
namespace Go.Proofs.YtaegelbaghaooaaGreat
open Go Go.RowKit Lx
/-! ### lists of links -/
theorem KF {f : Nat -> Int} : ∀ {l1 l2 : List Nat}, linkedN f (l1 ++ l2) -> linkedN f l2
 | [], _, h => h
 | _ :: l1, _, h => KF (l1 := l1) h.2
theorem xcr {f : Nat -> Int} {p m : Nat} {l2 : List Nat} : ∀ {l1 : List Nat}, (l1 ++ p :: m :: l2).Nodup -> (∀ y ∈ l1 ++ p :: m :: l2, 1 <= y) -> linkedN f (l1 ++ p :: m :: l2) -> linkedN (fun q => if q = p - 1 then (hdn l2 : Int) else f q) (l1 ++ p :: l2)
 | [], hn, hp, h => by
  simp only [List.nil_append, List.nodup_cons, List.mem_cons, not_or] at hn
  refine ⟨by simp, yg (fun y hy hh => ?_) h.2.2⟩
  have h1 := hp p (by simp)
  have h2 := hp y (by simp [hy])
  obtain rfl : y = p := by omega
  exact hn.1.2 hy
 | a :: l1, hn, hp, h => by
  simp only [List.cons_append, List.nodup_cons] at hn
  have h1 := hp p (by simp)
  have h2 := hp a (by simp)
  have hap : a ≠ p := fun hh => hn.1 (by simp [hh])
  refine ⟨?_, xcr hn.2 (fun y hy => hp y (by simp only [List.cons_append, List.mem_cons]; exact .inr hy)) h.2⟩
  show (if a - 1 = p - 1 then (hdn l2 : Int) else f (a - 1)) = _
  rw [if_neg (by omega), h.1]
  cases l1 <;> rfl
def lkR (x : Nat) (l1 : List Nat) : Nat × Nat := match l1.getLast? with
 | none => (13, x)
 | some p => (17, p - 1)
theorem Yp (x : Nat) : lkR x [] = (13, x) := rfl
theorem vi (x : Nat) (l : List Nat) (p : Nat) : lkR x (l ++ [p]) = (17, p - 1) := by simp [lkR]
theorem wf (l : List Nat) : l = [] \/ ∃ l0 p, l = l0 ++ [p] := by
 cases h : l.getLast? with
 | none => exact .inl (by simpa using h)
 | some p => exact .inr ⟨l.dropLast, p, by
   have := List.getLast?_eq_some_iff.1 h
   obtain ⟨ys, hy⟩ := this
   rw [hy]; simp⟩
/-! ### the nodes of each thread that are gone, told -/
def GonR (n t : Nat) (A : AS) (bag : Nat -> List Nat) (pl : List Nat) (rt : Nat -> List Nat) : Prop :=
 (∀ q, q < t -> (rt q).length <= 2 * t + 2 /\ A.w 15 q = ((rt q).length : Int) /\ (rt q).Nodup /\ (∀ k, k < (rt q).length -> A.w 16 (q * (2 * t + 2) + k) = (((rt q).getD k 0 : Nat) : Int)) /\ ∀ m ∈ rt q, 1 <= m /\ m <= nodesN n t /\ m ∉ pl /\ ∀ i, i < 4 * t -> m ∉ bag i) /\
 ∀ q q' m, q < t -> q' < t -> m ∈ rt q -> m ∈ rt q' -> q = q'
section
variable {n t : Nat} {A A' : AS} {held : Nat -> Option HK} {S : List Sg} {mp vr : Nat -> Nat} {rem bag : Nat -> List Nat} {pl : List Nat}
theorem HI.regon (h : HI n t A held S mp vr rem bag pl) (hw : ∀ r i, r ≠ 15 -> r ≠ 16 -> A'.w r i = A.w r i) (hg : Gon n t A' bag pl) : HI n t A' held S mp vr rem bag pl := by
 have e : ∀ r, r ≠ 15 -> r ≠ 16 -> A'.w r = A.w r := fun r h1 h2 => funext fun i => hw r i h1 h2
 exact ⟨h.laid.of (fun i => hw 7 i (by decide) (by decide)) (fun i => hw 3 i (by decide) (by decide)), h.norm, h.nodf, by rw [hw 1 0 (by decide) (by decide)]; exact h.ep, h.ver, by rw [e 8 (by decide) (by decide)]; exact h.bitS, by rw [e 8 (by decide) (by decide)]; exact h.bitN, by rw [e 9 (by decide) (by decide), e 10 (by decide) (by decide)]; exact h.remw, h.remb, by rw [e 12 (by decide) (by decide)]; exact h.cach, by rw [e 13 (by decide) (by decide), e 17 (by decide) (by decide)]; exact h.bagw, h.bagn, h.bagd, by rw [e 18 (by decide) (by decide)]; exact h.item, by rw [hw 4 0 (by decide) (by decide), e 17 (by decide) (by decide)]; exact h.polw, h.poln, h.hblk, h.hrun, by rw [e 12 (by decide) (by decide), e 18 (by decide) (by decide)]; exact h.tok, hg⟩
theorem HI.give (h : HI n t A held S mp vr rem bag pl) {m v : Nat} (hm : 1 <= m) (hm2 : m <= nodesN n t) (hno : ∀ i, i < 4 * t -> m ∉ bag i) (hnp : m ∉ pl) (hv : v < 4294967296) (hgn : Gon n t A bag (m :: pl)) :
  HI n t ((A.set 17 (m - 1) (hdn pl : Int)).set 4 0 (Ref.word ⟨(m : Int), false, (v : Int)⟩)) held S mp vr rem bag (m :: pl) := by
 have hne : ∀ i, i < 4 * t -> ∀ y ∈ bag i, y - 1 ≠ m - 1 := fun i hi y hy hh => by
  have := ((h.bagn i hi).2 y hy).1
  obtain rfl : y = m := by omega
  exact hno i hi hy
 refine ⟨h.laid.of (fun _ => rfl) (fun _ => rfl), h.norm, h.nodf, h.ep, h.ver, h.bitS, h.bitN, h.remw, h.remb, h.cach, fun i hi => ?_, h.bagn, h.bagd, h.item, ?_, ?_, h.hblk, h.hrun, h.tok, hgn.of (fun _ => rfl) (fun _ => rfl)⟩
 ·obtain ⟨h1, h2⟩ := h.bagw i hi
  refine ⟨h1, ?_⟩
  rw [xK _ _ _ (show 17 ≠ 4 by decide), yb]
  exact yg (hne i hi) h2
 ·obtain ⟨v', hv', hw, hl⟩ := h.polw
  refine ⟨v, hv, by simp [hdn], ?_⟩
  rw [xK _ _ _ (show 17 ≠ 4 by decide), yb]
  refine ⟨by simp, yg (fun y hy hh => ?_) hl⟩
  have := (h.poln.2 y hy).1
  obtain rfl : y = m := by omega
  exact hnp hy
 ·refine ⟨List.nodup_cons.2 ⟨hnp, h.poln.1⟩, fun y hy => ?_⟩
  rcases List.mem_cons.1 hy with rfl | hy
  ·exact ⟨hm, hm2, hno⟩
  ·exact h.poln.2 y hy
theorem HI.unlink (h : HI n t A held S mp vr rem bag pl) {m x : Nat} {l1 l2 : List Nat} {z : Int} (hx : x < 4 * t) (hl : bag x = l1 ++ m :: l2) (hb : Xe A m) :
  HI n t ((A.set (lkR x l1).1 (lkR x l1).2 (hdn l2 : Int)).set 17 (m - 1) z) held S mp vr rem (updL bag x (l1 ++ l2)) pl /\
  Gon n t ((A.set (lkR x l1).1 (lkR x l1).2 (hdn l2 : Int)).set 17 (m - 1) z) (updL bag x (l1 ++ l2)) (m :: pl) := by
 obtain ⟨hnd, hrg⟩ := h.bagn x hx
 have hmx : m ∈ bag x := by rw [hl]; simp
 have hmn : m ∉ l1 ++ l2 := by
  rw [hl] at hnd
  intro hh
  rw [List.nodup_append] at hnd
  simp only [List.nodup_cons, List.mem_cons, List.mem_append] at hnd hh
  rcases hh with hh | hh
  ·exact hnd.2.2 m hh m (.inl rfl) rfl
  ·exact hnd.2.1.1 hh
 have hsub : ∀ y ∈ l1 ++ l2, y ∈ bag x := fun y hy => by
  rw [hl]
  rcases List.mem_append.1 hy with hy | hy
  ·simp [hy]
  ·simp [hy]
 have hupd : ∀ i y, y ∈ updL bag x (l1 ++ l2) i -> y ∈ bag i := fun i y hy => by
  by_cases hix : i = x
  ·subst hix
   simp only [updL, if_true] at hy; exact hsub y hy
  ·simp only [updL, if_neg hix] at hy; exact hy
 have hmu : ∀ i, i < 4 * t -> m ∉ updL bag x (l1 ++ l2) i := fun i hi hy => by
  by_cases hix : i = x
  ·subst hix
   simp only [updL, if_true] at hy; exact hmn hy
  ·simp only [updL, if_neg hix] at hy; exact hix (h.bagd i x m hi hx hy hmx)
 have hwr : ∀ r i, r ≠ 13 -> r ≠ 17 -> ((A.set (lkR x l1).1 (lkR x l1).2 (hdn l2 : Int)).set 17 (m - 1) z).w r i = A.w r i := fun r i h1 h2 => by
  have : r ≠ (lkR x l1).1 := by
   rcases wf l1 with rfl | ⟨l0, p, rfl⟩
   ·exact h1
   ·rw [vi]; exact h2
  simp only [AS.set_w]
  rw [if_neg (fun hh => h2 hh.1), if_neg (fun hh => this hh.1)]
 have hm1 := hrg m hmx
 -- a list that lacks m, and the node ahead of it
 have hoth : ∀ l : List Nat, (∀ y ∈ l, 1 <= y /\ y ∉ bag x) -> linkedN (A.w 17) l -> linkedN (((A.set (lkR x l1).1 (lkR x l1).2 (hdn l2 : Int)).set 17 (m - 1) z).w 17) l := fun l hy hk => by
  rw [yb]
  refine yg (fun y hyl hh => ?_) ?_
  ·have := hy y hyl
   obtain rfl : y = m := by omega
   exact this.2 hmx
  ·rcases wf l1 with rfl | ⟨l0, p, rfl⟩
   ·rw [Yp, xK _ _ _ (show 17 ≠ 13 by decide)]; exact hk
   ·rw [vi, yb]
    refine yg (fun y hyl hh => ?_) hk
    have hp : p ∈ bag x := by rw [hl]; simp
    have := hy y hyl
    have := hrg p hp
    obtain rfl : y = p := by omega
    exact (hy y hyl).2 hp
 have hgn : Gon n t ((A.set (lkR x l1).1 (lkR x l1).2 (hdn l2 : Int)).set 17 (m - 1) z) (updL bag x (l1 ++ l2)) (m :: pl) := by
  refine h.gon.sub (fun i => hwr 15 i (by decide) (by decide)) (fun i => hwr 16 i (by decide) (by decide)) fun y hy => ?_
  rcases hy with hy | ⟨i, hi, hy⟩
  ·rcases List.mem_cons.1 hy with rfl | hy
   ·exact .inr ⟨x, hx, hmx⟩
   ·exact .inl hy
  ·exact .inr ⟨i, hi, hupd i y hy⟩
 have e : ∀ r, r ≠ 13 -> r ≠ 17 -> ((A.set (lkR x l1).1 (lkR x l1).2 (hdn l2 : Int)).set 17 (m - 1) z).w r = A.w r := fun r h1 h2 => funext fun i => hwr r i h1 h2
 refine ⟨⟨h.laid.of (fun i => hwr 7 i (by decide) (by decide)) (fun i => hwr 3 i (by decide) (by decide)), h.norm, h.nodf, by rw [e 1 (by decide) (by decide)]; exact h.ep, h.ver, by rw [e 8 (by decide) (by decide)]; exact h.bitS, by rw [e 8 (by decide) (by decide)]; exact h.bitN, by rw [e 9 (by decide) (by decide), e 10 (by decide) (by decide)]; exact h.remw, h.remb, by rw [e 12 (by decide) (by decide)]; exact h.cach, fun i hi => ?_, fun i hi => ?_, fun i j y hi hj hy hy' => h.bagd i j y hi hj (hupd i y hy) (hupd j y hy'), fun y k h1 h2 h3 => ?_, ?_, ?_, h.hblk, h.hrun, by rw [e 12 (by decide) (by decide), e 18 (by decide) (by decide)]; exact h.tok, hgn.sub (fun _ => rfl) (fun _ => rfl) (fun y hy => ?_)⟩, hgn⟩
 ·obtain ⟨h1, h2⟩ := h.bagw i hi
  by_cases hix : i = x
  ·subst hix
   simp only [updL, if_true]
   rw [hl] at h1 h2 hnd hrg
   have hset : ∀ f : Nat -> Int, linkedN f (l1 ++ l2) -> linkedN (fun q => if q = m - 1 then z else f q) (l1 ++ l2) := fun f hf => yg (fun y hy hh => by
    have := (hrg y (by rcases List.mem_append.1 hy with hy | hy <;> simp [hy])).1
    have := (hrg m (by simp)).1
    obtain rfl : y = m := by omega
    exact hmn hy) hf
   rw [yb (r := 17)]
   rcases wf l1 with rfl | ⟨l0, p, rfl⟩
   ·rw [Yp] at *
    refine ⟨by simp, hset _ ?_⟩
    rw [xK _ _ _ (show 17 ≠ 13 by decide)]
    exact h2.2
   ·rw [vi] at *
    refine ⟨?_, hset _ ?_⟩
    ·rw [xK _ _ _ (show 13 ≠ 17 by decide), xK _ _ _ (show 13 ≠ 17 by decide), h1]
     cases l0 <;> rfl
    ·rw [yb]
     simp only [List.append_assoc, List.singleton_append, List.cons_append, List.nil_append] at h2 hnd hrg |-
     exact xcr hnd (fun y hy => (hrg y hy).1) h2
  ·simp only [updL, if_neg hix]
   refine ⟨?_, hoth _ (fun y hy => ⟨((h.bagn i hi).2 y hy).1, fun hyx => hix (h.bagd i x y hi hx hy hyx)⟩) h2⟩
   rw [xK _ _ _ (show 13 ≠ 17 by decide), <- h1]
   rcases wf l1 with rfl | ⟨l0, p, rfl⟩
   ·rw [Yp, yb]; exact if_neg hix
   ·rw [vi, xK _ _ _ (show 13 ≠ 17 by decide)]
 ·obtain ⟨h1, h2⟩ := h.bagn i hi
  by_cases hix : i = x
  ·subst hix
   simp only [updL, if_true]
   refine ⟨?_, fun y hy => h2 y (hsub y hy)⟩
   rw [hl] at h1
   exact h1.sublist (List.Sublist.append_left (List.sublist_cons_self m l2) l1)
  ·simp only [updL, if_neg hix]; exact ⟨h1, h2⟩
 ·rw [e 18 (by decide) (by decide)]
  rcases h.item y k h1 h2 h3 with h0 | ⟨i, g, hi, hy, h4, h5⟩
  ·exact .inl h0
  ·by_cases hym : y = m
   ·subst hym; exact .inl (hb k h3)
   ·refine .inr ⟨i, g, hi, ?_, h4, h5⟩
    by_cases hix : i = x
    ·subst hix
     simp only [updL, if_true]
     rw [hl] at hy
     simp only [List.mem_append, List.mem_cons] at hy |-
     rcases hy with hy | hy | hy
     ·exact .inl hy
     ·exact absurd hy hym
     ·exact .inr hy
    ·simp only [updL, if_neg hix]; exact hy
 ·obtain ⟨v, hv, hw, hk⟩ := h.polw
  exact ⟨v, hv, by rw [e 4 (by decide) (by decide)]; exact hw, hoth _ (fun y hy => ⟨(h.poln.2 y hy).1, (h.poln.2 y hy).2.2 x hx⟩) hk⟩
 ·exact ⟨h.poln.1, fun y hy => ⟨(h.poln.2 y hy).1, (h.poln.2 y hy).2.1, fun i hi hyi => (h.poln.2 y hy).2.2 i hi (hupd i y hyi)⟩⟩
 ·rcases hy with hy | hy
  ·exact .inl (by simp [hy])
  ·exact .inr hy
end
section
variable {n t : Nat} (hf : Small n t) {A : AS} {held : Nat -> Option HK} {S : List Sg} {mp vr : Nat -> Nat} {rem bag : Nat -> List Nat} {pl : List Nat}
include hf
/-! ### runs -/
omit hf in
theorem Rn.step1 {α σ : Type} {A : AS} {Q : α -> AS -> Prop} {N : Nat} {B : σ -> (σ -> T α) -> T α} {i : σ} (h : Rn n t (B i (xr N B)) A Q) : Rn n t (xr (N + 1) B i) A Q := h
theorem xwd {m : Nat} (hm : 1 <= m) (hm2 : m <= nodesN n t) : Rn n t (xid (xb n t) (m : Int)) A fun r A' => Fr [] 8 A A' /\ (r = true -> Xe A m) := by
 have step : ∀ (k : Nat), k < 8 -> ∀ (B : AS), Fr [] k A B -> (∀ j, j < k -> A.w 18 ((m - 1) * 8 + j) = 0) -> ∀ (X : T Bool), (∀ B', Fr [] (k + 1) A B' -> (∀ j, j < k + 1 -> A.w 18 ((m - 1) * 8 + j) = 0) -> Rn n t X B' fun r A' => Fr [] 8 A A' /\ (r = true -> Xe A m)) ->
   Rn n t (.op (.load (atF (xb n t) 18 (inF (i64.wrap ((m : Int) - 1)) (k : Int) 8))) fun x0 => bif x0 != 0 then .ret false else X) B fun r A' => Fr [] 8 A A' /\ (r = true -> Xe A m) := by
  intro k hk B hB hz X hX
  have ha := at18 hf.toFew hm hm2 hk
  have hi : (m - 1) * 8 + k < Zr n t 18 := by show _ < nodesN n t * 8; omega
  refine Rn.load ha (by omega) hi ?_
  rw [hB.w 18 (by simp)]
  refine Rn.cond (fun h0 => Rn.ret ⟨hB.trans (Fr.tick [] B), fun hh => by cases hh⟩) (fun h0 => hX _ (hB.trans (Fr.tick [] B)) fun j hj => ?_)
  by_cases hjk : j = k
  ·subst hjk; simpa using h0
  ·exact hz j (by omega)
 unfold xid xjN
 refine step 0 (by omega) A (Fr.refl _ _) (fun j hj => by omega) _ fun B1 f1 z1 => ?_
 refine step 1 (by omega) B1 f1 z1 _ fun B2 f2 z2 => ?_
 refine step 2 (by omega) B2 f2 z2 _ fun B3 f3 z3 => ?_
 refine step 3 (by omega) B3 f3 z3 _ fun B4 f4 z4 => ?_
 refine step 4 (by omega) B4 f4 z4 _ fun B5 f5 z5 => ?_
 refine step 5 (by omega) B5 f5 z5 _ fun B6 f6 z6 => ?_
 refine step 6 (by omega) B6 f6 z6 _ fun B7 f7 z7 => ?_
 refine step 7 (by omega) B7 f7 z7 _ fun B8 f8 z8 => ?_
 exact Rn.ret ⟨f8, fun _ k hk => z8 k hk⟩
theorem xqa {A : AS} {k j : Nat} : (YJ (xb n t) (k : Int) (j : Int)).run (xl n t) A = some (false, A) := by
 have := hf.n1
 unfold YJ xah xfG xds
 rw [show ((xb n t).pages == 0) = false by show (((n : Nat) : Int) == 0) = false; simp; omega]
 have e1 : ((-1 : Int) == (k : Int)) = false := beq_eq_false_iff_ne.2 (by omega)
 have e2 : ((-1 : Int) == (j : Int)) = false := beq_eq_false_iff_ne.2 (by omega)
 simp only [cond_false]
 unfold KY KX
 simp only [e1, e2, cond_false, T.bind, T.run]; rfl
theorem xsd : je (xb n t) = ((2 * t + 2 : Nat) : Int) := by
 have := hf.t2
 unfold je
 show i64.wrap (i64.wrap (2 * ((t : Nat) : Int)) + 2) = _
 have e : i64.wrap (2 * (t : Int)) = 2 * (t : Int) := w64 (by omega) (by omega)
 rw [e, w64 (by omega) (by omega)]; omega
theorem xse {th k : Nat} (ht : th < t) (hk : k < 2 * t + 2) : th * (2 * t + 2) + k < Zr n t 16 := by
 show _ < t * (2 * t + 2)
 have : (th + 1) * (2 * t + 2) <= t * (2 * t + 2) := Nat.mul_le_mul_right _ ht
 rw [Nat.add_mul] at this; omega
theorem at16 {th k : Nat} (ht : th < t) (hk : k < 2 * t + 2) : atF (xb n t) 16 (inF (th : Int) (k : Int) (je (xb n t))) = ((Br n t 16 + (th * (2 * t + 2) + k) : Nat) : Int) := by
 have := hf.t2
 rw [xsd hf, xeL (by omega) hk (by omega)]
 exact vH hf.toFew (by omega) (xse hf ht hk)
theorem xwe {th k : Nat} (hk : 2 * t + 2 <= k) : atF (xb n t) 16 (inF (th : Int) (k : Int) (je (xb n t))) = -1 := by
 rw [xsd hf, in_bad (by omega)]
 exact at_bad hf.toFew (by omega) (by omega)
theorem xwf {m v : Nat} (hm : 1 <= m) (hm2 : m <= nodesN n t) {pl : List Nat} (hv : v < 4294967296) (hw : A.w 4 0 = Ref.word ⟨hdn pl, false, v⟩) (hpl : ∀ y ∈ pl, 1 <= y /\ y <= nodesN n t) :
  (xip (xb n t) (m : Int)).run (xl n t) A = some ((), (((A.tick.set 17 (m - 1) (hdn pl : Int)).tick).set 4 0 (Ref.word ⟨(m : Int), false, (((v + 1) % 4294967296 : Nat) : Int)⟩)).tick) := by
 have hN := hf.nodes
 have hhd := qY (N := nodesN n t) (l := pl) hpl
 have hr := xeK (hdn pl) v (by omega) hv
 rw [<- hw] at hr
 have hidx : ofW i64 (A.w 4 0) 0 24 = (hdn pl : Int) := congrArg Ref.idx hr
 have hver : ofW u32 (A.w 4 0) 32 32 = (v : Int) := congrArg Ref.ver hr
 have e1 : Ref.word ⟨(hdn pl : Int), false, 0⟩ = (hdn pl : Int) := by
  have := kM (hdn pl) 0 (by omega) (by omega)
  simpa using this
 have e2 : u32.wrap ((v : Int) + 1) = (((v + 1) % 4294967296 : Nat) : Int) := by rw [IntKind.wrap_u32]; omega
 have a17 := at17 hf.toFew hm hm2
 have a4 := at4 hf.toFew
 unfold xip xkS
 rw [a17, T.run_bind, qZ hf]
 simp only [cond_false]
 unfold qk
 rw [show xa = 4095 + 1 from rfl, xr]
 unfold xam
 rw [a17, a4]
 have d4 := xx (n := n) (t := t) (r := 4) (i := 0) (by simp [Zr]) 19 (by omega)
 have d17 := xx (n := n) (t := t) (r := 17) (i := m - 1) (by show _ < nodesN n t; omega) 19 (by omega)
 simp only [T.run, xl, d4, d17, hidx, hver, e1, e2]
 have e3 : ((A.tick.set 17 (m - 1) (hdn pl : Int)).tick).w 4 0 = A.w 4 0 := by simp
 rw [if_pos e3]
 simp only [cond_true, T.run]
theorem xwg {β : Type} {Q : β -> AS -> Prop} {th N : Nat} {x y : Int} {l : IntsL} {κ : Nat -> IntsL -> T β} (ht : th < t) (hl : l.length = N) (hN : N + 2 <= 1000)
  (hκ : ∀ l' A', l'.length = N + 2 -> Fr [] 2 A A' -> Rn n t (κ (N + 2) l') A' Q) : Rn n t (vV (th : Int) x y (xb n t) N 0 l κ) A Q := by
 have hi : ∀ s, s < 2 -> th * 2 + s < Zr n t 14 := fun s hs => by show _ < t * 2; omega
 have nb : ∀ (l : IntsL) (N : Nat), l.length = N -> N <= 1000 -> (Nat.beq l.length N && Nat.ble N 1000) = true := fun l N h1 h2 => by
  rw [Bool.and_eq_true]; rw [Nat.beq_eq, Nat.ble_eq]; exact ⟨h1, h2⟩
 have a0 := at14 hf.toFew (s := 0) ht (by omega)
 have a1 := at14 hf.toFew (s := 1) ht (by omega)
 unfold vV
 refine Rn.step1 (N := 4095) ?_
 unfold XA
 refine Rn.yes rfl (Rn.load a0 (by omega) (hi 0 (by omega)) (Rn.yes (nb _ _ hl (by omega)) ?_))
 refine Rn.step1 (N := 4094) ?_
 refine Rn.yes rfl (Rn.load a1 (by omega) (hi 1 (by omega)) (Rn.yes (nb _ _ (by simp [hl]) (by omega)) ?_))
 refine Rn.step1 (N := 4093) ?_
 refine Rn.no rfl (hκ _ _ (by simp [hl]) ((Fr.tick [] A).trans (Fr.tick [] _)))
theorem run_haz {β : Type} {Q : β -> AS -> Prop} {κ : Nat -> IntsL -> T β} (hκ : ∀ N l A', l.length = N -> N <= 1000 -> Fr [] 200 A A' -> Rn n t (κ N l) A' Q) : Rn n t (vW (xb n t).threads (xb n t) 0 0 [] κ) A Q := by
 have ht2 := hf.t2
 unfold vW
 refine Rn.loop (fun r i A1 => ∃ th : Nat, th <= t /\ r = t - th /\ i.1 = 2 * th /\ i.2.1 = (th : Int) /\ i.2.2.length = 2 * th /\ Fr [] (2 * th) A A1) ?_ xa t _ A (by unfold xa; omega) ⟨0, by omega, rfl, rfl, rfl, rfl, Fr.refl _ _⟩
 rintro r ⟨i1, i2, i3⟩ A1 κ' ⟨th, hth, rfl, h1, h2, h3, hfr⟩ hloop
 simp only at h1 h2 h3
 subst h1 h2
 unfold XB
 by_cases hlt : th < t
 ·refine Rn.yes (by rw [decide_eq_true_eq]; show ((th : Nat) : Int) < ((t : Nat) : Int); omega) ?_
  refine xwg hf hlt h3 (by omega) fun l' A2 hl2 hfr2 => ?_
  rw [show ((2 * th + 2, i64.wrap ((th : Int) + 1), l') : Nat × Int × IntsL) = (2 * (th + 1), ((th + 1 : Nat) : Int), l') by rw [xC hf.toFew (x := th) (by omega)]; rfl]
  exact hloop (t - (th + 1)) _ _ (by omega) ⟨th + 1, by omega, rfl, rfl, rfl, by rw [hl2]; omega, hfr.trans hfr2⟩
 ·refine Rn.no (by rw [decide_eq_false_iff_not]; show ¬ ((th : Nat) : Int) < ((t : Nat) : Int); omega) ?_
  exact hκ _ _ _ h3 (by omega) (hfr.mono)
theorem xwh {N : Nat} {l : IntsL} {x : Int} (hl : l.length = N) (hN : N <= 1000) : Rn n t (xaJ N l x) A fun r A' => A' = A := by
 unfold xaJ xcS
 refine Rn.bind (Q1 := fun _ A' => A' = A) ?_ fun r A' h => by subst h; exact Rn.ret rfl
 unfold VE VD vU
 refine Rn.loop (fun r i A1 => ∃ k : Nat, k <= N /\ r = N - k /\ i = (k : Int) /\ A1 = A) ?_ xa N _ A (by unfold xa; omega) ⟨0, by omega, rfl, rfl, rfl⟩
 rintro r i A1 κ ⟨k, hk, rfl, rfl, rfl⟩ hloop
 unfold qy
 by_cases hlt : k < N
 ·refine Rn.yes (by rw [decide_eq_true_eq]; omega) (Rn.yes (by rw [decide_eq_true_eq]; omega) (Rn.yes ?_ ?_))
  ·rw [hl]
   first
    | (simp [inR]; omega)
    | simp [inR, hlt]
  ·refine Rn.cond (fun _ => Rn.ret rfl) fun _ => ?_
   rw [xC hf.toFew (x := k) (by omega)]
   exact hloop (N - (k + 1)) _ _ (by omega) ⟨k + 1, by omega, rfl, rfl, rfl⟩
 ·exact Rn.no (by rw [decide_eq_false_iff_not]; omega) (Rn.ret rfl)
end
end Go.Proofs.YtaegelbaghaooaaGreat
