/- Live blocks as the document has them: rows of numbers, and what is held. -/
import Derived.Test.YtaegelbaghaooaaGreatAyM9
set_option linter.unusedSimpArgs false
set_option linter.unusedVariables false
set_option linter.unusedSectionVars false
namespace Go.Proofs.YtaegelbaghaooaaGreat
open Go Go.RowKit Lx
theorem xdn : ∀ (N : Nat) (l : List Nat), l.Nodup → (∀ x ∈ l, x < N) → l.length ≤ N
 | 0, l, _, h => by
  cases l with
  | nil => simp
  | cons x l => exact absurd (h x (by simp)) (by omega)
 | N + 1, l, hd, h => by
  by_cases hN : N ∈ l
  ·have h1 := xdn N (l.erase N) (hd.erase N) fun x hx => by
    have h2 := h x (List.mem_of_mem_erase hx)
    have h3 : x ≠ N := fun hh => by subst hh; exact (List.Nodup.mem_erase_iff hd).1 hx |>.1 rfl
    omega
   rw [List.length_erase_of_mem hN] at h1; omega
  ·exact Nat.le_trans (xdn N l hd fun x hx => by
    have h2 := h x hx
    have h3 : x ≠ N := fun hh => by subst hh; exact hN hx
    omega) (by omega)
theorem xra (N : Nat) (l : List Nat) (hd : l.Nodup) (h : ∀ x ∈ l, x < N) (hl : N ≤ l.length) : ∀ j, j < N → j ∈ l := fun j hj => by
 by_cases hm : j ∈ l
 ·exact hm
 ·exfalso
  have h1 := xdn N (j :: l) (List.nodup_cons.2 ⟨hm, hd⟩) fun x hx => by
   rcases List.mem_cons.1 hx with rfl | hx
   ·exact hj
   ·exact h x hx
  simp only [List.length_cons] at h1; omega
theorem all_len (N : Nat) (l : List Nat) (h : ∀ j, j < N → j ∈ l) : N ≤ l.length := by
 induction N generalizing l with
 | zero => omega
 | succ N ih =>
  have hN := h N (by omega)
  have h1 := ih (l.erase N) fun j hj => (List.mem_erase_of_ne (by omega)).2 (h j (by omega))
  rw [List.length_erase_of_mem hN] at h1
  have : 0 < l.length := List.length_pos_of_mem hN
  omega
structure HG (n : Nat) (held : Nat → Option HK) : Prop where
 blk : ∀ g c, held g = some (.blk c) → c < 4 ∧ ∃ p j, p < n ∧ j < blc c ∧ g = 8 * p + j * (c + 1)
 run : ∀ g k, held g = some (.run k) → 1 ≤ k ∧ ∃ p, p + k ≤ n ∧ g = 8 * p
 disj : ∀ g g' x y, held g = some x → held g' = some y → g < g' → g + x.ext ≤ g'
 one : ∀ g g' c d, held g = some (.blk c) → held g' = some (.blk d) → g / 8 = g' / 8 → c = d
theorem HInv.hg {n t : Nat} {A : AS} {held : Nat → Option HK} (hi : HInv n t A held) : HG n held := by
 obtain ⟨_, S, mp, vr, rem, bag, pl, h⟩ := hi
 refine ⟨fun g c hg => h.geo hg, fun g k hg => h.geo hg, fun g g' x y hg hg' hlt => h.disj hg hg' hlt, fun g g' c d hg hg' hp => ?_⟩
 obtain ⟨o, j, h1, _⟩ := yc (h.hblk g c hg)
 obtain ⟨o', j', h1', _⟩ := yc (h.hblk g' d hg')
 rw [hp, h1'] at h1; cases h1; rfl
def rowB (g : Nat) (x : HK) (z : Nat) : List Int := [((8 * g : Nat) : Int), ((8 * x.ext : Nat) : Int), (z : Int)]
structure LV (L : RowsL) (held : Nat → Option HK) (live : Nat → Option Nat) : Prop where
 row : ∀ r ∈ L, ∃ g x z, r = rowB g x z ∧ held g = some x ∧ live g = some z
 all : ∀ g x, held g = some x → ∃ z, live g = some z ∧ rowB g x z ∈ L
 dom : ∀ g z, live g = some z → ∃ x, held g = some x
 nd : (L.map fun r => getI r 0).Nodup
def h13 (r : List Int) : List Int := [getI r 0 / 8, if getI r 1 / 8 - 1 > 3 then -1 else getI r 1 / 8 - 1, getI r 1 / 8]
def onP (p : Int) (r : List Int) : Bool := decide (getI r 0 < 8 * p + 8) && decide (getI r 0 + getI r 2 > 8 * p)
def on13 (L : RowsL) (p : Int) : RowsL := L.filter (onP p)
def jN (L : RowsL) (m p k : Nat) : Bool := (List.range k).all fun i => decide (p + i < m) && (on13 L ((p + i : Nat) : Int)).isEmpty
def xdo (L : RowsL) (m k a : Nat) : Bool := (List.range m).any fun i => decide (i % a = 0) && jN L m i k
def hasP (L : RowsL) (c : Nat) (p : Int) : Bool := match on13 L p with | [] => true | r :: l => decide (getI r 1 = (c : Int)) && decide (l.length + 1 < blc c)
def xdp (L : RowsL) (m c : Nat) : Bool := (List.range m).any fun i => hasP L c (i : Int)
def ZS (g : Nat) (x : HK) : List Int := [(g : Int), (match x with | .blk c => (c : Int) | .run _ => -1), (x.ext : Int)]
def HK.ok : HK → Prop
 | .blk c => c < 4
 | .run k => 1 ≤ k
theorem xpw {g z : Nat} {x : HK} (hx : x.ok) : h13 (rowB g x z) = ZS g x := by
 have e0 : getI (rowB g x z) 0 = ((8 * g : Nat) : Int) := rfl
 have e1 : getI (rowB g x z) 1 = ((8 * x.ext : Nat) : Int) := rfl
 unfold h13 ZS
 rw [e0, e1, show ((8 * g : Nat) : Int) / 8 = (g : Int) by omega, show ((8 * x.ext : Nat) : Int) / 8 = (x.ext : Int) by omega]
 cases x with
 | blk c =>
  have h1 : ((HK.blk c).ext : Int) = (c : Int) + 1 := by show ((c + 1 : Nat) : Int) = _; omega
  have hx : c < 4 := hx
  rw [if_neg (by omega), show ((HK.blk c).ext : Int) - 1 = (c : Int) by omega]
 | run k =>
  have h1 : ((HK.run k).ext : Int) = 8 * (k : Int) := by show ((8 * k : Nat) : Int) = _; omega
  have hx : 1 ≤ k := hx
  rw [if_pos (by omega)]
section
variable {n : Nat} {L : RowsL} {held : Nat → Option HK} {live : Nat → Option Nat}
theorem HG.kind (h : HG n held) {g : Nat} {x : HK} (hg : held g = some x) : x.ok := by
 cases x with
 | blk c => exact (h.blk g c hg).1
 | run k => exact (h.run g k hg).1
theorem HG.touch (h : HG n held) {p : Nat} : (∃ g x, held g = some x ∧ g < 8 * p + 8 ∧ g + x.ext > 8 * p) ↔ Used held p := by
 constructor
 ·rintro ⟨g, x, hg, h1, h2⟩
  cases x with
  | blk c =>
   obtain ⟨hc, q, j, hq, hj, rfl⟩ := h.blk g c hg
   have := xM hj
   simp only [HK.ext] at h2
   obtain rfl : q = p := by omega
   exact .inr ⟨c, j, hc, hj, hg⟩
  | run k =>
   obtain ⟨hk, q, hq, rfl⟩ := h.run g k hg
   simp only [HK.ext] at h2
   exact .inl ⟨q, k, hg, by omega, by omega⟩
 ·rintro (⟨q, k, hg, h1, h2⟩ | ⟨d, j, hd, hj, hg⟩)
  ·exact ⟨8 * q, _, hg, by omega, by simp only [HK.ext]; omega⟩
  ·have := xM hj
   exact ⟨_, _, hg, by omega, by simp only [HK.ext]; omega⟩
theorem xpx {g p : Nat} {x : HK} : onP (p : Int) (ZS g x) = true ↔ g < 8 * p + 8 ∧ g + x.ext > 8 * p := by
 unfold onP
 rw [Bool.and_eq_true, decide_eq_true_eq, decide_eq_true_eq]
 show (g : Int) < 8 * (p : Int) + 8 ∧ (g : Int) + (x.ext : Int) > 8 * (p : Int) ↔ _
 omega
theorem LV.on (hL : LV L held live) (h : HG n held) {p : Nat} {r : List Int} : r ∈ on13 (L.map h13) (p : Int) ↔ ∃ g x, r = ZS g x ∧ held g = some x ∧ g < 8 * p + 8 ∧ g + x.ext > 8 * p := by
 unfold on13
 rw [List.mem_filter, List.mem_map]
 constructor
 ·rintro ⟨⟨r0, hr, rfl⟩, ho⟩
  obtain ⟨g, x, z, rfl, hg, _⟩ := hL.row r0 hr
  rw [xpw (h.kind hg)] at ho ⊢
  exact ⟨g, x, rfl, hg, xpx.1 ho⟩
 ·rintro ⟨g, x, rfl, hg, ho⟩
  obtain ⟨z, _, hz⟩ := hL.all g x hg
  exact ⟨⟨_, hz, xpw (h.kind hg)⟩, xpx.2 ho⟩
theorem LV.on_nil (hL : LV L held live) (h : HG n held) {p : Nat} : on13 (L.map h13) (p : Int) = [] ↔ ¬ Used held p := by
 rw [List.eq_nil_iff_forall_not_mem, ← h.touch]
 constructor
 ·rintro h1 ⟨g, x, hg, ho⟩
  exact h1 _ ((hL.on h).2 ⟨g, x, rfl, hg, ho⟩)
 ·intro h1 r hr
  obtain ⟨g, x, _, hg, ho⟩ := (hL.on h).1 hr
  exact h1 ⟨g, x, hg, ho⟩
theorem LV.run (hL : LV L held live) (h : HG n held) {k a : Nat} (hk : 1 ≤ k) : xdo (L.map h13) n k a = true ↔ ¬ xps n held k a := by
 have key : ∀ i, jN (L.map h13) n i k = true ↔ i + k ≤ n ∧ ∀ p, i ≤ p → p < i + k → ¬ Used held p := by
  intro i
  unfold jN
  rw [List.all_eq_true]
  constructor
  ·intro h1
   have h2 : ∀ j, j < k → i + j < n ∧ ¬ Used held (i + j) := fun j hj => by
    have := h1 j (List.mem_range.2 hj)
    rw [Bool.and_eq_true, decide_eq_true_eq, List.isEmpty_iff, hL.on_nil h] at this
    exact this
   refine ⟨by have := (h2 (k - 1) (by omega)).1; omega, fun p hp hp2 => ?_⟩
   have := (h2 (p - i) (by omega)).2
   rwa [show i + (p - i) = p by omega] at this
  ·rintro ⟨h1, h2⟩ j hj
   have hj := List.mem_range.1 hj
   rw [Bool.and_eq_true, decide_eq_true_eq, List.isEmpty_iff, hL.on_nil h]
   exact ⟨by omega, h2 _ (by omega) (by omega)⟩
 unfold xdo
 rw [List.any_eq_true]
 constructor
 ·rintro ⟨i, hi, h1⟩ hno
  rw [Bool.and_eq_true, decide_eq_true_eq, key] at h1
  obtain ⟨p, hp, hp2, hu⟩ := hno i h1.1 h1.2.1
  exact h1.2.2 p hp hp2 hu
 ·intro hno
  by_cases hex : ∃ i, i ∈ List.range n ∧ (decide (i % a = 0) && jN (L.map h13) n i k) = true
  ·exact hex
  ·refine absurd (fun u hu hu2 => ?_) hno
   by_cases hp : ∃ p, u ≤ p ∧ p < u + k ∧ Used held p
   ·exact hp
   ·refine absurd ⟨u, List.mem_range.2 (by omega), ?_⟩ hex
    rw [Bool.and_eq_true, decide_eq_true_eq, key]
    exact ⟨hu, hu2, fun p h1 h2 h3 => hp ⟨p, h1, h2, h3⟩⟩
theorem LV.slab (hL : LV L held live) (h : HG n held) {p d j0 : Nat} (hj0 : j0 < blc d) (h0 : held (8 * p + j0 * (d + 1)) = some (.blk d)) : (∀ r ∈ on13 (L.map h13) (p : Int), ∃ j, j < blc d ∧ r = ZS (8 * p + j * (d + 1)) (.blk d) ∧ held (8 * p + j * (d + 1)) = some (.blk d)) := by
 intro r hr
 obtain ⟨g, x, rfl, hg, h1, h2⟩ := (hL.on h).1 hr
 have hb0 := xM hj0
 cases x with
 | blk c =>
  obtain ⟨hc, q, j, hq, hj, rfl⟩ := h.blk g c hg
  have := xM hj
  simp only [HK.ext] at h2
  obtain rfl : q = p := by omega
  obtain rfl := h.one _ _ _ _ hg h0 (by omega)
  exact ⟨j, hj, rfl, hg⟩
 | run k =>
  exfalso
  obtain ⟨hk, q, hq, rfl⟩ := h.run g k hg
  simp only [HK.ext] at h2
  rcases Nat.lt_trichotomy (8 * q) (8 * p + j0 * (d + 1)) with hlt | heq | hgt
  ·have := h.disj _ _ _ _ hg h0 hlt; simp only [HK.ext] at this; omega
  ·rw [heq, h0] at hg; cases hg
  ·omega
theorem LV.nd13 (hL : LV L held live) (_h : HG n held) (p : Int) : ((on13 (L.map h13) p).map fun r => getI r 0).Nodup := by
 have h1 : ((L.map h13).map fun r => getI r 0).Nodup := by
  have h2 : ((L.map h13).map fun r => getI r 0) = (L.map fun r => getI r 0).map (· / 8) := by
   rw [List.map_map, List.map_map]; rfl
  rw [h2]
  have h3 := hL.nd
  have h4 : ∀ v ∈ (L.map fun r => getI r 0), ∃ g : Nat, v = ((8 * g : Nat) : Int) := by
   intro v hv
   obtain ⟨r, hr, rfl⟩ := List.mem_map.1 hv
   obtain ⟨g, x, z, rfl, _⟩ := hL.row r hr
   exact ⟨g, rfl⟩
  clear h2
  generalize (L.map fun r => getI r 0) = M at *
  induction M with
  | nil => exact .nil
  | cons v M ih =>
   rw [List.nodup_cons] at h3
   rw [List.map_cons, List.nodup_cons]
   refine ⟨fun hm => ?_, ih h3.2 (fun w hw => h4 w (List.mem_cons_of_mem _ hw))⟩
   obtain ⟨w, hw, he⟩ := List.mem_map.1 hm
   obtain ⟨g, rfl⟩ := h4 v (by simp)
   obtain ⟨g', rfl⟩ := h4 w (List.mem_cons_of_mem _ hw)
   have he : ((8 * g' : Nat) : Int) / 8 = ((8 * g : Nat) : Int) / 8 := he
   have : g' = g := by omega
   subst this; exact h3.1 hw
 exact h1.sublist ((List.filter_sublist (l := L.map h13)).map _)
theorem LV.has (hL : LV L held live) (h : HG n held) {c : Nat} (hc : c < 4) : xdp (L.map h13) n c = true ↔ ¬ xpr n held c := by
 have key : ∀ p, p < n → (hasP (L.map h13) c (p : Int) = true ↔ ¬ ((∃ q k, held (8 * q) = some (.run k) ∧ q ≤ p ∧ p < q + k) ∨ ∃ d j, d < 4 ∧ j < blc d ∧ held (8 * p + j * (d + 1)) = some (.blk d) ∧ (d = c → ∀ i, i < blc c → held (8 * p + i * (c + 1)) = some (.blk c)))) := by
  intro p hp
  have hmem := @LV.on n L held live hL h p
  have hnil := @LV.on_nil n L held live hL h p
  have hnd := hL.nd13 h (p : Int)
  have hslab := @LV.slab n L held live hL h p
  unfold hasP
  generalize on13 (L.map h13) (p : Int) = O at *
  cases O with
  | nil =>
   have hu := hnil.1 rfl
   simp only [true_iff]
   rintro (hr | ⟨d, j, hd, hj, hg, _⟩)
   ·exact hu (.inl hr)
   ·exact hu (.inr ⟨d, j, hd, hj, hg⟩)
  | cons r l =>
   obtain ⟨g, x, rfl, hg, h1, h2⟩ := hmem.1 (List.mem_cons_self ..)
   rw [Bool.and_eq_true, decide_eq_true_eq, decide_eq_true_eq]
   cases x with
   | run k =>
    obtain ⟨hk, q, hq, rfl⟩ := h.run g k hg
    simp only [HK.ext] at h2
    constructor
    ·rintro ⟨e, _⟩
     have : (-1 : Int) = (c : Int) := e
     omega
    ·exact fun hn => absurd (.inl ⟨q, k, hg, by omega, by omega⟩) hn
   | blk d =>
    obtain ⟨hd, q, j0, hq, hj0, rfl⟩ := h.blk g d hg
    have hb := xM hj0
    simp only [HK.ext] at h2
    obtain rfl : q = p := by omega
    have hs := hslab hj0 hg
    have norun : ¬ ∃ q' k, held (8 * q') = some (.run k) ∧ q' ≤ q ∧ q < q' + k := by
     rintro ⟨q', k, hr, h3, h4⟩
     rcases Nat.lt_trichotomy (8 * q') (8 * q + j0 * (d + 1)) with hlt | heq | hgt
     ·have := h.disj _ _ _ _ hr hg hlt; simp only [HK.ext] at this; omega
     ·rw [heq, hg] at hr; cases hr
     ·omega
    have ecls : getI (ZS (8 * q + j0 * (d + 1)) (.blk d)) 1 = (d : Int) := rfl
    rw [ecls]
    constructor
    ·rintro ⟨e, hlen⟩ (hr | ⟨d', j, hd', hj, hg', hall⟩)
     ·exact norun hr
     ·obtain rfl : d = c := by omega
      have := xM hj
      obtain rfl := h.one _ _ _ _ hg' hg (by omega)
      have hall := hall rfl
      -- all are held: as many rows
      have hlen2 : blc d' ≤ (((ZS (8 * q + j0 * (d' + 1)) (.blk d') :: l).map fun r => (getI r 0).toNat - 8 * q).map (· / (d' + 1))).length := by
       refine all_len _ _ fun i hi => ?_
       refine List.mem_map.2 ⟨i * (d' + 1), List.mem_map.2 ⟨ZS (8 * q + i * (d' + 1)) (.blk d'), hmem.2 ⟨_, _, rfl, hall i hi, ?_, ?_⟩, ?_⟩, Nat.mul_div_cancel _ (by omega)⟩
       ·have := xM hi; omega
       ·simp only [HK.ext]; omega
       ·show ((8 * q + i * (d' + 1) : Nat) : Int).toNat - 8 * q = _
        omega
      simp only [List.length_map, List.length_cons] at hlen2
      omega
    ·intro hn
     by_cases e : d = c
     ·subst e
      refine ⟨rfl, ?_⟩
      by_cases hlt : l.length + 1 < blc d
      ·exact hlt
      ·exfalso
       refine hn (.inr ⟨d, j0, hd, hj0, hg, fun _ i hi => ?_⟩)
       have hM : ∀ v ∈ ((ZS (8 * q + j0 * (d + 1)) (.blk d) :: l).map fun r => getI r 0), ∃ j, j < blc d ∧ v = ((8 * q + j * (d + 1) : Nat) : Int) ∧ held (8 * q + j * (d + 1)) = some (.blk d) := by
        intro v hv
        obtain ⟨r, hr, rfl⟩ := List.mem_map.1 hv
        obtain ⟨j, hj, rfl, hh⟩ := hs r hr
        exact ⟨j, hj, rfl, hh⟩
       have hlenM : ((ZS (8 * q + j0 * (d + 1)) (.blk d) :: l).map fun r => getI r 0).length = l.length + 1 := by simp
       generalize ((ZS (8 * q + j0 * (d + 1)) (.blk d) :: l).map fun r => getI r 0) = M at *
       have hnd2 : (M.map fun v => (v.toNat - 8 * q) / (d + 1)).Nodup := by
        clear hlenM hlt hmem hnil hs
        induction M with
        | nil => exact .nil
        | cons v M ih =>
         rw [List.nodup_cons] at hnd
         rw [List.map_cons, List.nodup_cons]
         refine ⟨fun hm => ?_, ih hnd.2 fun w hw => hM w (List.mem_cons_of_mem _ hw)⟩
         obtain ⟨w, hw, he⟩ := List.mem_map.1 hm
         obtain ⟨j, hj, rfl, _⟩ := hM v (by simp)
         obtain ⟨j', hj', rfl, _⟩ := hM w (List.mem_cons_of_mem _ hw)
         have he : (((8 * q + j' * (d + 1) : Nat) : Int).toNat - 8 * q) / (d + 1) = (((8 * q + j * (d + 1) : Nat) : Int).toNat - 8 * q) / (d + 1) := he
         rw [show ((8 * q + j' * (d + 1) : Nat) : Int).toNat - 8 * q = j' * (d + 1) by omega, show ((8 * q + j * (d + 1) : Nat) : Int).toNat - 8 * q = j * (d + 1) by omega, Nat.mul_div_cancel _ (by omega), Nat.mul_div_cancel _ (by omega)] at he
         subst he; exact hnd.1 hw
       have hin := xra (blc d) _ hnd2 (fun x hx => by
        obtain ⟨v, hv, rfl⟩ := List.mem_map.1 hx
        obtain ⟨j, hj, rfl, _⟩ := hM v hv
        rw [show ((8 * q + j * (d + 1) : Nat) : Int).toNat - 8 * q = j * (d + 1) by omega, Nat.mul_div_cancel _ (by omega)]
        exact hj) (by rw [List.length_map]; omega) i hi
       obtain ⟨v, hv, he⟩ := List.mem_map.1 hin
       obtain ⟨j, hj, rfl, hh⟩ := hM v hv
       rw [show ((8 * q + j * (d + 1) : Nat) : Int).toNat - 8 * q = j * (d + 1) by omega, Nat.mul_div_cancel _ (by omega)] at he
       subst he; exact hh
     ·exact absurd (.inr ⟨d, j0, hd, hj0, hg, fun hh => absurd hh e⟩) hn
 unfold xdp
 rw [List.any_eq_true]
 constructor
 ·rintro ⟨p, hp, h1⟩ hno
  have hp := List.mem_range.1 hp
  exact (key p hp).1 h1 (hno p hp)
 ·intro hno
  by_cases hex : ∃ i, i ∈ List.range n ∧ hasP (L.map h13) c (i : Int) = true
  ·exact hex
  ·refine absurd (fun p hp => ?_) hno
   by_cases hh : (∃ q k, held (8 * q) = some (.run k) ∧ q ≤ p ∧ p < q + k) ∨ ∃ d j, d < 4 ∧ j < blc d ∧ held (8 * p + j * (d + 1)) = some (.blk d) ∧ (d = c → ∀ i, i < blc c → held (8 * p + i * (c + 1)) = some (.blk c))
   ·exact hh
   ·exact absurd ⟨p, List.mem_range.2 hp, (key p hp).2 hh⟩ hex
end
theorem jt (g : Nat) (x : HK) (z : Nat) : getI (rowB g x z) 0 = ((8 * g : Nat) : Int) := rfl
theorem xte (g : Nat) (x : HK) (z : Nat) : getI (rowB g x z) 1 = ((8 * x.ext : Nat) : Int) := rfl
theorem rowB_2 (g : Nat) (x : HK) (z : Nat) : getI (rowB g x z) 2 = (z : Int) := rfl
theorem LV.nil : LV [] (fun _ => none) (fun _ => none) := ⟨(fun _ h => by cases h), (fun _ _ h => by cases h), (fun _ _ h => by cases h), .nil⟩
section
variable {n : Nat} {L : RowsL} {held : Nat → Option HK} {live : Nat → Option Nat}
theorem LV.add (hL : LV L held live) {g : Nat} (x : HK) (z : Nat) (hg : held g = none) : LV (L ++ [rowB g x z]) (upd held g (some x)) (updS live g (some z)) := by
 refine ⟨fun r hr => ?_, fun q y hq => ?_, fun q w hq => ?_, ?_⟩
 ·rcases List.mem_append.1 hr with hr | hr
  ·obtain ⟨q, y, w, rfl, h1, h2⟩ := hL.row r hr
   have hne : q ≠ g := fun hh => by subst hh; rw [hg] at h1; cases h1
   exact ⟨q, y, w, rfl, by rw [upd_ne _ _ hne, h1], by rw [ws _ _ hne, h2]⟩
  ·rw [List.mem_singleton] at hr
   exact ⟨g, x, z, hr, xz _ _ _, ka _ _ _⟩
 ·by_cases hne : q = g
  ·subst hne
   rw [xz] at hq; cases hq
   exact ⟨z, ka _ _ _, by simp⟩
  ·rw [upd_ne _ _ hne] at hq
   obtain ⟨w, h1, h2⟩ := hL.all q y hq
   exact ⟨w, by rw [ws _ _ hne, h1], List.mem_append_left _ h2⟩
 ·by_cases hne : q = g
  ·subst hne; exact ⟨x, xz _ _ _⟩
  ·rw [ws _ _ hne] at hq
   obtain ⟨y, hy⟩ := hL.dom q w hq
   exact ⟨y, by rw [upd_ne _ _ hne, hy]⟩
 ·rw [List.map_append, List.nodup_append]
  refine ⟨hL.nd, by simp, fun a ha b hb => ?_⟩
  obtain ⟨r, hr, rfl⟩ := List.mem_map.1 ha
  obtain ⟨q, y, w, rfl, h1, h2⟩ := hL.row r hr
  simp only [List.map_cons, List.map_nil, List.mem_singleton] at hb
  subst hb
  rw [jt, jt]
  intro hh
  obtain rfl : q = g := by omega
  rw [hg] at h1; cases h1
theorem LV.one (hL : LV L held live) {i j : Nat} {r s : List Int} (hi : L[i]? = some r) (hj : L[j]? = some s) (h : getI r 0 = getI s 0) : i = j := by
 have hnd := hL.nd
 obtain ⟨h1, h2⟩ := List.getElem?_eq_some_iff.1 hi
 obtain ⟨h3, h4⟩ := List.getElem?_eq_some_iff.1 hj
 have := (List.getElem_inj (h₀ := by simpa using h1) (h₁ := by simpa using h3) hnd).1 (by rw [List.getElem_map, List.getElem_map, h2, h4]; exact h)
 exact this
theorem LV.del (hL : LV L held live) {i g z : Nat} {x : HK} (hi : L[i]? = some (rowB g x z)) : LV (L.eraseIdx i) (upd held g none) (updS live g none) := by
 have hmem : ∀ r, r ∈ L.eraseIdx i ↔ r ∈ L ∧ getI r 0 ≠ ((8 * g : Nat) : Int) := by
  intro r
  rw [List.mem_eraseIdx_iff_getElem?]
  constructor
  ·rintro ⟨j, hj, hr⟩
   exact ⟨List.mem_of_getElem? hr, fun hh => hj (hL.one hr hi (by rw [hh, jt]))⟩
  ·rintro ⟨hr, hh⟩
   obtain ⟨j, hj⟩ := List.getElem?_of_mem hr
   exact ⟨j, fun he => by subst he; rw [hi] at hj; cases hj; exact hh (jt _ _ _), hj⟩
 refine ⟨fun r hr => ?_, fun q y hq => ?_, fun q w hq => ?_, ?_⟩
 ·obtain ⟨h0, h3⟩ := (hmem r).1 hr
  obtain ⟨q, y, w, rfl, h1, h2⟩ := hL.row r h0
  rw [jt] at h3
  have hne : q ≠ g := fun hh => by subst hh; exact h3 rfl
  exact ⟨q, y, w, rfl, by rw [upd_ne _ _ hne, h1], by rw [ws _ _ hne, h2]⟩
 ·have hne : q ≠ g := fun hh => by subst hh; rw [xz] at hq; cases hq
  rw [upd_ne _ _ hne] at hq
  obtain ⟨w, h1, h2⟩ := hL.all q y hq
  exact ⟨w, by rw [ws _ _ hne, h1], (hmem _).2 ⟨h2, by rw [jt]; omega⟩⟩
 ·have hne : q ≠ g := fun hh => by subst hh; rw [ka] at hq; cases hq
  rw [ws _ _ hne] at hq
  obtain ⟨y, hy⟩ := hL.dom q w hq
  exact ⟨y, by rw [upd_ne _ _ hne, hy]⟩
 ·exact hL.nd.sublist ((List.eraseIdx_sublist ..).map _)
def ZT (L : RowsL) (a : Int) : Option Nat := L.findIdx? fun r => getI r 0 == a
theorem LV.find (hL : LV L held live) (a : Int) : (ZT L a = none ∧ ∀ g z : Nat, live g = some z → a ≠ ((8 * g : Nat) : Int)) ∨ ∃ i g x z, ZT L a = some i ∧ L[i]? = some (rowB g x z) ∧ a = ((8 * g : Nat) : Int) ∧ held g = some x ∧ live g = some z := by
 unfold ZT
 cases h : L.findIdx? fun r => getI r 0 == a with
 | none =>
  refine .inl ⟨rfl, fun g z hg hh => ?_⟩
  obtain ⟨x, hx⟩ := hL.dom g z hg
  obtain ⟨w, _, hw⟩ := hL.all g x hx
  rw [List.findIdx?_eq_none_iff] at h
  have := h _ hw
  rw [jt, hh] at this
  simp at this
 | some i =>
  right
  obtain ⟨h1, h2⟩ := List.findIdx?_eq_some_iff_getElem.1 h
  obtain ⟨g, x, z, h3, h4, h5⟩ := hL.row _ (List.getElem_mem h1)
  have h2 := h2.1
  rw [h3, jt, beq_iff_eq] at h2
  exact ⟨i, g, x, z, rfl, by rw [List.getElem?_eq_getElem h1, h3], h2.symm, h4, h5⟩
def xhq (L : RowsL) (ar at_ m sz al : Int) : Bool := !(decide (at_ < 0) || decide (m < sz) || decide (at_ + m > ar) || !(at_ % 8 == 0) || !(at_ % al == 0)) && L.all fun r => !(decide (getI r 0 < at_ + m) && decide (at_ < getI r 0 + getI r 1))
theorem LV.fits (hL : LV L held live) {g : Nat} {x : HK} {sz al : Int} (h : HG n (upd held g (some x))) (hg : held g = none) (hs : sz ≤ ((8 * x.ext : Nat) : Int)) (hal : ((8 * g : Nat) : Int) % al = 0) : xhq L (64 * n : Nat) ((8 * g : Nat) : Int) ((8 * x.ext : Nat) : Int) sz al = true := by
 have hext : g + x.ext ≤ 8 * n := by
  cases x with
  | blk c => obtain ⟨_, p, j, q1, q2, q3⟩ := h.blk g c (xz _ _ _); have := xM q2; simp only [HK.ext]; omega
  | run m => obtain ⟨_, p, q1, q2⟩ := h.run g m (xz _ _ _); simp only [HK.ext]; omega
 unfold xhq
 rw [Bool.and_eq_true]
 constructor
 ·rw [Bool.not_eq_true', Bool.or_eq_false_iff, Bool.or_eq_false_iff, Bool.or_eq_false_iff, Bool.or_eq_false_iff, decide_eq_false_iff_not, decide_eq_false_iff_not, decide_eq_false_iff_not]
  refine ⟨⟨⟨⟨by omega, by omega⟩, by omega⟩, ?_⟩, ?_⟩
  ·rw [show (((8 * g : Nat) : Int) % 8 == 0) = true by rw [beq_iff_eq]; omega]; rfl
  ·rw [hal]; rfl
 ·rw [List.all_eq_true]
  intro r hr
  obtain ⟨q, y, w, rfl, h1, h2⟩ := hL.row r hr
  have hne : q ≠ g := fun hh => by subst hh; rw [hg] at h1; cases h1
  have h3 : upd held g (some x) q = some y := by rw [upd_ne _ _ hne, h1]
  have h4 := xz held g (some x)
  rw [jt, xte, Bool.not_eq_true', Bool.and_eq_false_iff, decide_eq_false_iff_not, decide_eq_false_iff_not]
  rcases Nat.lt_or_gt_of_ne hne with hlt | hgt
  ·have := h.disj _ _ _ _ h3 h4 hlt; right; omega
  ·have := h.disj _ _ _ _ h4 h3 hgt; left; omega
end
end Go.Proofs.YtaegelbaghaooaaGreat
