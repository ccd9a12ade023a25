/- Whole is true of a whole arena. -/
import Derived.Test.YtaegelbaghaooaaGreatErPWhole
import Derived.Test.YtaegelbaghaooaaGreatErQWh
import Derived.Test.YtaegelbaghaooaaGreatErPRef
set_option linter.all false
open Go.IntKind (i64 u64 u32 u8)
namespace Go.Proofs.YtaegelbaghaooaaGreat
open Go Go.RowKit Lx
theorem yT {α : Type} {g : Bool} {k : Unit -> T α} (hg : g = true) : (xE g).bind k = k () := by subst hg; rfl
theorem okG {x y : Nat} (hx : x <= 1000000) (hy : y <= 1000000) : (decide (x = x /\ y = y /\ x = x /\ y = y /\ x <= 1000000 /\ y <= 1000000) && true) = true := by
 rw [Bool.and_true]
 exact decide_eq_true ⟨rfl, rfl, rfl, rfl, hx, hy⟩
theorem bits0 {v : Nat} (hv : v < 4294967296) : decide (ofW .i64 (bt0 v) 8 3 > 0) = false := by
 unfold bt0
 have e0 := xky 0 0 v (by omega) hv
 rw [show Bt.word ⟨0, false, 0, (v : Int)⟩ = ((0 + v * 4294967296 : Nat) : Int) from e0]
 have := yD .i64 (0 + v * 4294967296) 8 3 (by omega) (by omega) (by omega)
 rw [show ((8 : Nat) : Int) = 8 from rfl, show ((3 : Nat) : Int) = 3 from rfl] at this
 rw [this, show (0 + v * 4294967296) / 2 ^ 8 % 2 ^ 3 = 0 by omega]
 rfl
section
variable {n t : Nat} (hf : Small n t) {A : AS} {s : DS}
include hf
theorem kH (hR : Rep n t A s) {r i : Nat} (hr : r < 19) (hi : i < Zr n t r) : oz (atI s.m.words (atF (xg n t) r (i : Int))) = A.w r i := by
 rw [vX hf.toFew hr hi]
 show oz (s.m.words[Br n t r + i]?) = _
 rw [hR.row r i hr hi]; rfl
theorem low24 {w : Nat} (hw : w < 16777216) : ofW .i64 (w : Int) 0 24 = (w : Int) := by
 have := yD .i64 w 0 24 (by omega) (by omega) (by omega)
 simp only [Nat.pow_zero, Nat.div_one] at this
 rw [show ((0 : Nat) : Int) = 0 from rfl, show ((24 : Nat) : Int) = 24 from rfl] at this
 rw [this, Nat.mod_eq_of_lt (show w < 2 ^ 24 by omega), wN _ (by omega)]
theorem who4 (hR : Rep n t A s) (hW : WholeA n t A) (hbl : s.m.bytes.length <= 1000000) {b0 : Bool} {a1 a2 a4 : Int} {m : Nat} (h1 : 1 <= m) (h2 : m <= nodesN n t) {κ0 κ1 : Unit -> T Bool} :
  Zi b0 a1 a2 (m : Int) a4 s.m.words.length s.m.words.length s.m.bytes.length s.m.bytes.length s.m.words s.m.bytes (xg n t) 0 κ0 κ1 = κ1 () := by
 have hNs := wt hf.n2 hf.t2
 have hBr := Yw hf.n2 hf.t2
 unfold Zi
 refine vk (fun q => q = κ1 ()) (fun k i => ∃ j : Nat, i = (j : Int) /\ j <= 8 /\ k = 8 - j) ?_ xd 8 _ (by unfold xd; omega) ⟨0, rfl, by omega, by omega⟩
 rintro k i κ ⟨j, rfl, hj, rfl⟩ ih
 unfold xcr
 by_cases h : j < 8
 ·refine xkY (P := fun q => q = _) (by rw [decide_eq_true_eq]; omega) ?_
  rw [yT (okG (by rw [hR.len]; omega) hbl)]
  have e1 : i64.wrap ((m : Int) - 1) = ((m - 1 : Nat) : Int) := by rw [w64 (by omega) (by omega)]; omega
  rw [e1, show (8 : Int) = ((8 : Nat) : Int) from rfl, ZO (by omega) h (by omega), kH hf hR (by omega) (by show (m - 1) * 8 + j < nodesN n t * 8; omega), hW.item _ (by omega)]
  rw [wA (by omega)]
  exact P_no (P := fun q => q = _) rfl (ih (8 - (j + 1)) _ (by omega) ⟨j + 1, rfl, by omega, rfl⟩)
 ·obtain rfl : j = 8 := by omega
  exact P_no (P := fun q => q = _) rfl rfl
theorem who3 (hR : Rep n t A s) (hW : WholeA n t A) (hbl : s.m.bytes.length <= 1000000) {b0 : Bool} {a1 a2 : Int} {l : List Nat} (h13 : linkedN (A.w 17) l) (hd : l.Nodup) (hm : ∀ m ∈ l, 1 <= m /\ m <= nodesN n t) {κ0 κ1 : Unit -> T Bool} :
  Zj b0 a1 a2 s.m.words.length s.m.words.length s.m.bytes.length s.m.bytes.length s.m.words s.m.bytes (xg n t) (hdn l : Int) 0 κ0 κ1 = κ1 () := by
 have hNs := wt hf.n2 hf.t2
 have hN4 := hf.nodes
 have hBr := Yw hf.n2 hf.t2
 have hlen : l.length <= nodesN n t := by
  have := xdJ (nodesN n t) (l.map (· - 1)) (by
   clear h13
   induction l with
   | nil => exact .nil
   | cons x l ih =>
    rw [List.nodup_cons] at hd
    rw [List.map_cons, List.nodup_cons]
    refine ⟨fun hx => ?_, ih hd.2 fun m h => hm m (List.mem_cons_of_mem _ h)⟩
    obtain ⟨y, hy, he⟩ := List.mem_map.1 hx
    have a1 := hm x (by simp)
    have a2 := hm y (List.mem_cons_of_mem _ hy)
    have : y = x := by omega
    subst this; exact hd.1 hy) (fun x hx => by
   obtain ⟨y, hy, rfl⟩ := List.mem_map.1 hx
   have := hm y hy; omega)
  rwa [List.length_map] at this
 have hnf : kE (xg n t) = ((nodesN n t : Nat) : Int) := xgy hf
 unfold Zj
 refine vk (fun q => q = κ1 ()) (fun k i => ∃ (c : Nat) (l' : List Nat), i = ((hdn l' : Int), (c : Int)) /\ c + l'.length <= nodesN n t /\ k = l'.length /\ linkedN (A.w 17) l' /\ ∀ m ∈ l', 1 <= m /\ m <= nodesN n t) ?_ xd l.length _ (by unfold xd; omega) ⟨0, l, rfl, by omega, rfl, h13, hm⟩
 rintro k i κ ⟨c, l', rfl, hc, rfl, hl, hm'⟩ ih
 unfold xcs
 simp only
 cases l' with
 | nil => exact P_no (P := fun q => q = _) rfl rfl
 | cons m r =>
  obtain ⟨m1, m2⟩ := hm' m (by simp)
  simp only [List.length_cons] at hc ih
  have hhd : (hdn (m :: r) : Int) = (m : Int) := rfl
  rw [hhd]
  refine xkY (P := fun q => q = _) (by simp; omega) ?_
  rw [who4 hf hR hW hbl m1 m2]
  refine P_no (P := fun q => q = _) (by rw [hnf, decide_eq_false_iff_not]; omega) ?_
  rw [yT (by rw [Bool.and_true]; exact decide_eq_true ⟨trivial, trivial, trivial, trivial, by rw [hR.len]; omega, hbl⟩)]
  have e1 : i64.wrap ((m : Int) - 1) = ((m - 1 : Nat) : Int) := by rw [w64 (by omega) (by omega)]; omega
  have e2 : inF ((m - 1 : Nat) : Int) 0 1 = ((m - 1 : Nat) : Int) := by
   have := ZO (a := m - 1) (k := 0) (m := 1) (by omega) (by omega) (by omega)
   rw [show ((0 : Nat) : Int) = 0 from rfl, show ((1 : Nat) : Int) = 1 from rfl] at this
   rw [this]; omega
  have e3 := kH hf hR (r := 17) (i := m - 1) (by omega) (by show m - 1 < nodesN n t; omega)
  have hh : ∀ x ∈ r, x <= nodesN n t := fun x hx => (hm' x (List.mem_cons_of_mem _ hx)).2
  have hhr : hdn r < 16777216 := by
   cases r with
   | nil => simp [hdn]
   | cons y r => have := hh y (by simp); simp only [hdn]; omega
  rw [e1, e2, e3, hl.1, low24 hf hhr, wA (by omega)]
  exact ih r.length _ (by omega) ⟨c + 1, r, rfl, by omega, rfl, hl.2, fun x hx => hm' x (List.mem_cons_of_mem _ hx)⟩
theorem who2 (hR : Rep n t A s) (hW : WholeA n t A) (hbl : s.m.bytes.length <= 1000000) {b0 : Bool} {q : Nat} (hq : q < t) {κ0 κ1 : Unit -> T Bool} :
  Zk b0 (q : Int) s.m.words.length s.m.words.length s.m.bytes.length s.m.bytes.length s.m.words s.m.bytes (xg n t) 0 κ0 κ1 = κ1 () := by
 have hNs := wt hf.n2 hf.t2
 have hBr := Yw hf.n2 hf.t2
 have ht := hf.t2
 unfold Zk
 refine vk (fun x => x = κ1 ()) (fun k i => ∃ j : Nat, i = (j : Int) /\ j <= 4 /\ k = 4 - j) ?_ xd 4 _ (by unfold xd; omega) ⟨0, rfl, by omega, by omega⟩
 rintro k i κ ⟨j, rfl, hj, rfl⟩ ih
 unfold xct
 by_cases h : j < 4
 ·refine xkY (P := fun x => x = _) (by rw [decide_eq_true_eq]; omega) ?_
  have hg := okG (x := s.m.words.length) (y := s.m.bytes.length) (by rw [hR.len]; omega) hbl
  rw [yT hg, yT hg, yT hg]
  have i1 : inF (q : Int) (j : Int) 4 = ((q * 4 + j : Nat) : Int) := ZO (m := 4) (by omega) h (by omega)
  have i2 : inF ((q * 4 + j : Nat) : Int) 0 2 = (((q * 4 + j) * 2 + 0 : Nat) : Int) := ZO (k := 0) (m := 2) (by omega) (by omega) (by omega)
  have i3 : inF ((q * 4 + j : Nat) : Int) 1 2 = (((q * 4 + j) * 2 + 1 : Nat) : Int) := ZO (k := 1) (m := 2) (by omega) (by omega) (by omega)
  rw [i1, i2, i3, kH hf hR (by omega) (by show (q * 4 + j) * 2 + 0 < t * 4 * 2; omega), kH hf hR (by omega) (by show (q * 4 + j) * 2 + 1 < t * 4 * 2; omega), kH hf hR (by omega) (by show q * 4 + j < t * 4; omega), hW.cach _ (by omega), hW.cach _ (by omega)]
  obtain ⟨l, l1, l2, l3, l4⟩ := hW.bags (q * 4 + j) (by omega)
  have hhr : hdn l < 16777216 := by
   cases l with
   | nil => simp [hdn]
   | cons y r => have := (l4 y (by simp)).2; simp only [hdn]; omega
  rw [l1, low24 hf hhr, who3 hf hR hW hbl l2 l3 l4, wA (by omega)]
  exact P_no (P := fun x => x = _) rfl (P_no (P := fun x => x = _) rfl (ih (4 - (j + 1)) _ (by omega) ⟨j + 1, rfl, by omega, rfl⟩))
 ·obtain rfl : j = 4 := by omega
  exact P_no (P := fun x => x = _) rfl rfl
theorem xgA (hR : Rep n t A s) (hW : WholeA n t A) (hbl : s.m.bytes.length <= 1000000) : whoT (xg n t) s.m.words.length s.m.words.length s.m.bytes.length s.m.bytes.length s.m.words s.m.bytes = .ret true := by
 have hNs := wt hf.n2 hf.t2
 have hBr := Yw hf.n2 hf.t2
 have hn := hf.n2
 have hn1 := hf.n1
 have ht := hf.t2
 have hg := okG (x := s.m.words.length) (y := s.m.bytes.length) (by rw [hR.len]; omega) hbl
 have hp := yO 1 n 0 0 (by omega) (by omega) (by omega) (by omega)
 have hp' : pgOf (pw 1 n 0 0) = ⟨ofW .i64 (pw 1 n 0 0) 0 3, ofW .i64 (pw 1 n 0 0) 3 10, ofW .i64 (pw 1 n 0 0) 13 2, ofW .i64 (pw 1 n 0 0) 16 7⟩ := rfl
 rw [hp'] at hp
 simp only [Pg.mk.injEq] at hp
 obtain ⟨q1, q2, q3, q4⟩ := hp
 unfold whoT xpS
 rw [yT hg, yT hg]
 have e7 := kH hf hR (r := 7) (i := 0) (by omega) (by show 0 < n; omega)
 have e0 := kH hf hR (r := 0) (i := 0) (by omega) (by simp [Zr])
 rw [show (((0 : Nat) : Int)) = 0 from rfl] at e7 e0
 rw [e7, e0, hW.p0, hW.lock, q1, q2, q3, q4]
 refine P_no (P := fun x => x = _) (by show (!(((1 : Nat) : Int) == 1 && (((n : Nat) : Int) == ((n : Nat) : Int) && (((0 : Nat) : Int) == 0 && (((0 : Nat) : Int) == 0 && true))))) = false; simp) (P_no (P := fun x => x = _) rfl ?_)
 have h0 : Zh false s.m.words.length s.m.words.length s.m.bytes.length s.m.bytes.length s.m.words s.m.bytes (xg n t) 0 (fun y4_0 => T.ret false) (fun y4_0 => wV false s.m.words.length s.m.words.length s.m.bytes.length s.m.bytes.length s.m.words s.m.bytes (xg n t) 0 (fun y5_0 => T.ret false) (fun y5_0 => T.ret true)) = wV false s.m.words.length s.m.words.length s.m.bytes.length s.m.bytes.length s.m.words s.m.bytes (xg n t) 0 (fun y5_0 => T.ret false) (fun y5_0 => T.ret true) := by
  generalize wV false s.m.words.length s.m.words.length s.m.bytes.length s.m.bytes.length s.m.words s.m.bytes (xg n t) 0 (fun y5_0 => T.ret false) (fun y5_0 => T.ret true) = R
  unfold Zh
  refine vk (fun x => x = R) (fun k i => ∃ j : Nat, i = (j : Int) /\ j <= n /\ k = n - j) ?_ xd n _ (by unfold xd; omega) ⟨0, rfl, by omega, by omega⟩
  rintro k i κ ⟨j, rfl, hj, rfl⟩ ih
  unfold xcp
  by_cases h : j < n
  ·refine xkY (P := fun x => x = _) (decide_eq_true (show (j : Int) < ((n : Nat) : Int) by omega)) ?_
   rw [yT hg, yT hg, kH hf hR (by omega) (show j < Zr n t 9 from h), kH hf hR (by omega) (show j < Zr n t 8 from h), hW.rems j h, wA (by omega)]
   obtain ⟨v, hv, e⟩ := hW.bits j h
   rw [e]
   refine P_no (P := fun x => x = _) (by rw [show ofW .i64 (0 : Int) 0 24 = 0 from low24 hf (w := 0) (by omega)]; rfl) (P_no (P := fun x => x = _) (bits0 hv) (ih (n - (j + 1)) _ (by omega) ⟨j + 1, rfl, by omega, rfl⟩))
  ·obtain rfl : j = n := by omega
   exact P_no (P := fun x => x = _) (decide_eq_false (show ¬ (j : Int) < ((j : Nat) : Int) by omega)) rfl
 refine h0.trans ?_
 unfold wV
 refine vk (fun x => x = .ret true) (fun k i => ∃ j : Nat, i = (j : Int) /\ j <= t /\ k = t - j) ?_ xd t _ (by unfold xd; omega) ⟨0, rfl, by omega, by omega⟩
 rintro k i κ ⟨j, rfl, hj, rfl⟩ ih
 unfold xcu
 by_cases h : j < t
 ·refine xkY (P := fun x => x = _) (decide_eq_true (show (j : Int) < ((t : Nat) : Int) by omega)) ?_
  rw [who2 hf hR hW hbl h, wA (by omega)]
  exact ih (t - (j + 1)) _ (by omega) ⟨j + 1, rfl, by omega, rfl⟩
 ·obtain rfl : j = t := by omega
  exact P_no (P := fun x => x = _) (decide_eq_false (show ¬ (j : Int) < ((j : Nat) : Int) by omega)) rfl
end
end Go.Proofs.YtaegelbaghaooaaGreat
