/- AllocPlay: what each act comes to. -/
import Derived.Test.YtaegelbaghaooaaGreatAyPRoom
import Derived.Test.YtaegelbaghaooaaGreatAyM9
import Derived.Test.YtaegelbaghaooaaGreatAyPYes
import Derived.Test.YtaegelbaghaooaaGreatAyQPy
set_option linter.unusedSimpArgs false
set_option linter.unusedVariables false
set_option linter.unusedSectionVars false
namespace Go.Proofs.YtaegelbaghaooaaGreat
open Go Go.RowKit Lx
set_option maxRecDepth 100000
theorem xtf {n : Nat} {held : Nat → Option HK} {s a : Int} {g : Nat} {x : HK} (hH : HG n (upd held g (some x))) (hg : held g = none) (hr : GotRoom n s a g x) : ¬ NoRoom n held s a := by
 intro hno
 have up : ∀ q y, held q = some y → upd held g (some x) q = some y := fun q y hq => by
  rw [upd_ne _ _ (fun hh => by subst hh; rw [hg] at hq; cases hq)]; exact hq
 have self := xz held g (some x)
 unfold NoRoom at hno
 unfold GotRoom at hr
 cases hc : clsN s a with
 | some c =>
  rw [hc] at hno hr
  simp only at hno hr
  subst hr
  obtain ⟨hc4, p, j, hp, hj, rfl⟩ := hH.blk g c self
  have hb := xM hj
  rcases hno p hp with ⟨q, k, hq, h1, h2⟩ | ⟨d, j', hd, hj', hb', hall⟩
  ·have hq' := up _ _ hq
   rcases Nat.lt_trichotomy (8 * q) (8 * p + j * (c + 1)) with hlt | heq | hgt
   ·have := hH.disj _ _ _ _ hq' self hlt; simp only [HK.ext] at this; omega
   ·rw [heq, self] at hq'; cases hq'
   ·omega
  ·have hb2 := up _ _ hb'
   have hb3 := xM hj'
   have e := hH.one _ _ _ _ hb2 self (by omega)
   have := hall e j hj
   rw [hg] at this; cases this
 | none =>
  rw [hc] at hno hr
  simp only at hno hr
  obtain ⟨rfl, u, rfl, hu, huk⟩ := hr
  obtain ⟨p, h1, h2, h3⟩ := hno u hu huk
  rcases h3 with ⟨q, k, hq, h4, h5⟩ | ⟨d, j, hd, hj, hb⟩
  ·have hq' := up _ _ hq
   rcases Nat.lt_trichotomy (8 * q) (8 * u) with hlt | heq | hgt
   ·have := hH.disj _ _ _ _ hq' self hlt; simp only [HK.ext] at this; omega
   ·rw [heq, hg] at hq; cases hq
   ·have := hH.disj _ _ _ _ self hq' hgt; simp only [HK.ext] at this; omega
  ·have hb' := up _ _ hb
   have hb3 := xM hj
   rcases Nat.lt_trichotomy (8 * p + j * (d + 1)) (8 * u) with hlt | heq | hgt
   ·omega
   ·rw [heq, hg] at hb; cases hb
   ·have := hH.disj _ _ _ _ self hb' hgt; simp only [HK.ext] at this; omega
structure TR (r : Res) (st : Int) : Prop where
 lo : 0 ≤ r.lin
 hi : r.lin ≤ st
 ok : r.e = 0 → r.lin ≠ 0
 touch : r.touch = 0
theorem TR.of {n t : Nat} {A A' : AS} {s' : DS} {r : Res} (hR : Rep n t A' s') (h0 : A.steps = 0) (hh : A'.steps ≤ 1000000000000) (hl : ∃ l : Nat, A.steps ≤ l ∧ l ≤ A'.steps ∧ r.lin = IntKind.i64.wrap l ∧ (r.e = 0 → A.steps < l)) (ht : r.touch = 0) : TR r s'.steps := by
 obtain ⟨l, h1, h2, h3, h4⟩ := hl
 have e1 : IntKind.i64.wrap (l : Int) = (l : Int) := wN _ (by omega)
 have e2 : s'.steps = (A'.steps : Int) := by rw [hR.steps, wN _ (by omega)]
 rw [e1] at h3
 exact ⟨by omega, by omega, fun he => by have := h4 he; omega, ht⟩
theorem xtg (x : Int) : (x == x) = true := by simp
theorem kV {r : Res} {st : Int} (hT : TR r st) {n0 n2 n3 n6 n8 n11 n12 n13 n14 : Nat} {z1 : ym} {b4 : Bool} {a5 a7 sf : Int} {q9 q17 : RowsL} {g10 : Geo} {l15 l16 : xo} {κ0 κ1 : Unit → T Bool} (hκ : Yes (κ1 ())) :
  Yes (jx n0 z1 n2 n3 b4 a5 n6 a7 n8 q9 g10 n11 n12 n13 n14 l15 l16 q17 sf st r.at_ r.n r.byte r.c1 r.c2 r.c3 r.c4 r.c5 r.e r.lin r.touch r.at_ r.n r.byte r.c1 r.c2 r.c3 r.c4 r.c5 r.e r.lin r.touch κ0 κ1) := by
 unfold jx
 have h1 := hT.lo
 have h2 := hT.hi
 refine Yes.no (by simp only [xtg, Bool.true_and, Bool.and_true]; rfl) (Yes.no (decide_eq_false (by omega)) (Yes.no (decide_eq_false (by omega)) ?_))
 by_cases he : r.e = 0
 ·refine Yes.yes (by simpa using he) (Yes.no (by simpa using hT.ok he) (Yes.no (by rw [hT.touch]; rfl) hκ))
 ·exact Yes.no (by simpa using he) (Yes.no (by rw [hT.touch]; rfl) hκ)
section
variable {n t : Nat} (hf : Small n t) (hn60 : n ≤ 60)
include hf hn60
theorem py4_yes {A A' : AS} {held held' : Nat → Option HK} {live live' : Nat → Option Nat} {L : RowsL} {s a : Int} {r : Res} (Q : Asked n t A held live s a r A' held' live') (hL : LV L held live) (hg : HG n held) (hll : L.length ≤ 999) (ha : a < 9223372036854775808) {n0 n2 n3 n10 n13 n14 n15 n16 : Nat} {z1 : ym} {b4 : Bool} {a7 : Int} {q11 : RowsL} {g12 : Geo} {l17 l18 : xo}
  {a20 a21 a22 a23 a24 a25 a26 a27 a28 a29 a30 a31 a32 : Int} {κ0 : Unit → T Bool} {κ1 : Nat → RowsL → T Bool} {κ2 : Unit → T Bool}
  (h1 : LV (L ++ [[r.at_, r.n, s]]) held' live' → Yes (κ1 (L ++ [[r.at_, r.n, s]]).length (L ++ [[r.at_, r.n, s]]))) (h2 : held' = held → live' = live → Yes (κ2 ())) :
  Yes (Xb n0 z1 n2 n3 b4 (n : Int) L.length a7 s a n10 q11 g12 n13 n14 n15 n16 l17 l18 L a20 a21 a22 a23 a24 a25 a26 a27 a28 a29 a30 a31 a32 r.at_ r.n r.byte r.c1 r.c2 r.c3 r.c4 r.c5 r.e r.lin r.touch κ0 κ1 κ2) := by
 have hn1 := hf.n1
 unfold Xb
 refine Yes.run (ask_eq (by omega) ha) ?_
 rcases Q.res with ⟨hh, hl, hr, hc⟩ | ⟨g, x, hr, hgn, hh, hl, h5, h6, h7, h8⟩
 ·have hat : r.at_ = 0 := by rw [hr]; rfl
  have hrn : r.n = 0 := by rw [hr]; rfl
  have fin : ∀ w : Int, w = r.e → w ≠ 0 → Yes (jv n0 z1 n2 n3 b4 (n : Int) L.length a7 s a w n10 q11 g12 n13 n14 n15 n16 l17 l18 L a20 a21 a22 a23 a24 a25 a26 a27 a28 a29 a30 a31 a32 r.at_ r.n r.byte r.c1 r.c2 r.c3 r.c4 r.c5 r.e r.lin r.touch (fun _ => κ0 ()) (fun x y => κ1 x y) (fun _ => κ2 ())) := by
   intro w hw hw0
   unfold jv
   refine Yes.no (by rw [hw]; simp) ?_
   unfold WD
   exact Yes.no (by rw [← hw]; simpa using hw0) (Yes.no (by rw [hat]; rfl) (Yes.no (by rw [hrn]; rfl) (h2 hh hl)))
  unfold xpA
  rcases hc with ⟨he, hs⟩ | ⟨hs1, hs2, ⟨he, hp⟩ | ⟨he, hp, hno⟩⟩
  ·rw [if_pos hs]
   exact Yes.no rfl (fin 11 he.symm (by decide))
  ·rw [if_neg (by omega), if_neg (by rw [hp]; decide)]
   exact Yes.no rfl (fin 12 he.symm (by decide))
  ·rw [if_neg (by omega), if_pos hp]
   have ha0 : 0 < a := by unfold powA at hp; simp only [Bool.and_eq_true, decide_eq_true_eq] at hp; omega
   obtain ⟨b, hb, hb2⟩ := xpB hL hg (by omega) (by omega) hs1 hs2 ha ha0
   refine Yes.yes rfl (Yes.run hb (Yes.yes ?_ (fin 15 he.symm (by decide))))
   cases b with
   | false => rfl
   | true => exact absurd hno (hb2.1 rfl)
 ·have hat : r.at_ = ((8 * g : Nat) : Int) := by rw [hr]
  have hrn : r.n = ((8 * x.ext : Nat) : Int) := by rw [hr]
  have he : r.e = 0 := by rw [hr]
  have ha0 : 0 < a := by unfold powA at h7; simp only [Bool.and_eq_true, decide_eq_true_eq] at h7; omega
  have hH : HG n (upd held g (some x)) := by have := Q.heap.hg; rw [hh] at this; exact this
  have hnew : upd held g (some x) g = some x := xz _ _ _
  have hext : g + x.ext ≤ 8 * n := by
   cases x with
   | blk c => obtain ⟨_, p, j, q1, q2, q3⟩ := hH.blk g c hnew; have := xM q2; simp only [HK.ext]; omega
   | run m => obtain ⟨_, p, q1, q2⟩ := hH.run g m hnew; simp only [HK.ext]; omega
  obtain ⟨b, hb, hb2⟩ := xpB hL hg (by omega) (by omega) h5 h6 ha ha0
  unfold xpA
  rw [if_neg (by omega), if_pos h7]
  refine Yes.yes rfl (Yes.run hb (Yes.no ?_ ?_))
  ·cases b with
   | true => rfl
   | false => exact absurd (hb2.2 (xtf hH hgn h8)) (by decide)
  ·unfold jv
   refine Yes.no (by rw [he]; rfl) ?_
   unfold WD
   have e64 : IntKind.i64.wrap (64 * (n : Int)) = ((64 * n : Nat) : Int) := by rw [show 64 * (n : Int) = ((64 * n : Nat) : Int) by omega, wN _ (by omega)]
   have hbig := xq9 h5 h8
   have hal := xtc (held := held') Q.heap (by rw [hh, hnew]) h5 h8 h7 ha
   have hfit := hL.fits (sz := s) (al := a) hH hgn hbig hal
   rw [e64]
   refine Yes.yes (by rw [he]; rfl) (Yes.run (fit_eq (hL.low hg (by omega)) (by omega) (by rw [hat]; omega) (by rw [hrn]; omega) (by rw [hrn]; omega) (by omega)) (Yes.no (by rw [hat, hrn, hfit]; rfl) (Yes.yes (by rw [Nat.beq_refl, Bool.true_and]; exact Nat.ble_eq_true_of_le (by omega)) ?_)))
   have hz : s = ((s.toNat : Nat) : Int) := by omega
   have := h1 (by rw [hat, hrn, hh, hl]; have h9 := hL.add x s.toNat hgn; unfold rowB at h9; rw [← hz] at h9; exact h9)
   rw [List.length_append, List.length_singleton] at this
   rw [List.length_append, List.length_singleton] at *
   exact this
structure PI (n t : Nat) (W B : List Int) (L : RowsL) : Prop where
 len : B.length = 64 * n
 heap : ∃ (A : AS) (held : Nat → Option HK) (live : Nat → Option Nat), Rep n t A ⟨⟨W, B⟩, 0, 0, none⟩ ∧ HInv n t A held ∧ SI n t A live ∧ LV L held live
theorem vk {q : T Res} {s a : Int} {me : Nat} {W B : List Int} {L : RowsL} (hP : PI n t W B L) (hq : ∀ (A : AS) held live, A.self = (me : Int) → HInv n t A held → SI n t A live → Rn n t q A fun r A' => A'.b.length = A.b.length ∧ ∃ held' live', Asked n t A held live s a r A' held' live') (hll : L.length ≤ 999) (ha : a < 9223372036854775808)
  {n0 n2 n3 n10 : Nat} {z1 : ym} {b4 : Bool} {a7 : Int} {q11 : RowsL} {g12 : Geo} {k0 k2 : Res × Res × DS → T Bool} {k1 : Res × Res × DS → Nat → RowsL → T Bool}
  (h1 : ∀ (x : Res) (s' : DS) (L' : RowsL), PI n t s'.m.words s'.m.bytes L' → L'.length = L.length + 1 → TR x s'.steps → Yes (k1 (x, x, s') L'.length L')) (h2 : ∀ (x : Res) (s' : DS), PI n t s'.m.words s'.m.bytes L → TR x s'.steps → Yes (k2 (x, x, s'))) :
  Yes ((vR (okS W.length W.length B.length B.length W B) q (DS.mk (Mem.mk W B) (me : Int) 0 none)).bind fun r => Xb n0 z1 n2 n3 b4 (n : Int) L.length a7 s a n10 q11 g12 (List.length r.2.2.m.1) (List.length r.2.2.m.1) (List.length r.2.2.m.2) (List.length r.2.2.m.2) r.2.2.m.1 r.2.2.m.2 L r.2.2.self r.2.2.steps
   r.2.1.at_ r.2.1.n r.2.1.byte r.2.1.c1 r.2.1.c2 r.2.1.c3 r.2.1.c4 r.2.1.c5 r.2.1.e r.2.1.lin r.2.1.touch r.1.at_ r.1.n r.1.byte r.1.c1 r.1.c2 r.1.c3 r.1.c4 r.1.c5 r.1.e r.1.lin r.1.touch (fun _ => k0 r) (fun x y => k1 r x y) (fun _ => k2 r)) := by
 obtain ⟨A, held, live, hR, hi, hs, hLV⟩ := hP.heap
 have hRp := hR.port (me : Int)
 have hbe : A.b = B := hR.bytes.symm
 refine Yes.vR (xbP hf.toFew hRp (by rw [AS.port_b, hbe, hP.len]; omega)) hRp (hq (A.port (me : Int)) held live rfl (hi.w fun r i => rfl) (hs.same fun i => rfl)) (fun x A' hx => by obtain ⟨_, _, _, h⟩ := hx; exact ⟨x, h.fr.told⟩) fun x r' A' s' hx ht' hR' => ?_
 obtain ⟨hbl, held', live', Q⟩ := hx
 obtain rfl : r' = x := by
  have h := ht'.symm.trans Q.fr.told
  have h2 : Res.of r'.cells = Res.of x.cells := by rw [Option.some.inj h]
  have e1 : Res.of r'.cells = some r' := rfl
  have e2 : Res.of x.cells = some x := rfl
  rw [e1, e2] at h2; exact Option.some.inj h2
 have htouch : r'.touch = 0 := by
  rcases Q.res with ⟨_, _, hr, _⟩ | ⟨g, x, hr, _⟩ <;> rw [hr] <;> rfl
 have hT : TR r' s'.steps := TR.of hR' (A := A.port (me : Int)) rfl (by have := Q.fr.hi; simp only [AS.port_steps] at this; omega) Q.lin htouch
 have hlen : s'.m.bytes.length = 64 * n := by rw [hR'.bytes, hbl, AS.port_b, hbe, hP.len]
 have keep : ∀ L', LV L' held' live' → PI n t s'.m.words s'.m.bytes L' := fun L' hL' => ⟨hlen, A'.port 0, held', live', hR'.port 0, Q.heap.w fun r i => rfl, Q.states.same fun i => rfl, hL'⟩
 refine py4_yes hf hn60 Q hLV hi.hg hll ha (fun hL' => ?_) fun hh hl => ?_
 ·exact h1 r' s' _ (keep _ hL') (by rw [List.length_append, List.length_singleton]) hT
 ·exact h2 r' s' (keep _ (by rw [hh, hl]; exact hLV)) hT
theorem xhr {me : Nat} (hme : me < t) {W B : List Int} {L : RowsL} (hP : PI n t W B L) (hll : L.length ≤ 999) {at_ : Int} {n0 n2 n3 n9 : Nat} {z1 : ym} {b4 : Bool} {a5 a7 : Int} {q10 : RowsL} {a21 a22 a23 a24 a25 a26 a27 a28 a29 a30 a31 : Int}
  {κ0 κ1 : Nat → Nat → Nat → Nat → xo → xo → Int → Int → Int → Int → Int → Int → Int → Int → Int → Int → Int → Int → Int → Int → Int → Int → Int → Int → Int → Int → Int → Int → Int → Int → T Bool} {κ2 κ3 : Nat → Nat → Nat → Nat → Nat → xo → xo → RowsL → Int → Int → Int → Int → Int → Int → Int → Int → Int → Int → Int → Int → Int → Int → Int → Int → Int → Int → Int → Int → Int → Int → Int → Int → T Bool}
  (h1 : ∀ (W' B' : List Int) (sf st : Int) (r : Res), PI n t W' B' L → TR r st → Yes (κ1 W'.length W'.length B'.length B'.length W' B' sf st r.at_ r.n r.byte r.c1 r.c2 r.c3 r.c4 r.c5 r.e r.lin r.touch r.at_ r.n r.byte r.c1 r.c2 r.c3 r.c4 r.c5 r.e r.lin r.touch))
  (h3 : ∀ (W' B' : List Int) (L' : RowsL) (sf st : Int) (r : Res), PI n t W' B' L' → L'.length ≤ L.length → TR r st → Yes (κ3 L'.length W'.length W'.length B'.length B'.length W' B' L' sf st r.at_ r.n r.byte r.c1 r.c2 r.c3 r.c4 r.c5 r.e r.lin r.touch r.at_ r.n r.byte r.c1 r.c2 r.c3 r.c4 r.c5 r.e r.lin r.touch)) :
  Yes (WB n0 z1 n2 n3 b4 a5 L.length a7 at_ n9 q10 (xg n t) W.length W.length B.length B.length W B L (me : Int) 0 a21 a22 a23 a24 a25 a26 a27 a28 a29 a30 a31 κ0 κ1 κ2 κ3) := by
 obtain ⟨A, held, live, hR, hi, hs, hLV⟩ := hP.heap
 have hRp := hR.port (me : Int)
 have hbe : A.b = B := hR.bytes.symm
 unfold WB
 refine Yes.vR (xbP hf.toFew hRp (by rw [AS.port_b, hbe, hP.len]; omega)) hRp (xq3 hf (A := A.port (me : Int)) (held := held) (live := live) (a := at_) (me := me) hme rfl (hi.w fun r i => rfl) (hs.same fun i => rfl) hLV.dom) (fun x A' hx => ⟨x, hx.2.1.told⟩) fun x r' A' s' hx ht' hR' => ?_
 obtain ⟨hb3, hft, hlin, hres⟩ := hx
 obtain rfl : r' = x := by
  have h := ht'.symm.trans hft.told
  have h2 : Res.of r'.cells = Res.of x.cells := by rw [Option.some.inj h]
  have e1 : Res.of r'.cells = some r' := rfl
  have e2 : Res.of x.cells = some x := rfl
  rw [e1, e2] at h2; exact Option.some.inj h2
 have hhi : A'.steps ≤ 1000000000000 := by have := hft.hi; simp only [AS.port_steps] at this; omega
 have hlen : s'.m.bytes.length = 64 * n := by rw [hR'.bytes, hb3, AS.port_b, hbe, hP.len]
 simp only
 refine Yes.run (find_eq (by omega)) ?_
 rcases hLV.find at_ with ⟨hfn, hno⟩ | ⟨i, g, x, z, hfi, hLi, hag, hgx, hgz⟩
 ·rw [hfn]
  simp only
  refine Yes.yes (by decide) ?_
  rcases hres with ⟨hr, hi', hs', _⟩ | ⟨g, z, hag, hlz, _⟩
  ·have hT : TR r' s'.steps := TR.of hR' (A := A.port (me : Int)) rfl hhi (by obtain ⟨l, q1, q2, q3⟩ := hlin; exact ⟨l, q1, q2, q3, fun he => by rw [hr] at he; exact absurd he (show ¬ ((13 : Int) = 0) by decide)⟩) (by rw [hr]; rfl)
   refine Yes.no (by rw [hr]; rfl) (Yes.no (by rw [hr]; rfl) (Yes.no (by rw [hr]; rfl) ?_))
   exact h1 s'.m.words s'.m.bytes s'.self s'.steps r' ⟨hlen, A'.port 0, held, live, hR'.port 0, hi'.w fun r i => rfl, hs'.same fun i => rfl, hLV⟩ hT
  ·exact absurd hag (hno g z hlz)
 ·rw [hfi]
  simp only
  refine Yes.no (decide_eq_false (by omega)) ?_
  have hil : i < L.length := (List.getElem?_eq_some_iff.1 hLi).1
  have hget : getR L (Int.toNat ((i : Nat) : Int)) = rowB g x z := by
   rw [show Int.toNat ((i : Nat) : Int) = i from rfl, kW hil, (List.getElem?_eq_some_iff.1 hLi).2]
  rcases hres with ⟨_, _, _, hno⟩ | ⟨g', z', hag', hlz, hr, hlt, hlin2, hi', hs'⟩
  ·exact absurd hag (hno g z hgz)
  ·obtain rfl : g' = g := by omega
   rw [hgz] at hlz
   cases hlz
   have hT : TR r' s'.steps := by
    obtain ⟨l, q1, q2, q3⟩ := hlin
    have e1 : r'.lin = 2 := by rw [hlin2]; rfl
    have e2 : s'.steps = (A'.steps : Int) := by rw [hR'.steps, wN _ (by omega)]
    have e3 : IntKind.i64.wrap (l : Int) = (l : Int) := wN _ (by omega)
    rw [e3] at q3
    exact ⟨by omega, by omega, fun _ => by omega, by rw [hr]⟩
   refine Yes.no (by rw [hr]; rfl) (Yes.yes (yO hil) (Yes.yes (yl hil) (Yes.no (by rw [hget, rowB_2, hr]; simp) ?_)))
   refine Yes.run (woth_eq hLV.row3 (by omega)) (Yes.no (by rw [hr]; rfl) ?_)
   exact h3 s'.m.words s'.m.bytes (L.eraseIdx i) s'.self s'.steps r' ⟨hlen, A'.port 0, _, _, hR'.port 0, hi'.w fun r i => rfl, hs'.same fun i => rfl, hLV.del hLi⟩ (List.length_eraseIdx_le _ _) hT
end
end Go.Proofs.YtaegelbaghaooaaGreat
