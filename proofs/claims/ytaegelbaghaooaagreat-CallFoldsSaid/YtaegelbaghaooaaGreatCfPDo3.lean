/- Part. -/
import Derived.Test.YtaegelbaghaooaaGreatCfPDo2
set_option linter.all false
open Go.IntKind (i64 u64 u32 u8)
namespace Go.Proofs.YtaegelbaghaooaaGreat
open Go Go.RowKit Lx
theorem Hp.tick {n t : Nat} {A : AS} {held : Nat -> Option HK} {live : Nat -> Option Nat} (h : Hp n t A held live) : Hp n t A.tick held live := h.fr (Fr.tick [] A) (by simp)
section
variable {n t : Nat} (hf : Small n t) {A : AS} {held : Nat -> Option HK} {live : Nat -> Option Nat}
include hf
theorem xp8 {c : Cal} {s a : Int} {q : T Res} (hp : Hp n t A held live) (hop : c.op = 1 \/ c.op = 2 \/ c.op = 3) (hs : s = if c.op = 2 then yB n c.n c.size else c.size) (ha : a = if c.op = 3 then c.align else 1)
  (hq : Rn n t q A.tick fun r A1 => ∃ held' live', Asked n t A.tick held live s a r A1 held' live' /\ (A1.b = A.b /\ (c.op = 2 -> r.e ≠ 0) \/ c.op = 2 /\ ∃ g : Nat, r.at_ = ((8 * g : Nat) : Int) /\ A1.b = zeroed A.b (8 * g) (yB n c.n c.size).toNat)) :
  Rn n t (q.bind fun r3 => (qC (xb n t) c r3).bind fun r4 => (T.ret r4 : T Res)) A.tick fun r A' => ∃ held' live' was, Called n t A held live c r A' held' live' was := by
 refine Rn.bind hq ?_
 rintro r A1 ⟨held', live', hA, hb⟩
 refine Rn.bind (xt4 hf) ?_
 rintro r' A2 ⟨rfl, f2, h2⟩
 exact Rn.ret ⟨held', live', 0, Called.ask hf hp hA hs ha hop hb f2 h2⟩
theorem xp9 {c : Cal} {x : Res × Int} {b b' : List Int} {held' : Nat -> Option HK} {live' : Nat -> Option Nat} (h : Renewed n held live b c.at_ c.size x held' live' b') (hl : LH held live) (hb : Bys b) (hbl : b.length = 64 * n) : LH held' live' /\ Bys b' /\ b'.length = 64 * n := by
 cases h with
 | size l h1 => exact ⟨hl, hb, hbl⟩
 | bad l h1 h2 h3 => exact ⟨hl, hb, hbl⟩
 | stay l g z x h1 h2 h3 h4 h5 h6 => exact ⟨hl.stay h5 (by omega), hb, hbl⟩
 | none l g z x h1 h2 h3 h4 h5 h6 h7 => exact ⟨hl, hb, hbl⟩
 | go l g z x g' y h1 h2 h3 h4 h5 h6 h7 h8 h9 =>
  have := xbe h1 h8
  exact ⟨(hl.add g' (by omega)).del g, hb.copied _ _ _, by rw [WR]; exact hbl⟩
omit hf in
theorem xgu {a s : Int} {x : Res × Int} {b b' : List Int} {held' : Nat -> Option HK} {live' : Nat -> Option Nat} (h : Renewed n held live b a s x held' live' b') : x.1.touch = 0 := by cases h <;> rfl
theorem xwb {me : Nat} {c : Cal} (hn60 : n <= 60) (hme : me < t) (hself : A.self = (me : Int)) (hp : Hp n t A held live) (hop : c.op = 4) :
  Rn n t ((XZ (xb n t) c).bind fun r4 => (T.ret r4 : T Res)) A.tick fun r A' => ∃ held' live' was, Called n t A held live c r A' held' live' was := by
 refine Rn.bind (Q1 := fun r A' => ∃ held' live' was, Called n t A held live c r A' held' live' was) ?_ fun r A' h => Rn.ret h
 unfold XZ Kh
 refine Rn.bind (xmZ hf hn60 hme (A := A.tick) hself hp.tick.hi hp.tick.si hp.lh.lh hp.bys hp.len) ?_
 rintro ⟨r, was⟩ A1 ⟨held', live', hi1, si1, hft, ⟨l, l1, l2, l3, _⟩, _, hR⟩
 obtain ⟨hl1, hb1, hbl1⟩ := xp9 hf hR hp.lh hp.bys hp.len
 simp only at hft l3 hR |-
 have ht0 : r.touch = 0 := xgu hR
 have key : ∀ A2, Fr [2] 3 A1 A2 -> (∀ i, A2.w 2 i = cntD c r was (A1.w 2) i) -> Called n t A held live c r A2 held' live' was := fun A2 f2 h2 => by
  refine ⟨⟨hi1.fr f2 (by simp), si1.fr f2 (by simp), hl1, by rw [f2.b]; exact hb1, by rw [f2.b]; exact hbl1⟩, by rw [f2.self, hft.self]; rfl, by rw [f2.told, hft.told], ⟨l, 0, ?_, by have := f2.lo; omega, l3, by rw [ht0]; rfl, .inl ⟨rfl, fun hh => by omega⟩⟩, ?_, fun i => ?_, ?_⟩
  ·simp only [AS.tick_steps] at l1; omega
  ·have h1 := hft.hi
   have := f2.hi
   simp only [AS.tick_steps] at h1; omega
  ·have hw : A1.w 2 = A.w 2 := funext fun i => by rw [hft.w 2 (by unfold renR; simp)]; rfl
   rw [h2, hw]
  ·rw [f2.b]
   exact .renew r was held' live' A1.b hop hR
 have hcd : ∀ f, cntD c r was f = if r.e = 0 then cntRe f was c.size else if r.e = 15 \/ r.e = 5 then xsb f else f := fun f => by
  unfold cntD
  rw [if_neg (by omega), if_pos hop]
 by_cases h0 : r.e = 0
 ·refine Rn.yes (by rw [h0]; rfl) ?_
  refine Rn.bind (xjx hf (w := was) (z := c.size)) ?_
  rintro _ A2 ⟨h1, h2⟩
  exact Rn.ret ⟨held', live', was, key A2 h2 fun i => by rw [h1, hcd, if_pos h0]⟩
 ·refine Rn.no (by simpa using h0) ?_
  by_cases h5 : r.e = 15 \/ r.e = 5
  ·refine Rn.run (WQ hf) (Rn.yes (decide_eq_true h5) (Rn.bind (xcq hf) ?_))
   rintro _ A2 ⟨h1, h2⟩
   exact Rn.ret ⟨held', live', was, key A2 h2 fun i => by rw [h1, hcd, if_neg h0, if_pos h5]⟩
  ·refine Rn.run (WQ hf) (Rn.no (decide_eq_false h5) ?_)
   exact Rn.ret ⟨held', live', was, key _ ((Fr.refl [2] _).mono) fun i => by rw [hcd, if_neg h0, if_neg h5]⟩
theorem do_free {me : Nat} {c : Cal} (hme : me < t) (hself : A.self = (me : Int)) (hp : Hp n t A held live) (hop : c.op = 5) :
  Rn n t ((XT (xb n t) c).bind fun r4 => (T.ret r4 : T Res)) A.tick fun r A' => ∃ held' live' was, Called n t A held live c r A' held' live' was := by
 refine Rn.bind (Q1 := fun r A' => ∃ held' live' was, Called n t A held live c r A' held' live' was) ?_ fun r A' h => Rn.ret h
 unfold XT VZ
 refine Rn.bind (xtX hf hme (A := A.tick) hself hp.tick.hi hp.tick.si fun g z hl => by
  obtain ⟨x, hx, _⟩ := hp.lh.lh g z hl
  exact ⟨x, hx⟩) ?_
 rintro r A1 ⟨hb, hft, ⟨l, l1, l2, l3⟩, hR⟩
 have hw : A1.w 2 = A.w 2 := funext fun i => by rw [hft.w 2 (by unfold xmX; simp)]; rfl
 have hs1 := hft.hi
 simp only [AS.tick_steps] at l1 hs1
 rcases hR with ⟨hr, hi1, si1, hno⟩ | ⟨g, z, hat, hlv, hr, _, _, hi1, si1⟩
 ·have he : r.e = 13 := by rw [hr]; rfl
  refine Rn.no (by rw [he]; rfl) (Rn.ret ⟨held, live, 0, ⟨⟨hi1, si1, hp.lh, by rw [hb]; exact hp.bys, by rw [hb]; exact hp.len⟩, by rw [hft.self]; rfl, hft.told, ⟨l, 0, by omega, by omega, l3, by rw [hr]; rfl, .inl ⟨rfl, fun hh => by omega⟩⟩, by omega, fun i => ?_, ?_⟩⟩)
  ·rw [hw, kr (c := c) (show ¬ (c.op = 1 \/ c.op = 2 \/ c.op = 3) by omega) (show c.op ≠ 4 by omega) (fun _ => show r.e ≠ 0 by omega)]
  ·rw [hr, hb]
   exact .bad r.lin (.inl hop) hno
 ·have he : r.e = 0 := by rw [hr]
  have hn : r.n = (z : Int) := by rw [hr]
  refine Rn.yes (by rw [he]; rfl) ?_
  refine Rn.bind (xp5 hf (z := r.n)) ?_
  ·rintro _ A2 ⟨h1, f2⟩
   refine Rn.ret ⟨upd held g none, updS live g none, 0, ⟨⟨hi1.fr f2 (by simp), si1.fr f2 (by simp), hp.lh.del g, by rw [f2.b, hb]; exact hp.bys, by rw [f2.b, hb]; exact hp.len⟩, by rw [f2.self, hft.self]; rfl, by rw [f2.told]; exact hft.told, ⟨l, 0, by omega, by have := f2.lo; omega, l3, by rw [hr]; rfl, .inl ⟨rfl, fun hh => by omega⟩⟩, by have := f2.hi; omega, fun i => ?_, ?_⟩⟩
   ·rw [h1, hw]
    unfold cntD
    rw [if_neg (by omega), if_neg (by omega), if_pos hop, if_pos he]
   ·rw [f2.b, hb, hr]
    exact .free _ g z hop hat hlv
theorem xdb {c : Cal} {k : Nat} {R : List Nat} {A1 : AS} {r : Res} (hi : HInv n t A1 held) (f : Fr R k A.tick A1) (hR : 2 ∉ R /\ 11 ∉ R) (hk : k <= 90000000000) (hp : Hp n t A held live) (ht0 : r.touch = 0) (hc : ∀ f, cntD c r 0 f = f) (h78 : ¬ (c.op = 7 \/ c.op = 8))
  (hd : Did n held live A.b (A.w 2) c { r with lin := i64.wrap A1.steps } held live A.b 0) (hcd : cntD c { r with lin := i64.wrap A1.steps } 0 = cntD c r 0) :
  Rn n t ((Wj r).bind fun r12 => (T.ret r12 : T Res)) A1 fun r A' => ∃ held' live' was, Called n t A held live c r A' held' live' was := by
 refine Rn.run (xv9 hf) (Rn.ret ⟨held, live, 0, ⟨⟨hi.w fun _ _ => rfl, (hp.tick.si.fr f hR.2).same fun _ => rfl, hp.lh, ?_, ?_⟩, ?_, rfl, ⟨A1.steps, 0, ?_, Nat.le_refl _, rfl, ?_, .inl ⟨rfl, fun hh => h78 hh.2⟩⟩, ?_, fun i => ?_, ?_⟩⟩)
 ·show Bys A1.b
  rw [f.b]; exact hp.bys
 ·show A1.b.length = _
  rw [f.b]; exact hp.len
 ·show A1.self = _
  rw [f.self]; rfl
 ·have := f.lo
  simp only [AS.tick_steps] at this; omega
 ·show r.touch = _
  rw [ht0]; rfl
 ·have := f.hi
  simp only [AS.tick_steps] at this
  show A1.steps <= _
  omega
 ·show A1.w 2 i = _
  rw [f.w 2 hR.1, hcd, hc]; rfl
 ·show Did n held live A.b (A.w 2) c _ held live A1.b 0
  rw [f.b]; exact hd
theorem run_do {me : Nat} {c : Cal} (hn60 : n <= 60) (hme : me < t) (hself : A.self = (me : Int)) (hp : Hp n t A held live) (hz : c.size < 9223372036854775808) (hm : c.n < 9223372036854775808) (hal : c.align < 9223372036854775808) (hby : 0 <= c.byte /\ c.byte <= 255) :
  Rn n t (doT (xb n t) c) A fun r A' => ∃ held' live' was, Called n t A held live c r A' held' live' was := by
 have hn1 := hf.n1
 unfold doT doTK
 refine Rn.no (beq_eq_false_iff_ne.2 (show ((n : Nat) : Int) ≠ 0 by omega)) (Rn.load (at1 hf.toFew) (by omega) (by simp [Zr]) ?_)
 refine Rn.cond (fun h => ?_) (fun g1 => ?_)
 ·have h : c.op = 1 := by simpa using h
  refine xp8 hf (c := c) (s := c.size) (a := 1) hp (.inl h) (by rw [if_neg (show ¬ c.op = 2 by omega)]) (by rw [if_neg (show ¬ c.op = 3 by omega)]) ((xp0 hf (A := A.tick) hme hself hp.tick.hi hp.tick.si).mono ?_)
  rintro r A1 ⟨hb, held', live', hA⟩
  exact ⟨held', live', hA, .inl ⟨hb, fun h2 => by omega⟩⟩
 have g1 : c.op ≠ 1 := by simpa using g1
 refine Rn.cond (fun h => ?_) (fun g2 => ?_)
 ·have h : c.op = 2 := by simpa using h
  refine xp8 hf (c := c) (s := yB n c.n c.size) (a := 1) hp (.inr (.inl h)) (by rw [if_pos h]) (by rw [if_neg (show ¬ c.op = 3 by omega)]) ((xp1 hf (A := A.tick) hn60 hm hz hme hself hp.tick.hi hp.tick.si).mono ?_)
  rintro r A1 ⟨held', live', hA, hb⟩
  refine ⟨held', live', hA, ?_⟩
  rcases hb with ⟨hb1, hb2⟩ | ⟨g, hb1, hb2⟩
  ·exact .inl ⟨hb2, fun _ => hb1⟩
  ·exact .inr ⟨h, g, hb1, hb2⟩
 have g2 : c.op ≠ 2 := by simpa using g2
 refine Rn.cond (fun h => ?_) (fun g3 => ?_)
 ·have h : c.op = 3 := by simpa using h
  refine xp8 hf (c := c) (s := c.size) (a := c.align) hp (.inr (.inr h)) (by rw [if_neg (show ¬ c.op = 2 by omega)]) (by rw [if_pos h]) ((xcm hf (A := A.tick) hme hself hal hp.tick.hi hp.tick.si).mono ?_)
  rintro r A1 ⟨hb, held', live', hA⟩
  exact ⟨held', live', hA, .inl ⟨hb, fun h2 => by omega⟩⟩
 have g3 : c.op ≠ 3 := by simpa using g3
 refine Rn.cond (fun h => xwb hf hn60 hme hself hp (by simpa using h)) (fun g4 => ?_)
 have g4 : c.op ≠ 4 := by simpa using g4
 refine Rn.cond (fun h => do_free hf hme hself hp (by simpa using h)) (fun g5 => ?_)
 have g5 : c.op ≠ 5 := by simpa using g5
 refine Rn.cond (fun h => ?_) (fun g6 => ?_)
 ·have h : c.op = 6 := by simpa using h
  refine Rn.bind (xp6 hf (A := A.tick) hme hself hp.tick) ?_
  rintro r A' ⟨A1, l, f, rfl, l1, l2, l3, hr⟩
  simp only [AS.tick_steps] at l1
  have f' : Fr [] 5 A A1 := (Fr.tick [] A).trans f
  have hp1 := hp.fr f' (by simp)
  have hc : ∀ f, cntD c r 0 f = f := kr (by omega) (by omega) (fun _ => by omega)
  rcases hr with ⟨hr, hno⟩ | ⟨g, z, x, k1, k2, k3, hr⟩
  ·refine Rn.ret ⟨held, live, 0, Called.calm (c := c) (r := r) (T := 0) f' (by simp) (by omega) (hp1.tell r) (fun _ => rfl) rfl rfl rfl ⟨by omega, l2, l3, by rw [hr]; rfl, .inl ⟨rfl, by omega⟩⟩ hc ?_⟩
   show Did n held live A.b (A.w 2) c r held live A1.b 0
   rw [f'.b, hr]
   exact .bad _ (by omega) hno
  ·refine Rn.ret ⟨held, live, 0, Called.calm (c := c) (r := r) (T := 0) f' (by simp) (by omega) (hp1.tell r) (fun _ => rfl) rfl rfl rfl ⟨by omega, l2, l3, by rw [hr]; rfl, .inl ⟨rfl, by omega⟩⟩ hc ?_⟩
   show Did n held live A.b (A.w 2) c r held live A1.b 0
   rw [f'.b, hr]
   exact .use _ g z x h k1 k2 k3
 have g6 : c.op ≠ 6 := by simpa using g6
 refine Rn.cond (fun h => ?_) (fun g7 => ?_)
 ·have h : c.op = 7 := by simpa using h
  refine Rn.bind (xp7 hf (A := A.tick) (a := c.at_) (o := c.off) (y := c.byte) hn60 hme hself hp.tick hby) ?_
  rintro r A' ⟨A1, l, T0, f, rfl, l1, l2, l3, l4, hr⟩
  simp only [AS.tick_steps] at l1
  have f' : Fr [] 5 { A with b := A1.b } A1 := ⟨f.w, rfl, f.self, f.told, by have := f.lo; simp only [AS.tick_steps] at this; show A.steps <= A1.steps; omega, by have := f.hi; simp only [AS.tick_steps] at this; show A1.steps <= A.steps + 5; omega⟩
  have hc : ∀ f, cntD c r 0 f = f := kr (by omega) (by omega) (fun _ => by omega)
  have fin : ∀ (hB : Bys A1.b) (hL : A1.b.length = 64 * n), ((T0 = 0 /\ ¬ (r.e = 0 /\ (c.op = 7 \/ c.op = 8))) \/ (l < T0 /\ T0 <= A1.steps /\ r.e = 0 /\ (c.op = 7 \/ c.op = 8))) -> Did n held live A.b (A.w 2) c r held live A1.b 0 -> Called n t A held live c r (A1.tell r) held live 0 := fun hB hL hT hd => by
   have hp1 : Hp n t A1 held live := (⟨hp.hi.w fun _ _ => rfl, hp.si.same fun _ => rfl, hp.lh, hB, hL⟩ : Hp n t { A with b := A1.b } held live).fr f' (by simp)
   exact ⟨hp1.tell r, f'.self, rfl, ⟨l, T0, by omega, l2, l3, l4, hT⟩, by have := f'.hi; show A1.steps <= _; simp only at this; omega, fun i => by show A1.w 2 i = _; rw [f'.w 2 (by simp), hc], hd⟩
  rcases hr with ⟨hr, ht, hb, hno⟩ | ⟨g, z, k1, k2, ho, hr, ht, hb⟩ | ⟨g, z, k, k1, k2, k3, k4, ht1, ht2, hr, hb⟩
  ·have he : r.e = 13 := by rw [hr]; rfl
   refine Rn.ret ⟨held, live, 0, fin (by rw [hb]; exact hp.bys) (by rw [hb]; exact hp.len) (.inl ⟨ht, by omega⟩) ?_⟩
   rw [hr, hb]
   exact .bad _ (by omega) hno
  ·have he : r.e = 14 := by rw [hr]; rfl
   refine Rn.ret ⟨held, live, 0, fin (by rw [hb]; exact hp.bys) (by rw [hb]; exact hp.len) (.inl ⟨ht, by omega⟩) ?_⟩
   rw [hr, hb]
   exact .out _ g z (by omega) k1 k2 ho
  ·have he : r.e = 0 := by rw [hr]
   refine Rn.ret ⟨held, live, 0, fin (by rw [hb]; exact hp.bys.set _ hby.1 hby.2) (by rw [hb, List.length_set]; exact hp.len) (.inr ⟨ht1, ht2, he, .inl h⟩) ?_⟩
   rw [hr, hb]
   exact .write _ _ g z k h k1 k2 k3 k4
 have g7 : c.op ≠ 7 := by simpa using g7
 refine Rn.cond (fun h => ?_) (fun g8 => ?_)
 ·have h : c.op = 8 := by simpa using h
  refine Rn.bind (xt5 hf (A := A.tick) (a := c.at_) (o := c.off) hn60 hme hself hp.tick) ?_
  rintro r A' ⟨A1, l, T0, f, rfl, l1, l2, l3, l4, hr⟩
  simp only [AS.tick_steps] at l1
  have f' : Fr [] 5 A A1 := (Fr.tick [] A).trans f
  have hp1 := hp.fr f' (by simp)
  have hc : ∀ f, cntD c r 0 f = f := kr (by omega) (by omega) (fun _ => by omega)
  rcases hr with ⟨hr, ht, hno⟩ | ⟨g, z, k1, k2, ho, hr, ht⟩ | ⟨g, z, k, y, k1, k2, k3, k4, ht1, ht2, hr, hy⟩
  ·have he : r.e = 13 := by rw [hr]; rfl
   refine Rn.ret ⟨held, live, 0, Called.calm (c := c) (r := r) f' (by simp) (by omega) (hp1.tell r) (fun _ => rfl) rfl rfl rfl ⟨by omega, l2, l3, l4, .inl ⟨ht, by omega⟩⟩ hc ?_⟩
   show Did n held live A.b (A.w 2) c r held live A1.b 0
   rw [f'.b, hr]
   exact .bad _ (by omega) hno
  ·have he : r.e = 14 := by rw [hr]; rfl
   refine Rn.ret ⟨held, live, 0, Called.calm (c := c) (r := r) f' (by simp) (by omega) (hp1.tell r) (fun _ => rfl) rfl rfl rfl ⟨by omega, l2, l3, l4, .inl ⟨ht, by omega⟩⟩ hc ?_⟩
   show Did n held live A.b (A.w 2) c r held live A1.b 0
   rw [f'.b, hr]
   exact .out _ g z (by omega) k1 k2 ho
  ·have he : r.e = 0 := by rw [hr]
   refine Rn.ret ⟨held, live, 0, Called.calm (c := c) (r := r) f' (by simp) (by omega) (hp1.tell r) (fun _ => rfl) rfl rfl rfl ⟨by omega, l2, l3, l4, .inr ⟨ht1, ht2, he, .inr h⟩⟩ hc ?_⟩
   show Did n held live A.b (A.w 2) c r held live A1.b 0
   rw [f'.b, hr]
   exact .read _ _ g z k y h k1 k2 k3 k4 hy
 have g8 : c.op ≠ 8 := by simpa using g8
 have hc : ∀ (r : Res) (f : Nat -> Int), cntD c r 0 f = f := fun r => kr (by omega) (by omega) (fun _ => by omega)
 refine Rn.cond (fun h => ?_) (fun g9 => ?_)
 ·have h : c.op = 9 := by simpa using h
  refine Rn.bind (xt8 hf (A := A.tick) hme hself hp.tick.hi) ?_
  rintro _ A1 ⟨hi1, f⟩
  exact xdb hf hi1 f (by simp) (by omega) hp rfl (hc _) (by omega) (.tidy _ (.inl h)) (by funext q; rw [hc, hc])
 have g9 : c.op ≠ 9 := by simpa using g9
 refine Rn.cond (fun h => ?_) (fun g10 => ?_)
 ·have h : c.op = 10 := by simpa using h
  refine Rn.bind (xv1 hf (A := A.tick) hme hself hp.tick.hi) ?_
  rintro _ A1 ⟨rfl, hi1, f, _⟩
  exact xdb hf hi1 f (by unfold srcR; simp) (by omega) hp rfl (hc _) (by omega) (.tidy _ (.inr h)) (by funext q; rw [hc, hc])
 have g10 : c.op ≠ 10 := by simpa using g10
 refine Rn.cond (fun h => ?_) (fun g11 => ?_)
 ·have h : c.op = 11 := by simpa using h
  refine Rn.bind (Q1 := fun x A1 => x = ⟨A.w 2 0, A.w 2 1, A.w 2 2, A.w 2 3, A.w 2 4⟩ /\ HInv n t A1 held /\ Fr [] 5 A.tick A1) ?_ ?_
  ·unfold xfT xdB
   refine Rn.load (at2 hf (i := 0) (by omega)) (by omega) (by simp [Zr]) (Rn.load (at2 hf (i := 1) (by omega)) (by omega) (by simp [Zr]) (Rn.load (at2 hf (i := 2) (by omega)) (by omega) (by simp [Zr]) (Rn.load (at2 hf (i := 3) (by omega)) (by omega) (by simp [Zr]) (Rn.load (at2 hf (i := 4) (by omega)) (by omega) (by simp [Zr]) (Rn.ret ?_)))))
   have f5 : Fr [] 5 A.tick A.tick.tick.tick.tick.tick.tick := ⟨fun _ _ _ => rfl, rfl, rfl, rfl, by simp only [AS.tick_steps]; omega, by simp only [AS.tick_steps]; omega⟩
   exact ⟨rfl, hp.tick.hi.fr f5 (by simp), f5⟩
  ·rintro _ A1 ⟨rfl, hi1, f⟩
   exact xdb hf hi1 f (by simp) (by omega) hp rfl (hc _) (by omega) (.stats _ h) (by funext q; rw [hc, hc])
 have g11 : c.op ≠ 11 := by simpa using g11
 exact xdb hf hp.tick.hi (Fr.refl [] A.tick) (by simp) (by omega) hp rfl (hc _) (by omega) (.other _ (by omega)) (by funext q; rw [hc, hc])
end
end Go.Proofs.YtaegelbaghaooaaGreat
