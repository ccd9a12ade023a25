/- Part. -/
import Derived.Test.YtaegelbaghaooaaGreatCfPDo
set_option linter.all false
open Go.IntKind (i64 u64 u32 u8)
namespace Go.Proofs.YtaegelbaghaooaaGreat
open Go Go.RowKit Lx
theorem xwa {b : List Int} {p m : Nat} : (zeroed b p m).length = b.length := xe3 (n := 1) (t := 1) ⟨⟨by omega, by omega, by omega, by omega⟩, by unfold nodesN; omega⟩ b p m
theorem Hp.fr {n t c : Nat} {R : List Nat} {A A' : AS} {held : Nat -> Option HK} {live : Nat -> Option Nat} (h : Hp n t A held live) (f : Fr R c A A') (hR : ∀ r ∈ R, r = 2 \/ r = 6 \/ r = 14) : Hp n t A' held live :=
 ⟨h.hi.fr f fun r hr => by have := hR r hr; omega, h.si.fr f fun hh => by have := hR 11 hh; omega, h.lh, by rw [f.b]; exact h.bys, by rw [f.b]; exact h.len⟩
theorem Hp.tell {n t : Nat} {A : AS} {held : Nat -> Option HK} {live : Nat -> Option Nat} (h : Hp n t A held live) (r : Res) : Hp n t (A.tell r) held live :=
 ⟨h.hi.w fun _ _ => rfl, h.si.same fun _ => rfl, h.lh, h.bys, h.len⟩
theorem Called.calm {n t : Nat} {A A1 A2 : AS} {held : Nat -> Option HK} {live : Nat -> Option Nat} {c : Cal} {r : Res} {k l T : Nat} {R : List Nat} (hf : Fr R k A A1) (hR : 2 ∉ R) (hk : k <= 100000000000) (hp : Hp n t A2 held live) (h2w : ∀ i, A2.w 2 i = A1.w 2 i) (hs : A2.self = A1.self) (hst : A2.steps = A1.steps) (ht : A2.told = some r.cells)
  (hl : A.steps < l /\ l <= A1.steps /\ r.lin = i64.wrap l /\ r.touch = i64.wrap T /\ ((T = 0 /\ ¬ (r.e = 0 /\ (c.op = 7 \/ c.op = 8))) \/ (l < T /\ T <= A1.steps /\ r.e = 0 /\ (c.op = 7 \/ c.op = 8))))
  (hc : ∀ f, cntD c r 0 f = f) (hd : Did n held live A.b (A.w 2) c r held live A2.b 0) : Called n t A held live c r A2 held live 0 :=
 ⟨hp, by rw [hs, hf.self], ht, ⟨l, T, by rw [hst]; exact hl⟩, by have := hf.hi; omega, fun i => by rw [h2w, hf.w 2 hR, hc], hd⟩
theorem kr {c : Cal} {r : Res} {was : Int} (h : ¬ (c.op = 1 \/ c.op = 2 \/ c.op = 3)) (h4 : c.op ≠ 4) (h5 : c.op = 5 -> r.e ≠ 0) (f : Nat -> Int) : cntD c r was f = f := by
 unfold cntD
 rw [if_neg h, if_neg h4]
 by_cases h : c.op = 5
 ·rw [if_pos h, if_neg (h5 h)]
 ·rw [if_neg h]
section
variable {n t : Nat} (hf : Small n t) {A : AS} {held : Nat -> Option HK} {live : Nat -> Option Nat}
include hf
theorem Called.ask {A1 A2 : AS} {c : Cal} {r : Res} {s a : Int} {held' : Nat -> Option HK} {live' : Nat -> Option Nat} (hp : Hp n t A held live) (hAs : Asked n t A.tick held live s a r A1 held' live') (hs : s = if c.op = 2 then yB n c.n c.size else c.size) (ha : a = if c.op = 3 then c.align else 1) (hop : c.op = 1 \/ c.op = 2 \/ c.op = 3)
  (hb : A1.b = A.b /\ (c.op = 2 -> r.e ≠ 0) \/ c.op = 2 /\ ∃ g : Nat, r.at_ = ((8 * g : Nat) : Int) /\ A1.b = zeroed A.b (8 * g) (yB n c.n c.size).toNat) (f2 : Fr [2] 3 A1 A2) (h2 : ∀ i, A2.w 2 i = xcp c r (A1.w 2) i) : Called n t A held live c r A2 held' live' 0 := by
 obtain ⟨hfr, hi, hst, ⟨l, l1, l2, l3, _⟩, hres⟩ := hAs
 have hbb : Bys A1.b /\ A1.b.length = A.b.length := by
  rcases hb with ⟨hb, _⟩ | ⟨_, g, _, hb⟩
  ·rw [hb]; exact ⟨hp.bys, rfl⟩
  ·rw [hb]; exact ⟨hp.bys.zeroed _ _, xwa⟩
 have htouch : r.touch = 0 := by
  rcases hres with ⟨_, _, h, _⟩ | ⟨g, x, h, _⟩
  ·rw [h]; rfl
  ·rw [h]
 have hAR : AskRes n held live s a r held' live' := hres
 subst hs ha
 refine ⟨⟨hi.fr f2 (by simp), hst.fr f2 (by simp), hAR.lh hp.lh, by rw [f2.b]; exact hbb.1, by rw [f2.b, hbb.2]; exact hp.len⟩, by rw [f2.self, hfr.self]; rfl, by rw [f2.told, hfr.told], ⟨l, 0, ?_, by have := f2.lo; omega, l3, by rw [htouch]; rfl, .inl ⟨rfl, fun hh => by omega⟩⟩, ?_, fun i => ?_, ?_⟩
 ·simp only [AS.tick_steps] at l1; omega
 ·have h1 := hfr.hi
  have := f2.hi
  simp only [AS.tick_steps] at h1; omega
 ·have hw : A1.w 2 = A.w 2 := funext fun i => by rw [hfr.w 2 (by unfold askR; simp)]; rfl
  rw [h2, hw]
  unfold cntD
  rw [if_pos hop]
 ·refine .ask r held' live' A2.b hop hAR ?_
  rw [f2.b]; exact hb
theorem xp6 {me : Nat} {a : Int} (hme : me < t) (hself : A.self = (me : Int)) (hp : Hp n t A held live) : Rn n t (XY (xb n t) a) A fun r A' =>
  ∃ (A1 : AS) (l : Nat), Fr [] 4 A A1 /\ A' = A1.tell r /\ A.steps <= l /\ l <= A1.steps /\ r.lin = i64.wrap l /\ ((r = Res.none 13 r.lin /\ ∀ g z : Nat, live g = some z -> a ≠ ((8 * g : Nat) : Int)) \/
   ∃ (g z : Nat) (x : HK), a = ((8 * g : Nat) : Int) /\ live g = some z /\ held g = some x /\ r = ⟨0, ((8 * x.ext : Nat) : Int), 0, 0, 0, 0, 0, 0, 0, r.lin, 0⟩) := by
 have hn := hf.n2
 unfold XY Kg vX
 rw [show xa = 4095 + 1 from rfl, xr]
 unfold qK
 refine Rn.bind (xbf hf (A := A) (a := a) hme hself hp) ?_
 rintro ⟨x1, x2, x3, x4⟩ A' (⟨l, l1, l2, e1, e2, e3, A1, f1, rfl⟩ | ⟨g, z, v, rfl, k1, k2, e, rfl⟩)
 ·simp only at e1 e2
  subst e1 e2
  refine Rn.yes rfl (Rn.ret ⟨A1, l, f1.mono, rfl, l1, l2, rfl, .inl ⟨rfl, e3⟩⟩)
 ·simp only [Prod.mk.injEq] at e
  obtain ⟨rfl, rfl, _, rfl⟩ := e
  obtain ⟨x, hx, _⟩ := hp.lh.lh g z k1
  have hgn := HInv.small hf hp.hi hx
  refine Rn.no rfl ?_
  have hrr := xh9 hf (A := A.tick) (s := 0) (to := 0) (u := 0) (has := false) ((hp.fr (Fr.tick [] A) (by simp)).hi) hx
  unfold Vj xaj at hrr
  rw [show (⟨(g : Int), 0, 0, 0, false⟩ : Lx.Rn).grain = (g : Int) from rfl, T.run_bind, Xg hf hgn] at hrr
  refine Rn.run (Xg hf (A := A.tick) hgn) ?_
  have hdr : (xbF ⟨(pgOf (A.tick.w 7 (g / 8))).kind, (pgOf (A.tick.w 7 (g / 8))).len, (pgOf (A.tick.w 7 (g / 8))).cls, (pgOf (A.tick.w 7 (g / 8))).owner⟩).run (xl n t) A.tick.tick = some (((8 * x.ext : Nat) : Int), A.tick.tick) := by
   unfold xbF xdw
   simp only at hrr
   by_cases hk3 : ((pgOf (A.tick.w 7 (g / 8))).kind == 3) = true
   ·rw [hk3] at hrr |-
    simp only [cond_true] at hrr |-
    by_cases hc4 : (0 <= (pgOf (A.tick.w 7 (g / 8))).cls /\ (pgOf (A.tick.w 7 (g / 8))).cls < 4)
    ·rw [decide_eq_true hc4] at hrr |-
     simp only [cond_true, T.run, oI, Prod.mk.injEq] at hrr |-
     exact ⟨hrr.1.1, trivial⟩
    ·rw [decide_eq_false hc4] at hrr
     simp [T.run] at hrr
   ·rw [Bool.not_eq_true] at hk3
    rw [hk3] at hrr |-
    by_cases hk4 : ((pgOf (A.tick.w 7 (g / 8))).kind == 4) = true
    ·rw [hk4] at hrr
     simp only [cond_false, cond_true, T.run, oI, Prod.mk.injEq] at hrr |-
     exact ⟨hrr.1.1, trivial⟩
    ·rw [Bool.not_eq_true] at hk4
     rw [hk4] at hrr
     simp only [cond_false, T.run, oI, Prod.mk.injEq] at hrr
     have h0 := hrr.1.1
     have hpos : 0 < x.ext := by
      cases x with
      | blk c => simp only [HK.ext]; omega
      | run m => have := (hp.hi.hg.run g m hx).1; simp only [HK.ext]; omega
     omega
  refine Rn.run hdr ?_
  refine Rn.load (at11 hf.toFew hgn) (by omega) hgn ?_
  refine Rn.yes (by simp only [AS.tick_w]; rw [k2]; simp) ?_
  refine Rn.steps (Rn.run (xZ hf) (Rn.ret ⟨A.tick.tick.tick, A.steps + 3, ?_, rfl, by omega, by simp, rfl, .inr ⟨g, z, x, rfl, k1, hx, rfl⟩⟩))
  exact ((Fr.tick [] A).trans (Fr.tick [] _) (S := []) (e := 2)).trans (Fr.tick [] _)
theorem xp7 {me : Nat} {a o y : Int} (hn60 : n <= 60) (hme : me < t) (hself : A.self = (me : Int)) (hp : Hp n t A held live) (hy : 0 <= y /\ y <= 255) : Rn n t (XX (xb n t) a o y) A fun r A' =>
    ∃ (A1 : AS) (l T : Nat), Fr [] 4 { A with b := A1.b } A1 /\ A' = A1.tell r /\ A.steps <= l /\ l <= A1.steps /\ r.lin = i64.wrap l /\ r.touch = i64.wrap T /\
      ((r = Res.none 13 r.lin /\ T = 0 /\ A1.b = A.b /\ ∀ g z : Nat, live g = some z -> a ≠ ((8 * g : Nat) : Int)) \/
       (∃ g z : Nat, a = ((8 * g : Nat) : Int) /\ live g = some z /\ (o < 0 \/ (z : Int) <= o) /\ r = Res.none 14 r.lin /\ T = 0 /\ A1.b = A.b) \/
       ∃ g z k : Nat, a = ((8 * g : Nat) : Int) /\ live g = some z /\ o = (k : Int) /\ k < z /\ l < T /\ T <= A1.steps /\ r = ⟨0, 0, 0, 0, 0, 0, 0, 0, 0, r.lin, r.touch⟩ /\ A1.b = A.b.set (8 * g + k) y) := by
  unfold XX Ke
  refine Rn.bind (xbf hf (A := A) (a := a) hme hself hp) ?_
  rintro ⟨x1, x2, x3, x4⟩ A' (⟨l, l1, l2, e1, e2, e3, A1, f1, rfl⟩ | ⟨g, z, v, rfl, k1, k2, e, rfl⟩)
  . simp only at e1 e2
    subst e1 e2
    have hfb : Fr [] 4 { A with b := A1.b } A1 := ⟨f1.w, rfl, f1.self, f1.told, f1.lo, by have := f1.hi; show A1.steps <= A.steps + 4; omega⟩
    refine Rn.yes rfl (Rn.ret ⟨A1, l, 0, hfb, rfl, l1, l2, rfl, rfl, .inl ⟨rfl, rfl, f1.b, e3⟩⟩)
  . simp only [Prod.mk.injEq] at e
    obtain ⟨rfl, rfl, _, rfl⟩ := e
    obtain ⟨x, hx, hz⟩ := hp.lh.lh g z k1
    have hgn := HInv.small hf hp.hi hx
    refine Rn.no rfl ?_
    have out : (o < 0 \/ (z : Int) <= o) -> ∃ (A1 : AS) (l T : Nat), Fr [] 4 { A with b := A1.b } A1 /\ A.tick.tell (Res.none 14 (i64.wrap (A.steps + 1))) = A1.tell (Res.none 14 (i64.wrap (A.steps + 1))) /\ A.steps <= l /\ l <= A1.steps /\ i64.wrap (A.steps + 1) = i64.wrap l /\ (0 : Int) = i64.wrap T /\
      ((Res.none 14 (i64.wrap (A.steps + 1)) = Res.none 13 (i64.wrap (A.steps + 1)) /\ T = 0 /\ A1.b = A.b /\ ∀ g' z : Nat, live g' = some z -> ((8 * g : Nat) : Int) ≠ ((8 * g' : Nat) : Int)) \/
       (∃ g' z : Nat, ((8 * g : Nat) : Int) = ((8 * g' : Nat) : Int) /\ live g' = some z /\ (o < 0 \/ (z : Int) <= o) /\ Res.none 14 (i64.wrap (A.steps + 1)) = Res.none 14 (i64.wrap (A.steps + 1)) /\ T = 0 /\ A1.b = A.b) \/
       ∃ g' z k : Nat, ((8 * g : Nat) : Int) = ((8 * g' : Nat) : Int) /\ live g' = some z /\ o = (k : Int) /\ k < z /\ l < T /\ T <= A1.steps /\ Res.none 14 (i64.wrap (A.steps + 1)) = ⟨0, 0, 0, 0, 0, 0, 0, 0, 0, i64.wrap (A.steps + 1), 0⟩ /\ A1.b = A.b.set (8 * g' + k) y) := fun ho =>
      ⟨A.tick, A.steps + 1, 0, ⟨fun _ _ _ => rfl, rfl, rfl, rfl, by show A.steps <= A.steps + 1; omega, by show A.steps + 1 <= A.steps + 4; omega⟩, rfl, by omega, Nat.le_refl _, rfl, rfl, .inr (.inl ⟨g, z, rfl, k1, ho, rfl, rfl, rfl⟩)⟩
    by_cases h1 : o < 0
    . exact Rn.yes (decide_eq_true h1) (Rn.run (xZ hf) (Rn.ret (out (.inl h1))))
    refine Rn.no (decide_eq_false h1) ?_
    by_cases h2 : o >= (z : Int)
    . exact Rn.yes (decide_eq_true h2) (Rn.run (xZ hf) (Rn.ret (out (.inr h2))))
    refine Rn.no (decide_eq_false h2) (Rn.run (xZ hf) ?_)
    obtain ⟨k, rfl⟩ : ∃ k : Nat, o = (k : Int) := ⟨o.toNat, by omega⟩
    have ea : i64.wrap (((8 * g : Nat) : Int) + (k : Int)) = ((8 * g + k : Nat) : Int) := by
      have := hp.si.lives g z hgn k1
      rw [show ((8 * g : Nat) : Int) + (k : Int) = ((8 * g + k : Nat) : Int) by omega, wN _ (by omega)]
    rw [ea]
    refine Rn.op (o := .put _ y) (x := ()) (A1 := ({ A.tick.tell ⟨0, 0, 0, 0, 0, 0, 0, 0, 0, i64.wrap (A.steps + 1), 0⟩ with b := A.b.set (8 * g + k) y } : AS).tick) ?_ ?_
    . simp only [xl]
      rw [if_pos hy]
      rfl
    refine Rn.steps (Rn.run (xZ hf) (Rn.ret ⟨{ A.tick.tick with b := A.b.set (8 * g + k) y }, A.steps + 1, A.steps + 2, ⟨fun _ _ _ => rfl, rfl, rfl, rfl, by show A.steps <= A.steps + 1 + 1; omega, by show A.steps + 1 + 1 <= A.steps + 4; omega⟩, rfl, by omega, by show A.steps + 1 <= A.steps + 1 + 1; omega, rfl, rfl, .inr (.inr ⟨g, z, k, rfl, k1, rfl, by omega, by omega, Nat.le_refl _, rfl, rfl⟩)⟩))
theorem xt5 {me : Nat} {a o : Int} (hn60 : n <= 60) (hme : me < t) (hself : A.self = (me : Int)) (hp : Hp n t A held live) : Rn n t (xaU (xb n t) a o) A fun r A' =>
    ∃ (A1 : AS) (l T : Nat), Fr [] 4 A A1 /\ A' = A1.tell r /\ A.steps <= l /\ l <= A1.steps /\ r.lin = i64.wrap l /\ r.touch = i64.wrap T /\
      ((r = Res.none 13 r.lin /\ T = 0 /\ ∀ g z : Nat, live g = some z -> a ≠ ((8 * g : Nat) : Int)) \/
       (∃ g z : Nat, a = ((8 * g : Nat) : Int) /\ live g = some z /\ (o < 0 \/ (z : Int) <= o) /\ r = Res.none 14 r.lin /\ T = 0) \/
       ∃ (g z k : Nat) (y : Int), a = ((8 * g : Nat) : Int) /\ live g = some z /\ o = (k : Int) /\ k < z /\ l < T /\ T <= A1.steps /\ r = ⟨0, 0, y, 0, 0, 0, 0, 0, 0, r.lin, r.touch⟩ /\ A.b[8 * g + k]? = some y) := by
  unfold xaU xc6
  refine Rn.bind (xbf hf (A := A) (a := a) hme hself hp) ?_
  rintro ⟨x1, x2, x3, x4⟩ A' (⟨l, l1, l2, e1, e2, e3, A1, f1, rfl⟩ | ⟨g, z, v, rfl, k1, k2, e, rfl⟩)
  . simp only at e1 e2
    subst e1 e2
    refine Rn.yes rfl (Rn.ret ⟨A1, l, 0, f1.mono, rfl, l1, l2, rfl, rfl, .inl ⟨rfl, rfl, e3⟩⟩)
  . simp only [Prod.mk.injEq] at e
    obtain ⟨rfl, rfl, _, rfl⟩ := e
    obtain ⟨x, hx, hz⟩ := hp.lh.lh g z k1
    have hgn := HInv.small hf hp.hi hx
    have hex := hp.hi.hg.ext1 hx
    refine Rn.no rfl ?_
    by_cases h1 : o < 0
    . refine Rn.yes (decide_eq_true h1) (Rn.run (xZ hf) (Rn.ret ⟨A.tick, A.steps + 1, 0, (Fr.tick [] A).mono, rfl, by omega, Nat.le_refl _, rfl, rfl, .inr (.inl ⟨g, z, rfl, k1, .inl h1, rfl, rfl⟩)⟩))
    refine Rn.no (decide_eq_false h1) ?_
    by_cases h2 : o >= (z : Int)
    . refine Rn.yes (decide_eq_true h2) (Rn.run (xZ hf) (Rn.ret ⟨A.tick, A.steps + 1, 0, (Fr.tick [] A).mono, rfl, by omega, Nat.le_refl _, rfl, rfl, .inr (.inl ⟨g, z, rfl, k1, .inr h2, rfl, rfl⟩)⟩))
    refine Rn.no (decide_eq_false h2) (Rn.run (xZ hf) ?_)
    obtain ⟨k, rfl⟩ : ∃ k : Nat, o = (k : Int) := ⟨o.toNat, by omega⟩
    have ea : i64.wrap (((8 * g : Nat) : Int) + (k : Int)) = ((8 * g + k : Nat) : Int) := by
      rw [show ((8 * g : Nat) : Int) + (k : Int) = ((8 * g + k : Nat) : Int) by omega, wN _ (by omega)]
    rw [ea]
    have hlen : 8 * g + k < A.b.length := by rw [hp.len]; omega
    have hget : A.b[8 * g + k]? = some A.b[8 * g + k] := List.getElem?_eq_getElem hlen
    have hby := hp.bys _ (List.getElem_mem hlen)
    refine Rn.op (o := .get _) (x := A.b[8 * g + k]) (A1 := (A.tick.tell ⟨0, 0, 0, 0, 0, 0, 0, 0, 0, i64.wrap (A.steps + 1), 0⟩).tick) ?_ ?_
    . simp only [xl]
      rw [show atI (A.tick.tell ⟨0, 0, 0, 0, 0, 0, 0, 0, 0, i64.wrap (A.steps + 1), 0⟩).b ((8 * g + k : Nat) : Int) = some A.b[8 * g + k] from hget]
      simp only
      rw [if_pos hby]
    refine Rn.steps (Rn.run (xZ hf) (Rn.ret ⟨A.tick.tick, A.steps + 1, A.steps + 2, (Fr.tick [] A).trans (Fr.tick [] _), rfl, by omega, by show A.steps + 1 <= A.steps + 1 + 1; omega, rfl, rfl, .inr (.inr ⟨g, z, k, A.b[8 * g + k], rfl, k1, rfl, by omega, by omega, Nat.le_refl _, rfl, hget⟩)⟩))
end
end Go.Proofs.YtaegelbaghaooaaGreat
