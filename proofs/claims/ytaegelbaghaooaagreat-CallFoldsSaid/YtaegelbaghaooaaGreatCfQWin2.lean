/- Part. -/
import Derived.Test.YtaegelbaghaooaaGreatCfQWin
import Derived.Deep.Slices
set_option linter.all false
namespace Go.Proofs.YtaegelbaghaooaaGreat
open Go.RowKit Go.ChangeShapes Lx
section
variable {H : Type} {enc : TypeId × Value -> H} {w : World} {base : Nat} {spare : Nat -> Bool} {held : Bool}
theorem xuQ {t e : TypeId} {sh : List CK} {Q : List Int -> Prop} {fuel : Nat} {v : Value} {x : DataW H × List MemPlace} (ht : Tryz.prog.underlying t = some (.slice e)) (hc : Tryz.prog.cellsOf e = sh.length) (h0 : 0 < sh.length)
  (hel : ∀ (n : Nat) (cs : List Value) y, DataW.trod enc Tryz.prog w base spare held n e cs = some y -> ∃ r : List Int, Q r /\ denL NP.pv [] (rowC sh r) = some cs)
  (h : DataW.trod enc Tryz.prog w base spare held fuel t [v] = some x) : ∃ (b off : Nat) (z : Option Addr) (n c : Nat) (L : RowsL), v = winV b off z n c /\ L.length = n /\ (∀ r ∈ L, Q r) /\ WinAt w b ⟨[], e, false, some (.wrows off sh L)⟩ := by
 rcases Go.Deep.open_slice ht h with ⟨hcs, _⟩ | ⟨a, l, c, m, k, D, Pl, hcs, _, hl, hm, hmm, _, hi⟩
 ·simp only [List.cons.injEq, and_true] at hcs
  subst hcs
  exact ⟨0, 0, none, 0, 0, [], rfl, rfl, (fun _ h => by cases h), ⟨⟨0, rfl, .inl rfl⟩, rfl⟩⟩
 ·simp only [List.cons.injEq, and_true] at hcs
  subst hcs
  have hlm : l <= m := by rw [hmm]; split <;> omega
  by_cases hl0 : l = 0
  ·subst hl0
   exact ⟨0, 0, some a, 0, c, [], rfl, rfl, (fun _ h => by cases h), ⟨⟨0, rfl, .inl rfl⟩, rfl⟩⟩
  ·obtain ⟨E, hE⟩ := Go.Deep.choose_lt (α := List Int) (n := l) (p := fun i r => Q r /\ ∃ cs, w.cells? base (a.add (i * sh.length)) sh.length = some cs /\ denL NP.pv [] (rowC sh r) = some cs) (fun i hi' => by
    obtain ⟨cs', h1, h2⟩ := hi i (by omega)
    rw [hc] at h1
    obtain ⟨r, hr, hd⟩ := hel _ _ _ h2
    exact ⟨r, hr, cs', h1, hd⟩)
   have at_ : ∀ i, i < l -> ∀ j, j < sh.length -> ∃ c v, (rowC sh (E i))[j]? = some c /\ den NP.pv [] c = some v /\ w.cell? (a.add (i * sh.length + j)) = some v := by
    intro i hi j hj
    obtain ⟨_, cs, h1, h2⟩ := hE i hi
    have h3 := (World.cells?_some h1).2.2 j hj
    rw [Go.Deep.add_add] at h3
    have hjr : j < (rowC sh (E i)).length := by rw [yT]; exact hj
    obtain ⟨v, h4, h5⟩ := jF h2 (List.getElem?_eq_getElem hjr)
    exact ⟨_, v, List.getElem?_eq_getElem hjr, h4, by rw [h3, h5]⟩
   obtain ⟨c0, v0, _, _, h00⟩ := at_ 0 (by omega) 0 h0
   obtain ⟨b, o, sp⟩ := a
   have hsp : sp = none := by simpa [Addr.add] using World.cell?_spot h00
   subst hsp
   refine ⟨b, o, none, l, c, (List.range l).map E, by simp [winV, hl0], by simp, fun r hr => ?_, ⟨⟨o, rfl, .inr ⟨by simpa [Addr.add] using World.block_lt_of_cell? w _ h00, fun cs hcs j v hj => ?_⟩⟩, rfl⟩⟩
   ·obtain ⟨i, hi', rfl⟩ := List.mem_map.1 hr
    exact (hE i (by simpa using hi')).1
   ·have hlen : cs.length = l * sh.length := by
     rw [ya hcs]
     show (((List.range l).map E).flatMap (rowC sh)).length = _
     rw [ZF, List.length_map, List.length_range]
    have hjl : j < l * sh.length := by rw [<- hlen]; exact (List.getElem?_eq_some_iff.1 hj).1
    have hil : j / sh.length < l := Nat.div_lt_of_lt_mul (by rw [Nat.mul_comm]; exact hjl)
    have hjm : j % sh.length < sh.length := Nat.mod_lt _ h0
    have hje : j / sh.length * sh.length + j % sh.length = j := by rw [Nat.mul_comm]; exact Nat.div_add_mod _ _
    obtain ⟨c1, v1, h1, h2, h3⟩ := at_ _ hil _ hjm
    have h4 := Vw (sh := sh) (l := (List.range l).map E) (i := j / sh.length) (j := j % sh.length) (by simpa using hil) hjm
    have h5 : getR ((List.range l).map E) (j / sh.length) = E (j / sh.length) := by
     unfold getR
     rw [List.getD_eq_getElem?_getD, List.getElem?_map, List.getElem?_range hil]; rfl
    rw [h5, h1, hje] at h4
    obtain ⟨v2, h6, h7⟩ := jF hcs h4
    rw [h2] at h6
    cases h6
    rw [h7] at hj
    cases hj
    rw [hje, yM] at h3
    exact h3
end
end Go.Proofs.YtaegelbaghaooaaGreat
