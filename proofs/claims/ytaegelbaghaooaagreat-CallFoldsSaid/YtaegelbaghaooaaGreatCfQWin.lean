/- Part. -/
import Derived.Test.YtaegelbaghaooaaGreatCfM4
import Derived.OpenShut
import Derived.ChangeSlices
import Derived.ProofKit
set_option linter.all false
namespace Go.Proofs.YtaegelbaghaooaaGreat
open Go.RowKit Go.ChangeShapes Lx
structure WinAt (w : World) (b : Nat) (k : Blk) : Prop where
 win : ∃ off, k.win = some off /\ (k.virt = true \/ (b < w.heap.size /\ ∀ cs, denL NP.pv [] k.real = some cs -> ∀ j v, cs[j]? = some v -> w.cell? ⟨b, off + j, none⟩ = some v))
 ok : k.cells = []
theorem xow {k : Blk} {off : Nat} (h : k.win = some off) : k.real.all yk = true := by
 unfold Blk.real
 cases ht : k.tab with
 | none => rw [Blk.win_none ht] at h; cases h
 | some t => exact xdQ t
theorem xwE (pv : Value) (w : World) (l : List (Nat × Blk)) (h : ∀ p ∈ l, WinAt w p.1 p.2) : Emb pv (l.map fun p => (p.1, 0)) (l.map fun p => some p.2) w := by
 have at_ : ∀ i k, blkAt (l.map fun p => some p.2) i = some k -> ∃ p, l[i]? = some p /\ p.2 = k := by
  intro i k hk
  rw [xR, List.getElem?_map, oM] at hk
  obtain ⟨p, hp, he⟩ := hk
  exact ⟨p, hp, by simpa using he⟩
 refine ⟨by simp, fun i k hk => ?_, fun i j k k' r r' hk hk' _ _ _ _ _ => .inr ⟨?_, ?_⟩, fun i k hk => ?_⟩
 ·obtain ⟨p, hp, rfl⟩ := at_ i k hk
  obtain ⟨off, h1, h2⟩ := (h p (List.mem_of_getElem? hp)).win
  obtain ⟨cs, hcs⟩ := Yg pv (l.map fun p => (p.1, 0)) (xow h1)
  refine ⟨(p.1, 0), cs, by rw [List.getElem?_map, hp]; rfl, hcs, ?_⟩
  rcases h2 with h2 | ⟨h2, h3⟩
  ·exact .inl h2
  ·right
   rw [h1]
   exact ⟨h2, h3 cs (by rw [<- hcs]; exact jG (xow h1))⟩
 ·obtain ⟨p, hp, rfl⟩ := at_ i k hk
  obtain ⟨off, h1, _⟩ := (h p (List.mem_of_getElem? hp)).win
  rw [h1]; rfl
 ·obtain ⟨p, hp, rfl⟩ := at_ j k' hk'
  obtain ⟨off, h1, _⟩ := (h p (List.mem_of_getElem? hp)).win
  rw [h1]; rfl
 ·obtain ⟨p, hp, rfl⟩ := at_ i k hk
  intro t _
  exact (h p (List.mem_of_getElem? hp)).ok
theorem xuP {f : FuncId} {m : Sm} (hs : SoundF NP f m) {args : List V} (l : List (Nat × Blk)) {S : Sum} (hm : m args (l.map fun p => some p.2) = some S) {w : World} (hw : ∀ p ∈ l, WinAt w p.1 p.2) {vs : List Value} (hv : allSome (denV NP.pv (l.map fun p => (p.1, 0))) args = some vs)
  {x : S.α} (hr : S.t.run NP.step () = some (x, ())) {b : Bool} {H' : Heap} (hf : S.f x = some (.c (.bool b), H')) : Calls Tryz.prog f vs.toArray w fun en w' => en = .returned (.bool b) /\ Below w.heap.size w w' := by
 have E := xwE NP.pv w l hw
 refine (hs.2 args _ S hm _ w () (fun _ => False) vs E hv (fun b h => h) (fun b _ h => h) x _ H' () hr hf).mono ?_
 rintro en w' ⟨e', F', rv, rfl, _, hd, _, _, _, hk, _⟩
 simp only [denV, den, oI] at hd
 subst hd
 refine ⟨rfl, ⟨hk.os, hk.tape, hk.output, hk.size, fun b hb => hk.block b hb ?_⟩⟩
 rintro (⟨i, k, r, h1, _, _, _, h2⟩ | h)
 ·obtain ⟨p, hp, he⟩ : ∃ p, l[i]? = some p /\ p.2 = k := by
   rw [xR, List.getElem?_map, oM] at h1
   obtain ⟨p, hp, he⟩ := h1
   exact ⟨p, hp, by simpa using he⟩
  subst he
  obtain ⟨off, h3, _⟩ := (hw p (List.mem_of_getElem? hp)).win
  rw [h2 rfl] at h3; cases h3
 ·exact h
def winV (b off : Nat) (z : Option Addr) (n c : Nat) : Value := .slice (if n = 0 then z else some ⟨b, off, none⟩) n c
section
variable {H : Type} {enc : TypeId × Value -> H} {w : World} {base : Nat} {spare : Nat -> Bool} {held : Bool}
end
end Go.Proofs.YtaegelbaghaooaaGreat
