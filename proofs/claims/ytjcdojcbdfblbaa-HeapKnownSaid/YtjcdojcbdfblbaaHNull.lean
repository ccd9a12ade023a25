/- The null port of a program without ports. -/
import Derived.Test.YtjcdojcbdfblbaaQBase
import Derived.Test.YtjcdojcbdfblbaaLxInl
import Derived.WalkKit
namespace Go.Proofs.Ytjcdojcbdfblbaa.Lx
open Go Go.RowKit
set_option maxRecDepth 1000000
set_option linter.unusedVariables false
theorem no_port : hasPort Try.prog = false := by kernel_rfl
/-- nothing is asked. -/
def NP : Port Try.prog Unit where
  pv := .iface 0 (.bool false)
  t := 0
  u := .bool false
  isIface := rfl
  step := fun _ _ => none
  Rep := fun _ F _ => ∀ b, ¬ F b
  lt := fun h b hb => absurd hb (h b)
  stable := fun h _ => h
  sure := fun name _ h w => by rw [no_port] at h; cases h
  does := fun _ h => by cases h
/-- a call that asks no port, out of its summary. -/
theorem calls_of {f : FuncId} {m : Sm} (hs : SoundF NP f m) {args : List V} {S : Sum} (hm : m args [] = some S) {vs : List Value} (hv : allSome (denV NP.pv []) args = some vs) {x : S.α} (hr : S.t.run NP.step () = some (x, ())) {v : V} {H' : Heap} (hf : S.f x = some (v, H')) (w : World) :
    Calls Try.prog f vs.toArray w fun en w' => ∃ e' rv, en = .returned rv ∧ denV NP.pv e' v = some rv ∧ Emb NP.pv e' H' w' ∧ Below w.heap.size w w' ∧ ∀ b, Own false e' H' b → w.heap.size ≤ b := by
  refine (hs.2 args [] S hm [] w () (fun _ => False) vs (emb_nil _ w) hv (fun b h => h) (fun b h => (own_nil b h).elim) x v H' () hr hf).mono ?_
  rintro en w' ⟨e', F', rv, rfl, _, hd, E, _, _, hk, hn⟩
  refine ⟨e', rv, rfl, hd, E, ⟨hk.os, hk.tape, hk.output, hk.size, fun b hb => hk.block b hb ?_⟩, fun b hb => ?_⟩
  · rintro (h | h)
    · exact own_nil b h
    · exact h
  · rcases hn _ b (.inl hb) with h | h | h
    · exact (own_nil b h).elim
    · exact h.elim
    · exact h
/-- .. whose result holds no address. -/
theorem calls_flat {f : FuncId} {m : Sm} (hs : SoundF NP f m) {args : List V} {S : Sum} (hm : m args [] = some S) {vs : List Value} (hv : allSome (denV NP.pv []) args = some vs) {x : S.α} (hr : S.t.run NP.step () = some (x, ())) {v : V} (hf : S.f x = some (v, [])) {rv : Value} (hd : ∀ e, denV NP.pv e v = some rv) (w : World) :
    Calls Try.prog f vs.toArray w fun en w' => en = .returned rv ∧ Below w.heap.size w w' := by
  refine (calls_of hs hm hv hr hf w).mono ?_
  rintro en w' ⟨e', rv', rfl, h, _, hb, _⟩
  rw [hd e', Option.some.injEq] at h
  subst h
  exact ⟨rfl, hb⟩
end Go.Proofs.Ytjcdojcbdfblbaa.Lx
