/- Ports by summaries: the null port; what *port.Direct's methods are. -/
import Derived.Test.YtaegelbaghaooaaGreatQLoop
import Derived.Test.YtaegelbaghaooaaGreatLxInl
import Derived.WalkKit
namespace Go.Proofs.YtaegelbaghaooaaGreat.Lx
open Go Go.RowKit
set_option maxRecDepth 1000000
set_option linter.unusedVariables false
/-- a direct port's value. -/
def pvD (d : Nat) : Value := .iface 27 (.pointer (some ⟨d, 0, none⟩))
theorem pmeth {name : String} (h : portMeth name = true) : name = "Load" ∨ name = "Store" ∨ name = "CAS" ∨ name = "Add" ∨ name = "Get" ∨ name = "Put" ∨ name = "Self" ∨ name = "Steps" ∨ name = "Tell" := by
  simpa [portMeth] using h
theorem sureD (d : Nat) (name : String) (h : portMeth name = true) (w : World) : (nilAhead (Tryz.prog.types.size + Made.depth) 27 (.pointer (some ⟨d, 0, none⟩)) name).run Tryz.prog w = .ok (some false) w := by
  rcases pmeth h with rfl | rfl | rfl | rfl | rfl | rfl | rfl | rfl | rfl <;> kernel_rfl
/-- nothing is asked. -/
def NP : Port Tryz.prog Unit where
  pv := pvD 0
  t := 27
  u := .pointer (some ⟨0, 0, none⟩)
  isIface := rfl
  step := fun _ _ => none
  Rep := fun _ F _ => ∀ b, ¬ F b
  lt := fun h b hb => absurd hb (h b)
  stable := fun h _ => h
  sure := fun name h w => sureD 0 name h w
  does := fun _ h => by cases h
/-- a call that asks no port, out of its summary. -/
theorem calls_of {f : FuncId} {m : Sm} (hs : SoundF NP f m) {args : List V} {S : Sum} (hm : m args [] = some S) {vs : List Value} (hv : allSome (denV NP.pv []) args = some vs) {x : S.α} (hr : S.t.run NP.step () = some (x, ())) {v : V} {H' : Heap} (hf : S.f x = some (v, H')) (w : World) :
    Calls Tryz.prog f vs.toArray w fun en w' => ∃ e' rv, en = .returned rv ∧ denV NP.pv e' v = some rv ∧ Emb NP.pv e' H' w' ∧ Below w.heap.size w w' ∧ ∀ b, Own e' H' b → w.heap.size ≤ b := by
  refine (hs.2 args [] S hm [] w () (fun _ => False) vs (emb_nil _ w) hv (fun b h => h) (fun b h => (own_nil b h).elim) x v H' () hr hf).mono ?_
  rintro en w' ⟨e', F', rv, rfl, _, hd, E, _, _, hk, hn⟩
  refine ⟨e', rv, rfl, hd, E, ⟨hk.os, hk.tape, hk.output, hk.size, fun b hb => hk.block b hb ?_⟩, fun b hb => ?_⟩
  · rintro (h | h)
    · exact own_nil b h
    · exact h
  · rcases hn b (.inl hb) with h | h | h
    · exact (own_nil b h).elim
    · exact h.elim
    · exact h
/-- .. whose result holds no address. -/
theorem calls_flat {f : FuncId} {m : Sm} (hs : SoundF NP f m) {args : List V} {S : Sum} (hm : m args [] = some S) {vs : List Value} (hv : allSome (denV NP.pv []) args = some vs) {x : S.α} (hr : S.t.run NP.step () = some (x, ())) {v : V} (hf : S.f x = some (v, [])) {rv : Value} (hd : ∀ e, denV NP.pv e v = some rv) (w : World) :
    Calls Tryz.prog f vs.toArray w fun en w' => en = .returned rv ∧ Below w.heap.size w w' := by
  refine (calls_of hs hm hv hr hf w).mono ?_
  rintro en w' ⟨e', rv', rfl, h, _, hb, _⟩
  rw [hd e', Option.some.injEq] at h
  subst h
  exact ⟨rfl, hb⟩
theorem meth_load (d : Nat) (args : List Value) (w : World) : (callMethod (pvD d) "Load" args.toArray).run Tryz.prog w = .ok (.enter 306 (#[.pointer (some ⟨d, 0, none⟩)] ++ args.toArray)) w := by kernel_rfl
theorem meth_store (d : Nat) (args : List Value) (w : World) : (callMethod (pvD d) "Store" args.toArray).run Tryz.prog w = .ok (.enter 308 (#[.pointer (some ⟨d, 0, none⟩)] ++ args.toArray)) w := by kernel_rfl
theorem meth_cas (d : Nat) (args : List Value) (w : World) : (callMethod (pvD d) "CAS" args.toArray).run Tryz.prog w = .ok (.enter 304 (#[.pointer (some ⟨d, 0, none⟩)] ++ args.toArray)) w := by kernel_rfl
theorem meth_add (d : Nat) (args : List Value) (w : World) : (callMethod (pvD d) "Add" args.toArray).run Tryz.prog w = .ok (.enter 303 (#[.pointer (some ⟨d, 0, none⟩)] ++ args.toArray)) w := by kernel_rfl
theorem meth_get (d : Nat) (args : List Value) (w : World) : (callMethod (pvD d) "Get" args.toArray).run Tryz.prog w = .ok (.enter 32 (#[.pointer (some ⟨d, 0, none⟩)] ++ args.toArray)) w := by kernel_rfl
theorem meth_put (d : Nat) (args : List Value) (w : World) : (callMethod (pvD d) "Put" args.toArray).run Tryz.prog w = .ok (.enter 31 (#[.pointer (some ⟨d, 0, none⟩)] ++ args.toArray)) w := by kernel_rfl
theorem meth_self (d : Nat) (args : List Value) (w : World) : (callMethod (pvD d) "Self" args.toArray).run Tryz.prog w = .ok (.enter 307 (#[.pointer (some ⟨d, 0, none⟩)] ++ args.toArray)) w := by kernel_rfl
theorem meth_steps (d : Nat) (args : List Value) (w : World) : (callMethod (pvD d) "Steps" args.toArray).run Tryz.prog w = .ok (.enter 43 (#[.pointer (some ⟨d, 0, none⟩)] ++ args.toArray)) w := by kernel_rfl
theorem meth_tell (d : Nat) (args : List Value) (w : World) : (callMethod (pvD d) "Tell" args.toArray).run Tryz.prog w = .ok (.enter 309 (#[.pointer (some ⟨d, 0, none⟩)] ++ args.toArray)) w := by kernel_rfl
end Go.Proofs.YtaegelbaghaooaaGreat.Lx
