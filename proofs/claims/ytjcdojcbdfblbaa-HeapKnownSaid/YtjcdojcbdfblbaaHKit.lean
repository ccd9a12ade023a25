/- Contracts over own maps as summaries: a function that leaves what lay as it lay; one that turns one map. -/
import Derived.Test.YtjcdojcbdfblbaaHNull
namespace Go.Proofs.Ytjcdojcbdfblbaa.Lx
open Go Go.RowKit Go.Maps
set_option linter.unusedVariables false
theorem sound_in {σ : Type} {I : Port Try.prog σ} {l : List (Nat × Sm)} (hl : SoundL I l) {f : FuncId} {fn : Func} (n : Nat) (hf : (Try.prog).funcs[f]? = some fn) (hname : (fn.name == "runtime.NumGoroutine") = false) (hbody : fn.body.isSome = true) : SoundF I f (inl Try.prog (lookK l) n fn) :=
  sound_inl hl.known mixed hf hname hbody n
def orS (a b : Sm) : Sm := fun args H => match a args H with
  | some S => some S
  | none => b args H
theorem sound_or {σ : Type} {I : Port Try.prog σ} {f : FuncId} {a b : Sm} (ha : SoundF I f a) (hb : SoundF I f b) : SoundF I f (orS a b) := by
  refine ⟨ha.1, fun args H S hS => ?_⟩
  unfold orS at hS
  split at hS
  · rename_i S' h
    cases hS
    exact ha.2 args H S h
  · exact hb.2 args H S hS
/-- what is known, else another way. -/
def orK (k : List (Nat × Sm)) (f : Nat) (b : Sm) : Sm := fun args H => match lookK k f with
  | some a => orS a b args H
  | none => b args H
theorem sound_orK {σ : Type} {I : Port Try.prog σ} {k : List (Nat × Sm)} {f : FuncId} {b : Sm} (hk : SoundL I k) (hb : SoundF I f b) : SoundF I f (orK k f b) := by
  refine ⟨hb.1, fun args H S hS => ?_⟩
  unfold orK at hS
  split at hS
  · rename_i a ha
    exact (sound_or (hk.known f a ha) hb).2 args H S hS
  · exact hb.2 args H S hS
theorem run_ret {f : T (V × Heap)} {v : V} (h : f = .ret (v, [])) : f.run NP.step () = some ((v, []), ()) := by rw [h]; rfl
/-- a closed function whose run is known. -/
theorem closed_law {k : List (Nat × Sm)} (hk : SoundL NP k) {f : FuncId} {fn : Func} {n : Nat} (hf : (Try.prog).funcs[f]? = some fn) (hname : (fn.name == "runtime.NumGoroutine") = false) (hbody : fn.body.isSome = true) {b : Bool} (h : evF Try.prog (lookK k) n fn [] [] = .ret (.c (.bool b), [])) (w : World) :
    Calls Try.prog f #[] w fun en w' => en = .returned (.bool b) ∧ Below w.heap.size w w' :=
  calls_flat (sound_in hk n hf hname hbody) rfl rfl (run_ret h) rfl (fun e => rfl) w
theorem grown_keeps {w w' : World} {S : Nat → Prop} (h : w.grownBy w' none) : Keeps S w w' := ⟨h.os, h.tape, h.output, h.size, fun b hb _ => h.block b hb (by simp)⟩
/-- a function that leaves all as it lay. -/
def quietS (m : List V → Heap → Option V) : Sm := fun args H => match m args H with
  | some v => some (mkS Unit (.ret ()) fun _ => some (v, H))
  | none => none
theorem sound_quiet {f : FuncId} (hb : ∃ fn c, (Try.prog).funcs[f]? = some fn ∧ (fn.name == "runtime.NumGoroutine") = false ∧ fn.body = some c) {m : List V → Heap → Option V}
    (h : ∀ args H v, m args H = some v → ∀ e w vs, Emb NP.pv e H w → allSome (denV NP.pv e) args = some vs → Calls Try.prog f vs.toArray w fun en w' => ∃ rv, en = .returned rv ∧ denV NP.pv e v = some rv ∧ w.grownBy w' none) : SoundF NP f (quietS m) := by
  refine ⟨hb, fun args H S hS e w s F vs E hv hR hF x v H' s' hrun hfx => ?_⟩
  unfold quietS at hS
  split at hS
  · rename_i v0 hm
    cases hS
    simp only [T.run, Option.some.injEq, Prod.mk.injEq] at hrun hfx
    obtain ⟨rfl, rfl⟩ := hfx
    refine (h args H v0 hm e w vs E hv).mono ?_
    rintro en w' ⟨rv, rfl, hd, hg⟩
    exact ⟨e, F, rv, rfl, Ext.refl e, hd, E.ofSame fun b hb => hg.block b (E.own_lt hb) (by simp), hR, hF, grown_keeps hg, fun q b hb => hb.imp id Or.inl⟩
  · cases hS
/-- a function that turns one own map. -/
def turnS (m : List V → Heap → Option (V × Nat × List (List Int))) : Sm := fun args H => match m args H with
  | some (v, b, l') => match blkAt H b with
    | some k => match k.mapped with
      | some (g, sh, _) => some (mkS Unit (.ret ()) fun _ => some (v, setB H b (some { k with tab := some (.imap g sh l') })))
      | none => none
    | none => none
  | none => none
theorem sound_turn {f : FuncId} (hb : ∃ fn c, (Try.prog).funcs[f]? = some fn ∧ (fn.name == "runtime.NumGoroutine") = false ∧ fn.body = some c) {m : List V → Heap → Option (V × Nat × List (List Int))}
    (h : ∀ args H v b l', m args H = some (v, b, l') → ∀ k g sh l, blkAt H b = some k → k.mapped = some (g, sh, l) → ∀ e w vs r, Emb NP.pv e H w → e[b]? = some r → MapIs w r.1 (g, sh, l) → allSome (denV NP.pv e) args = some vs →
      Calls Try.prog f vs.toArray w fun en w' => ∃ rv, en = .returned rv ∧ denV NP.pv e v = some rv ∧ MapIs w' r.1 (g, sh, l') ∧ w.grownBy w' (some r.1)) : SoundF NP f (turnS m) := by
  refine ⟨hb, fun args H S hS e w s F vs E hv hR hF x v H' s' hrun hfx => ?_⟩
  unfold turnS at hS
  split at hS
  rotate_left
  · cases hS
  rename_i v0 b l' hm
  split at hS
  rotate_left
  · cases hS
  rename_i k hk
  split at hS
  rotate_left
  · cases hS
  rename_i g sh l hmp
  cases hS
  simp only [T.run, Option.some.injEq, Prod.mk.injEq] at hrun hfx
  obtain ⟨rfl, rfl⟩ := hfx
  obtain ⟨r, cs, hr, _, hl⟩ := E.lies b k hk
  obtain ⟨hkw, hkv, _, _⟩ := Blk.mapped_win hmp
  refine (h args H v0 b l' hm k g sh l hk hmp e w vs r E hr (hl.map hmp) hv).mono ?_
  rintro en w' ⟨rv, rfl, hd, hM, hg⟩
  have hok : ({ k with tab := some (.imap g sh l') } : Blk).ok := by
    intro t _
    unfold Blk.mapped at hmp
    split at hmp
    · rename_i ht'
      exact E.ok b k hk _ ht'
    · cases hmp
  have hown : ∀ q b', Own q e (setB H b (some { k with tab := some (.imap g sh l') })) b' → Own q e H b' := fun q b' hb => own_stored hk (fun _ => hkw) hkv hb
  refine ⟨e, F, rv, rfl, Ext.refl e, hd, E.turned hk hr hmp (kn := { k with tab := some (.imap g sh l') }) rfl hok hM hg, hR, fun b' hb' => hF b' (hown _ b' hb'), ⟨hg.os, hg.tape, hg.output, hg.size, fun b' hb' hn' => hg.block b' hb' fun hc => ?_⟩, fun q b' hb' => hb'.imp (hown q b') Or.inl⟩
  simp only [Option.some.injEq] at hc
  exact hn' (.inl ⟨b, k, r, hk, hr, hc.symm, hkv, fun _ => hkw⟩)
end Go.Proofs.Ytjcdojcbdfblbaa.Lx
