/- Summaries of functions by the local executor: the frame. -/
import Derived.Test.YtjcdojcbdfblbaaLxFunc
import Derived.Test.YtjcdojcbdfblbaaProg
namespace Go.Proofs.Ytjcdojcbdfblbaa.Lx
open Go
abbrev Sm := List V → Heap → Option Sum
/-- a summary as the executor would have it. -/
def Sum.tree (S : Sum) : T (V × Heap) := S.t.bind fun a => match S.f a with
  | some r => .ret r
  | none => .fail
theorem Sum.run_tree {σ : Type} {step : PStep σ} {S : Sum} {s s' : σ} {x : S.α} {r : V × Heap} (h : S.t.run step s = some (x, s')) (hf : S.f x = some r) : S.tree.run step s = some (r, s') := by
  simp only [Sum.tree, T.run_bind, h, hf, T.run]
def lookK : List (Nat × Sm) → Nat → Option Sm
  | [], _ => none
  | (g, m) :: l, f => bif Nat.beq g f then some m else lookK l f
theorem lookK_mem : ∀ {l : List (Nat × Sm)} {f : Nat} {m : Sm}, lookK l f = some m → (f, m) ∈ l
  | [], f, m, h => by simp [lookK] at h
  | (g, m') :: l, f, m, h => by
    simp only [lookK] at h
    cases hb : Nat.beq g f with
    | true =>
      rw [hb] at h
      simp only [cond_true, Option.some.injEq] at h
      have : g = f := Nat.eq_of_beq_eq_true hb
      subst this; subst h
      simp
    | false =>
      rw [hb] at h
      exact List.mem_cons_of_mem _ (lookK_mem h)
section
variable {σ : Type} {I : Port Try.prog σ}
def SoundL (I : Port Try.prog σ) (l : List (Nat × Sm)) : Prop := ∀ f m, (f, m) ∈ l → SoundF I f m
theorem SoundL.nil : SoundL I [] := fun f m h => by simp at h
theorem SoundL.cons {l : List (Nat × Sm)} {f : Nat} {m : Sm} (h : SoundF I f m) (hl : SoundL I l) : SoundL I ((f, m) :: l) := by
  intro g m' hm
  rcases List.mem_cons.1 hm with h' | h'
  · cases h'; exact h
  · exact hl g m' h'
theorem SoundL.known {l : List (Nat × Sm)} (hl : SoundL I l) : ∀ f m, lookK l f = some m → SoundF I f m := fun f m h => hl f m (lookK_mem h)
theorem mixed : (Try.prog).follows .mixedOrders = true := by kernel_rfl
/-- a summary holds if what it runs to, the executor runs to. -/
theorem sound_of {l : List (Nat × Sm)} (hl : SoundL I l) {f : FuncId} {fn : Func} (hf : (Try.prog).funcs[f]? = some fn) (hname : (fn.name == "runtime.NumGoroutine") = false) (hbody : fn.body.isSome = true) {m : Sm}
    (h : ∀ args H S, m args H = some S → ∀ s r, S.tree.run I.step s = some r → ∃ n : Fu, (evF Try.prog (lookK l) n fn args H).run I.step s = some r) : SoundF I f m := by
  refine ⟨(evF_sound (I := I) hl.known mixed hf hname hbody 0).1, ?_⟩
  intro args H S ht e w s F vs E hv hR hF x v H' s' hrun hfx
  obtain ⟨n, hn⟩ := h args H S ht s _ (Sum.run_tree hrun hfx)
  exact (evF_sound (I := I) hl.known mixed hf hname hbody n).2 args H _ rfl e w s F vs E hv hR hF (v, H') v H' s' hn rfl
/-- the common case: the executor comes to just the summary. -/
theorem sound_eq {l : List (Nat × Sm)} (hl : SoundL I l) {f : FuncId} {fn : Func} (n : Fu) (hf : (Try.prog).funcs[f]? = some fn) (hname : (fn.name == "runtime.NumGoroutine") = false) (hbody : fn.body.isSome = true) {m : Sm}
    (h : ∀ args H S, m args H = some S → evF Try.prog (lookK l) n fn args H = S.tree) : SoundF I f m :=
  sound_of hl hf hname hbody fun args H S ht s r hr => ⟨n, by rw [h args H S ht]; exact hr⟩
end
end Go.Proofs.Ytjcdojcbdfblbaa.Lx
