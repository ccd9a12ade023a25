/- The local executor: functions run in place of a summary, by continuation. -/
import Derived.Test.YtjcdojcbdfblbaaLxFunc
namespace Go.Proofs.Ytjcdojcbdfblbaa.Lx
open Go
section
variable {P : Program} {Γ : Known}
theorem execO_bind2 {β γ : Type} (κ : β → T γ) (pu : PM) (o : Oper) (st : St) (k : St → T β) : (execO P Γ pu o st k).bind κ = execO P Γ pu o st fun st' => (k st').bind κ := by
  rw [execO_bind, T.bind_assoc, ← execO_bind]
theorem evOper_bind2 {β γ : Type} {ops : Array Oper} (κ : β → T γ) (pu : PM) (o : Oper) (st : St) (k : St → T β) : (evOper P Γ ops pu o st k).bind κ = evOper P Γ ops pu o st fun st' => (k st').bind κ := by
  rw [evOper_bind, T.bind_assoc, ← evOper_bind]
theorem evOps_bind {β γ : Type} {ops : Array Oper} (κ : β → T γ) : ∀ (l : List Oper) (st : St) (k : St → T β), (evOps P Γ ops l st k).bind κ = evOps P Γ ops l st fun st' => (k st').bind κ
  | [], st, k => rfl
  | o :: l, st, k => by
    simp only [evOps]
    rw [evOper_bind2]
    congr 1
    funext st'
    exact evOps_bind κ l st' k
theorem evDraw_bind {β γ : Type} {ops : Array Oper} {b : Array Nat} {D : List Nat} {A : List (Nat × Nat)} (κ : β → T γ) : ∀ (l : List Nat) (st : St) (k : St → T β), (evDraw P Γ ops b D A l st k).bind κ = evDraw P Γ ops b D A l st fun st' => (k st').bind κ
  | [], st, k => rfl
  | i :: l, st, k => by
    simp only [evDraw]
    split
    · rw [evOper_bind2]
      congr 1
      funext st'
      exact evDraw_bind κ l st' k
    · rfl
theorem loopN_bind {β γ : Type} {F : St → (St → T β) → T β} {G : St → (St → T γ) → T γ} (κ : β → T γ) (h : ∀ st k, (F st k).bind κ = G st fun st' => (k st').bind κ) : ∀ (n : Nat) (st : St), (loopN n F st).bind κ = loopN n G st
  | 0, _ => rfl
  | n + 1, st => by
    simp only [loopN]
    rw [h]
    congr 1
    funext st'
    exact loopN_bind κ h n st'
theorem ev_bind {β γ : Type} (n : Fu) (m0 : Nat) (κ : β → T γ) : ∀ (c : Code) (lv : Nat) (st : St) (K : Ex → St → T β), (ev P Γ n m0 c lv st K).bind κ = ev P Γ n m0 c lv st fun e st' => (K e st').bind κ := by
  intro c
  induction c with
  | skip => intro lv st K; rfl
  | label => intro lv st K; rfl
  | seq a b iha ihb =>
    intro lv st K
    simp only [ev]
    rw [iha]
    congr 1
    funext e st'
    cases e with
    | normal =>
      simp only
      cases cutS n b with
      | true =>
        simp only
        cases normC n m0 (lv ||| (ue b).1) st' with
        | none => rfl
        | some st2 =>
          simp only
          rw [ihb]
          congr 1
          funext e3 st3
          unfold normK
          cases normC n m0 lv st3 <;> rfl
      | false => exact ihb _ _ _
    | exit i => rfl
    | ret => rfl
  | cond c a b iha ihb =>
    intro lv st K
    simp only [ev]
    split
    · rename_i t _
      cases t
      · exact ihb _ _ _
      · exact iha _ _ _
    · rfl
  | block id c ih =>
    intro lv st K
    simp only [ev]
    rw [ih]
    congr 1
    funext e st'
    cases e with
    | normal => rfl
    | exit i => simp only; split <;> rfl
    | ret => rfl
  | scope c ih => intro lv st K; exact ih _ _ _
  | exit id => intro lv st K; rfl
  | ret => intro lv st K; rfl
  | loop c ih =>
    intro lv st K
    simp only [ev]
    split
    · refine loopN_bind κ (fun st k => ?_) n.n _
      rw [ih]
      congr 1
      funext e st'
      cases e with
      | normal => simp only; split <;> rfl
      | exit i => simp only; split <;> rfl
      | ret => simp only; split <;> rfl
    · rfl
  | region p ops draw =>
    intro lv st K
    simp only [ev]
    split
    · split
      · split
        · exact evDraw_bind κ _ _ _
        · rfl
      · split
        · split
          · exact evDraw_bind κ _ _ _
          · rfl
        · split
          · exact evDraw_bind κ _ _ _
          · rfl
    · exact evOps_bind κ _ _ _
  | _ => intros; rfl
/-- a function's run, and what goes on behind it. -/
def evFK {β : Type} (P : Program) (Γ : Known) (n : Fu) (fn : Func) (args : List V) (H : Heap) (k : V × Heap → T β) : T β :=
  match fn.body with
  | some c => ev P Γ n H.length c (resMask fn.results.toList) ⟨begun fn args, H⟩ fun e st => match e with
    | .exit _ => .fail
    | .normal | .ret => match resV P fn st with
      | some v => match finish H.length v st.heap with
        | some r => k r
        | none => .fail
      | none => .fail
  | none => .fail
theorem evFK_bind {β : Type} (n : Fu) (fn : Func) (args : List V) (H : Heap) (k : V × Heap → T β) : evFK P Γ n fn args H k = (evF P Γ n fn args H).bind k := by
  cases hb : fn.body with
  | none => simp only [evFK, evF, hb]; rfl
  | some c =>
    simp only [evFK, evF, hb]
    rw [ev_bind]
    congr 1
    funext e st
    cases e with
    | exit i => rfl
    | normal =>
      simp only [endF]
      cases resV P fn st with
      | none => rfl
      | some v => simp only; cases finish (List.length H) v st.heap <;> rfl
    | ret =>
      simp only [endF]
      cases resV P fn st with
      | none => rfl
      | some v => simp only; cases finish (List.length H) v st.heap <;> rfl
/-- run in place. -/
def inl (P : Program) (Γ : Known) (n : Fu) (fn : Func) : List V → Heap → Option Sum := fun args H =>
  some ⟨V × Heap, evF P Γ n fn args H, some, fun _ k => evFK P Γ n fn args H k, fun _ k => evFK_bind n fn args H k⟩
theorem sound_inl {σ : Type} {I : Port P σ} (hΓ : ∀ f m, Γ f = some m → SoundF I f m) (hm : P.follows .mixedOrders = true) {f : FuncId} {fn : Func} (hf : P.funcs[f]? = some fn) (hname : (fn.name == "runtime.NumGoroutine") = false) (hbody : fn.body.isSome = true) (n : Fu) : SoundF I f (inl P Γ n fn) := by
  have h := evF_sound (I := I) hΓ hm hf hname hbody n
  refine ⟨h.1, fun args H S hS => ?_⟩
  have := h.2 args H _ rfl
  cases hS
  exact this
end
end Go.Proofs.Ytjcdojcbdfblbaa.Lx
