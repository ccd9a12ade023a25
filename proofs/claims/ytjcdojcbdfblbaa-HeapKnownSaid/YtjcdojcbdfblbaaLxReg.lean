/- The local executor: the operations of a region, in its text's order. -/
import Derived.Test.YtjcdojcbdfblbaaLxOper
namespace Go.Proofs.Ytjcdojcbdfblbaa.Lx
open Go
section
variable {P : Program} {σ : Type} {I : Port P σ} {Γ : Known} {S0 : Bool → Nat → Prop} {w0 : World} {e0 : Env} {e : Env} {st : St} {s : σ} {F : Nat → Prop} {a : Act} {w : World} {ops : Array Oper}
/-- an operation, or its skipping. -/
def wpOper (P : Program) (ops : Array Oper) (Q : Exit → Act → World → Prop) (o : Oper) (K : Act → World → Prop) (a : Act) (w : World) : Prop :=
  if Region.wanted o (yielded ops a.tmps) then o.wp P a w K Q else K (a.put o.dst undef) w
theorem Cfg.skip (C : Cfg I S0 w0 e0 e st s F a w) (dst : Option Tmp) : Cfg I S0 w0 e0 e ⟨putT st.tmps dst .undef, st.heap⟩ s F (a.put dst undef) w :=
  C.did (Ext.refl e) rfl C.rel.emb (Keeps.refl _ w) (fun _ _ h => .inl h) dst
theorem evOper_soundP (hΓ : ∀ f m, Γ f = some m → SoundF I f m) {β : Type} {pu : PM} {o : Oper} {k : St → T β} {r : β × σ} (C : Cfg I S0 w0 e0 e st s F a w) (h : (evOper P Γ ops pu o st k).run I.step s = some r) :
    ∃ st' s', (k st').run I.step s' = some r ∧ (evOper P Γ ops pu o st T.ret).run I.step s = some (st', s') ∧
      ∀ K Q, (∀ e' F' a' w', (∃ rv, a' = a.put o.dst rv) → Cfg I S0 w0 e0 e' st' s' F' a' w' → K a' w') → wpOper P ops Q o K a w := by
  unfold evOper at h
  split at h
  · rename_i hg
    obtain ⟨st', s', h1, h2, h3⟩ := execO_sound hΓ C h
    refine ⟨st', s', h1, by simp only [evOper, hg]; exact h2, fun K Q hK => ?_⟩
    unfold wpOper
    rw [if_pos (by simp [Region.wanted, hg])]
    exact h3 K Q hK
  · rename_i j want hg
    split at h
    · cases h
    · rename_i sl hsl
      have hy : ∀ rv, a.tmps[sl]? = some rv → yielded ops a.tmps j = match rv with | .bool b => some b | _ => none := by
        intro rv hrv
        unfold yielded
        rw [hsl]
        simp only [Option.bind_some, hrv]
        cases rv <;> rfl
      have skipped : ∀ (b : Option Bool), yielded ops a.tmps j = b → b ≠ some want → ∀ K Q, (∀ e' F' a' w', (∃ rv, a' = a.put o.dst rv) → Cfg I S0 w0 e0 e' ⟨putT st.tmps o.dst .undef, st.heap⟩ s F' a' w' → K a' w') → wpOper P ops Q o K a w := by
        intro b hb hne K Q hK
        unfold wpOper
        rw [if_neg (by simp only [Region.wanted, hg, hb]; simpa using hne)]
        exact hK _ _ _ _ ⟨_, rfl⟩ (C.skip o.dst)
      split at h
      · rename_i b hb
        obtain ⟨rv, h1, h2⟩ := C.rel.tmps sl _ hb
        simp only [denV, den, Option.some.injEq] at h2
        subst h2
        have hyb := hy _ h1
        simp only at hyb
        have e1 : ∀ b', b' = b → (⟨setT st.tmps sl (.c (.bool b')), st.heap⟩ : St) = st := by
          rintro b' rfl
          rw [setT_same hb]
        have he : (evOper P Γ ops pu o st (T.ret : St → T St)) = if b = want then execO P Γ pu o st T.ret else skipO o st T.ret := by
          simp only [evOper, hg, hsl, hb]
          cases b <;> cases want <;> simp only [cond_true, cond_false, e1 _ rfl] <;> rfl
        have hk : (if b = want then execO P Γ pu o st k else skipO o st k).run I.step s = some r := by
          rw [← h]
          cases b <;> cases want <;> simp only [cond_true, cond_false, e1 _ rfl] <;> rfl
        by_cases hbw : b = want
        · rw [if_pos hbw] at hk he
          obtain ⟨st', s', g1, g2, g3⟩ := execO_sound hΓ C hk
          refine ⟨st', s', g1, by rw [he]; exact g2, fun K Q hK => ?_⟩
          unfold wpOper
          rw [if_pos (by simp [Region.wanted, hg, hyb, hbw])]
          exact g3 K Q hK
        · rw [if_neg hbw] at hk he
          exact ⟨_, s, hk, by rw [he]; rfl, skipped _ hyb (by simpa using hbw)⟩
      · rename_i hb
        obtain ⟨rv, h1, h2⟩ := C.rel.tmps sl _ hb
        simp only [denV, allSome, Option.map_some, Option.some.injEq] at h2
        subst h2
        have hyb := hy _ h1
        simp only at hyb
        exact ⟨_, s, h, by simp only [evOper, hg, hsl, hb]; rfl, skipped _ hyb (by simp)⟩
      · cases h
theorem evOper_sound (hΓ : ∀ f m, Γ f = some m → SoundF I f m) {β : Type} {pu : PM} {o : Oper} {k : St → T β} {r : β × σ} (C : Cfg I S0 w0 e0 e st s F a w) (h : (evOper P Γ ops pu o st k).run I.step s = some r) :
    ∃ st' s', (k st').run I.step s' = some r ∧ (evOper P Γ ops pu o st T.ret).run I.step s = some (st', s') ∧
      ∀ K Q, (∀ e' F' a' w', Cfg I S0 w0 e0 e' st' s' F' a' w' → K a' w') → wpOper P ops Q o K a w := by
  obtain ⟨st', s', h1, h2, h3⟩ := evOper_soundP hΓ C h
  exact ⟨st', s', h1, h2, fun K Q hK => h3 K Q fun e' F' a' w' _ C' => hK e' F' a' w' C'⟩
theorem evOps_sound (hΓ : ∀ f m, Γ f = some m → SoundF I f m) {β : Type} {k : St → T β} {r : β × σ} {Q : Exit → Act → World → Prop} (hQ : ∀ e' st' s' F' a' w', (k st').run I.step s' = some r → Cfg I S0 w0 e0 e' st' s' F' a' w' → Q .normal a' w') :
    ∀ (l : List Oper) {e : Env} {st : St} {s : σ} {F : Nat → Prop} {a : Act} {w : World}, Cfg I S0 w0 e0 e st s F a w → (evOps P Γ ops l st k).run I.step s = some r → wpList P ops Q l a w
  | [], e, st, s, F, a, w, C, h => hQ e st s F a w h C
  | o :: l, e, st, s, F, a, w, C, h => by
    obtain ⟨st', s', h1, _, h3⟩ := evOper_sound hΓ C h
    have := h3 (wpList P ops Q l) Q fun e' F' a' w' C' => evOps_sound hΓ hQ l C' h1
    unfold wpOper at this
    unfold wpList
    split
    · rename_i hw; rw [if_pos hw] at this; exact .inl this
    · rename_i hw; rw [if_neg hw] at this; exact this

/-! ### one operation as a step of what it does to slots, blocks and the port -/
theorem T.bind_ret {α : Type} (t : T α) : t.bind T.ret = t := by
  induction t with
  | ret a => rfl
  | fail => rfl
  | op o k ih => simp only [T.bind]; congr 1; funext c; exact ih c
theorem T.bind_assoc {α β γ : Type} (t : T α) (f : α → T β) (g : β → T γ) : (t.bind f).bind g = t.bind fun a => (f a).bind g := by
  induction t with
  | ret a => rfl
  | fail => rfl
  | op o k ih => simp only [T.bind]; congr 1; funext c; exact ih c
theorem execO_bind {β : Type} (pu : PM) (o : Oper) (st : St) (k : St → T β) : execO P Γ pu o st k = (execO P Γ pu o st T.ret).bind k := by
  unfold execO
  split
  · rename_i g v H _
    cases okV pu st.heap H <;> cases g <;> rfl
  · rfl
  · have hc : ∀ f args, callO Γ f args o st k = (callO Γ f args o st T.ret).bind k := by
      intro f args
      unfold callO
      split
      · rename_i S _
        rw [S.hb, S.hb, T.bind_assoc]
        congr 1
        funext x
        cases S.f x <;> rfl
      · rfl
    cases pu
    · exact hc _ _
    · simp only
      split
      · rename_i S _
        rw [S.hb, S.hb, T.bind_assoc]
        congr 1
        funext x
        cases S.f x <;> rfl
      · rfl
    · simp only
      split
      · exact hc _ _
      · rfl
    · simp only
      split
      · rename_i S _
        rw [S.hb, S.hb, T.bind_assoc]
        congr 1
        funext x
        cases S.f x <;> rfl
      · rfl
    · rfl
  · rfl
theorem evOper_bind {β : Type} (pu : PM) (o : Oper) (st : St) (k : St → T β) : evOper P Γ ops pu o st k = (evOper P Γ ops pu o st T.ret).bind k := by
  unfold evOper
  split
  · exact execO_bind ..
  · rename_i j want _
    split
    · rfl
    · split
      · rename_i b _
        cases b <;> cases want <;> first | exact execO_bind .. | rfl
      · rfl
      · rfl
def doneC (Γ : Known) (I : Port P σ) (f : FuncId) (args : List V) (H : Heap) (s : σ) : Option (V × Heap × σ) := match evCall Γ f args H with
  | some S => match S.t.run I.step s with
    | some (x, s') => match S.f x with
      | some r => some (r.1, r.2, s')
      | none => none
    | none => none
  | none => none
def doneV (Γ : Known) (I : Port P σ) (pu : PM) (H : Heap) (s : σ) : Option Stp → Option (V × Heap × σ)
  | some (.val g v H') => if (okV pu H H' && g) = true then some (v, H', s) else none
  | some (.port p) => match I.step p s with
    | some (x, s') => some (ansV p x, H, s')
    | none => none
  | some (.call f args) => match pu with
    | .free => doneC Γ I f args H s
    | .avoid A => match avoidsB A H args with
      | true => doneC Γ I f args H s
      | false => none
    | .keep A => match evCallK Γ A f args H with
      | some S => match S.t.run I.step s with
        | some (x, s') => match S.f x with
          | some r => some (r.1, r.2, s')
          | none => none
        | none => none
      | none => none
    | .pure => match evPure Γ f args with
      | some S => match S.t.run I.step s with
        | some (x, s') => match S.f x with
          | some r => some (r.1, H, s')
          | none => none
        | none => none
      | none => none
    | .fresh => none
  | none => none
/-- what an operation comes to, the slots being what they are. -/
def valO (Γ : Known) (I : Port P σ) (ops : Array Oper) (pu : PM) (o : Oper) (tmps : Tm) (H : Heap) (s : σ) : Option (V × Heap × σ) :=
  match o.guard with
  | none => doneV Γ I pu H s (evStep P o.op (evalO tmps) H)
  | some (j, want) => match (ops[j]?).bind (·.dst) with
    | none => none
    | some sl => match getT tmps sl with
      | some (.c (.bool b)) => if b = want then doneV Γ I pu H s (evStep P o.op (evalO tmps) H) else some (.undef, H, s)
      | some (.tup []) => some (.undef, H, s)
      | _ => none
theorem run_execO (pu : PM) (o : Oper) (tmps : Tm) (H : Heap) (s : σ) : (execO P Γ pu o ⟨tmps, H⟩ T.ret).run I.step s = (doneV Γ I pu H s (evStep P o.op (evalO tmps) H)).map fun r => ((⟨putT tmps o.dst r.1, r.2.1⟩ : St), r.2.2) := by
  unfold execO
  simp only
  generalize evStep P o.op (evalO tmps) H = q
  cases q with
  | none => rfl
  | some q =>
    cases q with
    | val g v H' =>
      simp only [doneV]
      cases okV pu H H' <;> cases g <;> rfl
    | port p =>
      simp only [T.run, doneV]
      cases I.step p s <;> rfl
    | call f args =>
      have hc : (callO Γ f args o ⟨tmps, H⟩ T.ret).run I.step s = (doneC Γ I f args H s).map fun r => ((⟨putT tmps o.dst r.1, r.2.1⟩ : St), r.2.2) := by
        unfold callO doneC
        simp only
        cases evCall Γ f args H with
        | none => rfl
        | some S =>
          simp only [S.hb, T.run_bind]
          cases S.t.run I.step s with
          | none => rfl
          | some xs =>
            simp only
            cases S.f xs.1 <;> rfl
      cases pu
      · simp only [doneV]
        exact hc
      · simp only [doneV]
        cases evPure Γ f args with
        | none => rfl
        | some S =>
          simp only [S.hb, T.run_bind]
          cases S.t.run I.step s with
          | none => rfl
          | some xs =>
            simp only
            cases S.f xs.1 <;> rfl
      · rename_i A
        simp only [doneV]
        cases avoidsB A H args
        · rfl
        · exact hc
      · rename_i A
        simp only [doneV]
        cases evCallK Γ A f args H with
        | none => rfl
        | some S =>
          simp only [S.hb, T.run_bind]
          cases S.t.run I.step s with
          | none => rfl
          | some xs =>
            simp only
            cases S.f xs.1 <;> rfl
      · rfl
theorem run_evOper (pu : PM) (o : Oper) (tmps : Tm) (H : Heap) (s : σ) : (evOper P Γ ops pu o ⟨tmps, H⟩ T.ret).run I.step s = (valO Γ I ops pu o tmps H s).map fun r => ((⟨putT tmps o.dst r.1, r.2.1⟩ : St), r.2.2) := by
  unfold evOper valO
  simp only
  cases o.guard with
  | none => exact run_execO ..
  | some jw =>
    obtain ⟨j, want⟩ := jw
    simp only
    cases (ops[j]?).bind (·.dst) with
    | none => rfl
    | some sl =>
      simp only
      cases hb : getT tmps sl with
      | none => rfl
      | some v =>
        cases v with
        | agg l => rfl
        | tup l => cases l <;> rfl
        | c x =>
          cases x with
          | bool b =>
            have e1 : ∀ b', b' = b → setT tmps sl (.c (.bool b')) = tmps := by
              rintro b' rfl
              exact setT_same hb
            cases b <;> cases want <;> simp only [cond_true, cond_false, e1 _ rfl, if_true, Bool.false_eq_true, Bool.true_eq_false, if_false] <;> first | exact run_execO .. | rfl
          | _ => rfl
end
end Go.Proofs.Ytjcdojcbdfblbaa.Lx
