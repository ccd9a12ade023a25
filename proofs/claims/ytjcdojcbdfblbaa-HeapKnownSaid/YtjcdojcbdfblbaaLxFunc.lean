/- The local executor: functions. -/
import Derived.Test.YtjcdojcbdfblbaaLxCode
namespace Go.Proofs.Ytjcdojcbdfblbaa.Lx
open Go
theorem finish_sound {pv : Value} {e0 e : Env} {H H' : Heap} {w : World} {v v' : V} {rv : Value} (E : Emb pv e H w) (hv : denV pv e v = some rv) (hx : Ext e0 e) (h : finish e0.length v H = some (v', H')) :
    ∃ e', Ext e0 e' ∧ denV pv e' v' = some rv ∧ Emb pv e' H' w ∧ ∀ q b, Own q e' H' b → Own q e H b := by
  unfold finish at h
  split at h
  · rename_i l hl
    obtain ⟨hn, hk⟩ := reachM_ok hl
    split at h
    · rename_i htake
      split at h
      · rename_i v1 H1 hv1 hH1
        cases h
        obtain ⟨e1, hlen, hget, E1, hown⟩ := E.sub hn hk hH1
        have hr : ∀ b b' x, idx l b = some b' → e[b]? = some x → e1[b']? = some x := fun b b' x h1 h2 => (hget b' b (idx_get l b b' h1)).trans h2
        refine ⟨e1, ?_, renV_den hr v v' rv hv1 hv, E1, fun q b hb => ?_⟩
        · obtain ⟨x, rfl⟩ := hx
          have ht : l.take e0.length = List.range e0.length := by simpa using htake
          have hle : e0.length ≤ l.length := by
            have := congrArg List.length ht
            simp at this
            omega
          refine ⟨e1.drop e0.length, ?_⟩
          rw [← List.take_append_drop e0.length e1]
          congr 1
          · apply List.ext_getElem?
            intro i
            rw [List.getElem?_take]
            split
            · rename_i hi
              have hli : l[i]? = some i := by
                have := congrArg (·[i]?) ht
                simp only [List.getElem?_take_of_lt hi] at this
                rw [this, List.getElem?_range hi]
              rw [hget i i hli, List.getElem?_append_left hi]
            · rename_i hi
              rw [List.getElem?_eq_none (by omega)]
          · simp
        · obtain ⟨i, hi, k, r, h1, h2, h3, hv, h4⟩ := hown _ b hb
          exact ⟨i, k, r, h1, h2, h3, hv, h4⟩
      · cases h
    · cases h
  · cases h
section
variable {P : Program} {σ : Type} {I : Port P σ} {Γ : Known}
theorem res_run {pv : Value} {e : Env} {st : St} {a : Act} {w : World} (R : Rel pv e st a w) {x : ResultVar} {v : V1} (h : resOf P st x = some v) (g : ResultVar → Sem Value) (g1 : ∀ t, g (.tmp t) = pure (a.tmps.getD t undef)) (g2 : ∀ p t, g (.cell p t) = (do loadVar t (← asAddr (a.tmps.getD p undef)))) :
    ∃ rv, (g x).run P w = .ok rv w ∧ denV1 pv e v = some rv := by
  cases x with
  | tmp t =>
    simp only [resOf] at h
    cases hg : getT st.tmps t with
    | none => rw [hg] at h; simp at h
    | some u =>
      rw [hg] at h
      simp only [Option.bind_some] at h
      obtain ⟨rv, h1, h2⟩ := R.tmps t u hg
      refine ⟨rv, ?_, by rw [denV_down h]; exact h2⟩
      rw [g1]
      simp [Array.getD_eq_getD_getElem?, h1]
  | cell p t =>
    simp only [resOf] at h
    split at h
    · rename_i b q hg
      split at h
      · rename_i k hk
        cases hp : partT P t k.cells q with
        | none => rw [hp] at h; simp at h
        | some u =>
          rw [hp] at h
          simp only [Option.bind_some] at h
          obtain ⟨r, cs, a1, a2, a3⟩ := R.emb.lies b k hk
          obtain ⟨rp, h1, h2⟩ := R.tmps p _ hg
          simp only [denV, den, a1, Option.map_some, Option.some.injEq] at h2
          subst h2
          obtain ⟨rv, h3, h4⟩ : ∃ rv, (loadVar t ⟨r.1, q, none⟩).run P w = .ok rv w ∧ denV pv e u = some rv := by
            cases ht : k.tab with
            | none =>
              obtain ⟨tl, a4, _⟩ := a3.own (Blk.win_none ht) (Blk.virt_none ht) (Blk.mapped_none ht)
              exact part_load (P := P) a2 a4 (part_real (R.emb.ok b k hk) hp)
            | some tb =>
              rw [R.emb.ok b k hk tb ht] at hp
              have := part_loadC (P := P) (pv := pv) (e := e) (cells := []) (cs := []) (w := w) (r := r.1) (q := 0) rfl (fun j u hj => by simp at hj) hp
              rwa [Nat.zero_add] at this
          refine ⟨rv, ?_, by rw [denV_down h]; exact h4⟩
          rw [g2]
          simp [Array.getD_eq_getD_getElem?, h1, asAddr, h3]
      · cases h
    · cases h
theorem res_all {pv : Value} {e : Env} {st : St} {a : Act} {w : World} (R : Rel pv e st a w) (g : ResultVar → Sem Value) (g1 : ∀ t, g (.tmp t) = pure (a.tmps.getD t undef)) (g2 : ∀ p t, g (.cell p t) = (do loadVar t (← asAddr (a.tmps.getD p undef)))) :
    ∀ (l : List ResultVar) (vs : List V1), allSome (resOf P st) l = some vs → ∃ rs, (l.mapM g).run P w = .ok rs w ∧ allSome (denV1 pv e) vs = some rs
  | [], vs, h => by simp only [allSome, Option.some.injEq] at h; subst h; exact ⟨[], by simp, rfl⟩
  | x :: l, vs, h => by
    simp only [allSome] at h
    split at h
    · rename_i y hy
      split at h
      · rename_i ys hys
        cases h
        obtain ⟨rv, h1, h2⟩ := res_run R hy g g1 g2
        obtain ⟨rs, h3, h4⟩ := res_all R g g1 g2 l ys hys
        refine ⟨rv :: rs, ?_, by simp only [allSome, h2, h4]⟩
        rw [List.mapM_cons]
        simp only [Sem.run_bind, h1, Result.andThen_ok, h3, Sem.run_pure]
      · cases h
    · cases h
theorem results_eq (fn : Func) (tmps : Array Value) : ∃ g : ResultVar → Sem Value, results fn tmps = (do let vs ← fn.results.mapM g; pure (if h : vs.size = 1 then vs[0] else .tuple vs)) ∧ (∀ t, g (.tmp t) = pure (tmps.getD t undef)) ∧ ∀ p t, g (.cell p t) = (do loadVar t (← asAddr (tmps.getD p undef))) := by
  refine ⟨_, rfl, ?_, ?_⟩
  · intro t; rfl
  · intro p t; rfl
theorem results_run {pv : Value} {e : Env} {st : St} {a : Act} {w : World} {fn : Func} (R : Rel pv e st a w) {v : V} (h : resV P fn st = some v) : ∃ rv, (results fn a.tmps).run P w = .ok rv w ∧ denV pv e v = some rv := by
  obtain ⟨g, hg, g1, g2⟩ := results_eq fn a.tmps
  unfold resV at h
  rw [hg]
  simp only [Array.mapM_eq_mapM_toList]
  split at h
  · rename_i u hu
    cases h
    obtain ⟨rs, h1, h2⟩ := res_all (P := P) R g g1 g2 _ _ hu
    simp only [allSome] at h2
    split at h2
    · rename_i rv hrv
      cases h2
      refine ⟨rv, ?_, by rw [denV_up]; exact hrv⟩
      simp only [Sem.run_bind, Sem.run_map, h1]
      rfl
    · cases h2
  · rename_i l hne hl
    cases h
    obtain ⟨rs, h1, h2⟩ := res_all (P := P) R g g1 g2 _ _ hl
    have hlen := allSome_length _ _ _ h2
    refine ⟨.tuple rs.toArray, ?_, by simp [denV, h2]⟩
    simp only [Sem.run_bind, Sem.run_map, h1]
    simp only [Result.andThen_ok, Sem.run_pure]
    rw [dif_neg]
    intro h3
    simp only [List.size_toArray] at h3
    rw [hlen] at h3
    obtain ⟨x, hx⟩ := List.length_eq_one_iff.1 h3
    exact hne x hx
  · cases h
theorem evF_sound (hΓ : ∀ f m, Γ f = some m → SoundF I f m) (hm : P.follows .mixedOrders = true) {f : FuncId} {fn : Func} (hf : P.funcs[f]? = some fn) (hname : (fn.name == "runtime.NumGoroutine") = false) (hbody : fn.body.isSome = true) (n : Fu) :
    SoundF I f (fun args H => some (mkS (V × Heap) (evF P Γ n fn args H) some)) := by
  obtain ⟨c, hb⟩ := Option.isSome_iff_exists.1 hbody
  refine ⟨⟨fn, c, hf, hname, hb⟩, ?_⟩
  intro args H S ht e w s F vs E hv hR hF x v H' s' hrun hfx
  cases ht
  simp only [Option.some.injEq] at hfx
  subst hfx
  simp only [evF, hb, E.len] at hrun
  have hlen := allSome_length _ _ _ hv
  refine calls_of_wp hf hb (ev_sound (S0 := fun q b => Own q e H b ∨ F b) (w0 := w) (e0 := e) hΓ hm n c _ _ _ (fun ex e' st' s1 F' a' w' hk C => ?_) e ⟨begun fn args, H⟩ s F _ w ?_ hrun)
  · have hend : ∃ u, resV P fn st' = some u ∧ ∃ r', finish e.length u st'.heap = some r' ∧ r' = (v, H') ∧ s1 = s' := by
      cases ex with
      | exit i => simp [endF, T.run] at hk
      | normal =>
        simp only [endF] at hk
        split at hk
        · rename_i u hu
          split at hk
          · rename_i r' hr'
            simp only [T.run, Option.some.injEq, Prod.mk.injEq] at hk
            exact ⟨u, hu, r', hr', hk.1, hk.2⟩
          · cases hk
        · cases hk
      | ret =>
        simp only [endF] at hk
        split at hk
        · rename_i u hu
          split at hk
          · rename_i r' hr'
            simp only [T.run, Option.some.injEq, Prod.mk.injEq] at hk
            exact ⟨u, hu, r', hr', hk.1, hk.2⟩
          · cases hk
        · cases hk
    obtain ⟨u, hu, r', hr', rfl, rfl⟩ := hend
    obtain ⟨rv, h1, h2⟩ := results_run (P := P) C.rel hu
    obtain ⟨e2, h3, h4, h5, h6⟩ := finish_sound C.rel.emb h2 C.ext hr'
    have hpost : a'.defers = [] ∧ ∃ v', (results fn a'.tmps).run P w' = .ok v' w' ∧ ∃ e' F' rv, Ending.returned v' = .returned rv ∧ Ext e e' ∧ denV I.pv e' v = some rv ∧ Emb I.pv e' H' w' ∧ I.Rep s1 F' w' ∧ (∀ b, Own false e' H' b → ¬ F' b) ∧
        Keeps (fun b => Own true e H b ∨ F b) w w' ∧ ∀ q b, Own q e' H' b ∨ F' b → Own q e H b ∨ F b ∨ w.heap.size ≤ b := by
      refine ⟨C.rel.defers, rv, h1, e2, F', rv, rfl, h3, h4, h5, C.rep, fun b hb => C.disj b (h6 _ b hb), C.keeps, fun q b hb => ?_⟩
      rcases C.mine _ b (hb.imp (h6 _ b) id) with (h | h) | h
      · exact .inl h
      · exact .inr (.inl h)
      · exact .inr (.inr h)
    cases ex with
    | exit i => simp [endF, T.run] at hk
    | normal => exact hpost
    | ret => exact hpost
  · refine ⟨⟨E, ?_, fun t u hu => ?_, rfl⟩, hR, hF, Keeps.refl _ w, fun q b hb => .inl hb, Ext.refl e⟩
    · simp [begun, hlen]; omega
    · obtain ⟨_, hu⟩ := getT_some hu
      rcases putArgs_get args 0 .tip t u hu with ⟨_, h1⟩ | h1
      · rw [Nat.sub_zero] at h1
        have ht := (List.getElem?_eq_some_iff.1 h1).1
        obtain ⟨y, h2, h3⟩ := allSome_get _ _ _ hv t _ h1
        refine ⟨y, ?_, h2⟩
        rw [Array.getElem?_append_left (by simpa [hlen] using ht)]
        simpa using h3
      · rw [getS_tip] at h1; cases h1
end
end Go.Proofs.Ytjcdojcbdfblbaa.Lx
