/- The local executor: one operation of a region, calls and accesses too. -/
import Derived.Test.YtjcdojcbdfblbaaLxCall
namespace Go.Proofs.Ytjcdojcbdfblbaa.Lx
open Go

/-- a state stands for a frame's and the world's. -/
structure Rel (pv : Value) (e : Env) (st : St) (a : Act) (w : World) : Prop where
  emb : Emb pv e st.heap w
  len : st.tmps.n ≤ a.tmps.size
  tmps : ∀ (t : Nat) v, getT st.tmps t = some v → ∃ rv, a.tmps[t]? = some rv ∧ denV pv e v = some rv
  defers : a.defers = []
/-- .. with the port's state s (in the blocks F) beside it; S0, w0: what was there at the function's beginning, and may be changed. -/
structure Cfg {P : Program} {σ : Type} (I : Port P σ) (S0 : Bool → Nat → Prop) (w0 : World) (e0 e : Env) (st : St) (s : σ) (F : Nat → Prop) (a : Act) (w : World) : Prop where
  rel : Rel I.pv e st a w
  rep : I.Rep s F w
  disj : ∀ b, Own false e st.heap b → ¬ F b
  keeps : Keeps (S0 true) w0 w
  mine : ∀ q b, Own q e st.heap b ∨ F b → S0 q b ∨ w0.heap.size ≤ b
  ext : Ext e0 e
section
variable {P : Program} {σ : Type} {I : Port P σ} {Γ : Known} {S0 : Bool → Nat → Prop} {w0 : World} {e0 : Env} {e : Env} {st : St} {s : σ} {F : Nat → Prop} {a : Act} {w : World}
theorem Rel.says {pv : Value} (R : Rel pv e st a w) : Says pv e (evalO st.tmps) a.eval := by
  intro x v h
  cases x with
  | tmp t =>
    obtain ⟨rv, h1, h2⟩ := R.tmps t v h
    simp only [Act.eval]
    rw [h2, Array.getD_eq_getD_getElem?, h1]
    rfl
  | const c => exact constV_den h
  | global g => simp [evalO] at h
  | func f =>
    simp only [evalO, Option.some.injEq] at h
    subst h
    simp [denV, den, denL, Act.eval]
theorem setT_same {l : Tm} {d : Nat} {v : V} (h : getT l d = some v) : setT l d v = l := by
  obtain ⟨h1, h2⟩ := getT_some h
  unfold setT
  rw [blt_eq]
  simp only [h1, decide_true, cond_true, setS_same 9 l.s d v h2]
theorem putT_length (l : Tm) (dst : Option Tmp) (v : V) : (putT l dst v).n = l.n := by
  cases dst <;> simp [putT, setT_n]
theorem put_size (a : Act) (dst : Option Tmp) (v : Value) : (a.put dst v).tmps.size = a.tmps.size := by
  cases dst <;> simp [Act.put]
theorem Rel.put {pv : Value} {e' : Env} {H' : Heap} {w' : World} {v : V} {rv : Value} (R : Rel pv e st a w) (hx : Ext e e') (E : Emb pv e' H' w') (hv : denV pv e' v = some rv) (dst : Option Tmp) : Rel pv e' ⟨putT st.tmps dst v, H'⟩ (a.put dst rv) w' := by
  refine ⟨E, by rw [putT_length, put_size]; exact R.len, fun t u h => ?_, by cases dst <;> exact R.defers⟩
  cases dst with
  | none =>
    obtain ⟨r, h1, h2⟩ := R.tmps t u h
    exact ⟨r, h1, denV_ext hx _ _ h2⟩
  | some d =>
    simp only [putT] at h
    simp only [Act.put]
    by_cases hdt : d = t
    · subst hdt
      obtain ⟨hd, rfl⟩ := getT_setT_eq h
      refine ⟨rv, ?_, hv⟩
      have := R.len
      rw [Array.getElem?_setIfInBounds_self_of_lt (by omega)]
    · rw [getT_setT_ne _ _ (fun hh => hdt hh.symm)] at h
      obtain ⟨r, h1, h2⟩ := R.tmps t u h
      refine ⟨r, ?_, denV_ext hx _ _ h2⟩
      rw [Array.getElem?_setIfInBounds_ne hdt]
      exact h1
/-- behind an operation that asks no port. -/
theorem Cfg.did {e' : Env} {H' : Heap} {w' : World} {v : V} {rv : Value} (C : Cfg I S0 w0 e0 e st s F a w) (hx : Ext e e') (hv : denV I.pv e' v = some rv) (E : Emb I.pv e' H' w') (hK : Keeps (Own true e st.heap) w w') (hn : ∀ q b, Own q e' H' b → Own q e st.heap b ∨ w.heap.size ≤ b) (dst : Option Tmp) :
    Cfg I S0 w0 e0 e' ⟨putT st.tmps dst v, H'⟩ s F (a.put dst rv) w' := by
  refine ⟨C.rel.put hx E hv dst, I.stable C.rep fun b hb => hK.block b (I.lt C.rep b hb) fun h => C.disj b h.weak hb, fun b hb hf => ?_, C.keeps.trans hK fun b hb => C.mine _ b (.inl hb), fun q b hb => ?_, C.ext.trans hx⟩
  · rcases hn _ b hb with h | h
    · exact C.disj b h hf
    · have := I.lt C.rep b hf; omega
  · rcases hb with hb | hb
    · rcases hn _ b hb with h | h
      · exact C.mine _ b (.inl h)
      · right
        have := C.keeps.size
        omega
    · exact C.mine _ b (.inr hb)
/-- behind a call, or an access. -/
theorem Cfg.called {e' : Env} {H' : Heap} {w' : World} {F' : Nat → Prop} {s' : σ} {v : V} {rv : Value} (C : Cfg I S0 w0 e0 e st s F a w) (hx : Ext e e') (hv : denV I.pv e' v = some rv) (E : Emb I.pv e' H' w') (hR : I.Rep s' F' w') (hd : ∀ b, Own false e' H' b → ¬ F' b)
    (hK : Keeps (fun b => Own true e st.heap b ∨ F b) w w') (hn : ∀ q b, Own q e' H' b ∨ F' b → Own q e st.heap b ∨ F b ∨ w.heap.size ≤ b) (dst : Option Tmp) : Cfg I S0 w0 e0 e' ⟨putT st.tmps dst v, H'⟩ s' F' (a.put dst rv) w' := by
  refine ⟨C.rel.put hx E hv dst, hR, hd, C.keeps.trans hK fun b hb => C.mine _ b hb, fun q b hb => ?_, C.ext.trans hx⟩
  rcases hn _ b hb with h | h | h
  · exact C.mine _ b (.inl h)
  · exact C.mine _ b (.inr h)
  · right
    have := C.keeps.size
    omega
theorem allSome_append {α β : Type} {f : α → Option β} : ∀ {l l' : List α} {r r' : List β}, allSome f l = some r → allSome f l' = some r' → allSome f (l ++ l') = some (r ++ r')
  | [], l', r, r', h, h' => by simp only [allSome, Option.some.injEq] at h; subst h; exact h'
  | x :: l, l', r, r', h, h' => by
    simp only [allSome] at h
    split at h
    · rename_i y hy
      split at h
      · rename_i ys hys
        cases h
        simp only [List.cons_append, allSome, hy, allSome_append hys h']
      · cases h
    · cases h
theorem denV_caps {pv : Value} {e : Env} : ∀ {cs : List C} {rs : List Value}, denL pv e cs = some rs → allSome (denV pv e) (cs.map .c) = some rs
  | [], rs, h => by simp only [denL, Option.some.injEq] at h; subst h; rfl
  | c :: cs, rs, h => by
    simp only [denL] at h
    split at h
    · rename_i v hv
      split at h
      · rename_i us hu
        cases h
        simp only [List.map_cons, allSome, denV, hv, denV_caps hu]
      · cases h
    · cases h
/-- which calls an operation makes. -/
theorem step_call {pv : Value} {ρ : Operand → Option V} {ra : Operand → Value} {o : Oper} {H : Heap} {f : FuncId} {args : List V} (hρ : Says pv e ρ ra) (h : evStep P o.op ρ H = some (.call f args))
    (hb : ∃ fn c, P.funcs[f]? = some fn ∧ (fn.name == "runtime.NumGoroutine") = false ∧ fn.body = some c) :
    ∃ vs, allSome (denV pv e) args = some vs ∧ (execOp ra o).run P w = .ok (.enter f vs.toArray) w := by
  generalize ho : o.op = op at h
  obtain ⟨fn, c, hf1, hf2, hf3⟩ := hb
  unfold evStep at h
  split at h
  case h_22 c =>
    split at h
    · rename_i vs hvs
      split at h
      · rename_i b hb
        exfalso
        split at h
        · obtain ⟨_, _, _, h2⟩ := evAppend_val h; cases h2
        · unfold evDelete at h; (repeat' (split at h)) <;> cases h
        · unfold evBuiltin at h
          split at h
          · split at h <;> cases h
          · cases h
          · cases h
          · cases h
      · split at h
        · rw [Option.map_eq_some_iff] at h; obtain ⟨_, _, h2⟩ := h; cases h2
        · cases h
      · rename_i g hg
        split at h
        · rename_i f' caps hcap
          cases h
          have h1 := says_all hρ _ _ hvs
          have h2 := hρ g _ hcap
          simp only [denV, den, Option.map_eq_some_iff] at h2
          obtain ⟨rs, h3, h4⟩ := h2
          refine ⟨_, allSome_append h1 (denV_caps h3), ?_⟩
          simp only [execOp, ho, resolve, hg, ← h4, Deferred.ofValue, Sem.run_bind, Sem.run_pure, Result.andThen_ok, invoke, callFunc, program, Sem.run, hf1, hf2, hf3]
          simp
        · rw [Option.map_eq_some_iff] at h; obtain ⟨_, _, h2⟩ := h; cases h2
        · cases h
    · cases h
  all_goals
    exfalso
    (try unfold evLookup at h); (try unfold evUpdate at h); (repeat' (split at h)) <;> first
      | cases h
      | (rw [Option.map_eq_some_iff] at h; obtain ⟨_, _, h2⟩ := h; cases h2)
theorem flat_den1 {pv : Value} {e : Env} {c : C} (h : flatC c = true) : den pv e c = den pv [] c := by
  cases c <;> first | rfl | cases h
theorem flat_den {pv : Value} {e : Env} : ∀ {l : List C} {vs : List Value}, l.all flatC = true → denL pv e l = some vs → denL pv [] l = some vs
  | [], vs, h, hv => hv
  | c :: l, vs, h, hv => by
    simp only [List.all_cons, Bool.and_eq_true] at h
    simp only [denL] at hv ⊢
    split at hv
    · rename_i v hc
      split at hv
      · rename_i us hu
        cases hv
        rw [flat_den h.2 hu, ← flat_den1 (e := e) h.1, hc]
      · cases hv
    · cases hv
theorem pop_flat {pv : Value} {e : Env} {name : String} {args : List V} {p : POp} {vs : List Value} (h : popOf name args = some p) (hv : allSome (denV pv e) args = some vs) : allSome (denV pv []) args = some vs := by
  unfold popOf at h
  split at h
  · exact hv
  · exact hv
  · exact hv
  · exact hv
  · exact hv
  · split at h
    · split at h
      · rename_i l _ hl
        simp only [allSome, denV] at hv ⊢
        cases hd : denL pv e l with
        | none => rw [hd] at hv; simp at hv
        | some us => rw [flat_den hl hd]; rw [hd] at hv; exact hv
      · cases h
    · cases h
  · cases h
/-- which accesses an operation makes. -/
theorem step_port {ρ : Operand → Option V} {ra : Operand → Value} {o : Oper} {H : Heap} {p : POp} (hρ : Says I.pv e ρ ra) (h : evStep P o.op ρ H = some (.port p)) :
    ∃ name args vs, popOf name args = some p ∧ allSome (denV I.pv []) args = some vs ∧ (execOp ra o).run P w = (callMethod I.pv name vs.toArray).run P w := by
  generalize ho : o.op = op at h
  unfold evStep at h
  split at h
  case h_22 c =>
    split at h
    · rename_i vs hvs
      have h1 := says_all hρ _ _ hvs
      have h0 : (c.args.map ra) = (c.args.toList.map ra).toArray := by rw [← Array.toList_map]
      split at h
      · rename_i b hb
        exfalso
        split at h
        · obtain ⟨_, _, _, h2⟩ := evAppend_val h; cases h2
        · unfold evDelete at h; (repeat' (split at h)) <;> cases h
        · unfold evBuiltin at h
          split at h
          · split at h <;> cases h
          · cases h
          · cases h
          · cases h
      · rename_i r name hg
        split at h
        · rename_i hr
          rw [Option.map_eq_some_iff] at h; obtain ⟨q, h2, h3⟩ := h; cases h3
          have h4 := hρ r _ hr
          simp only [denV, den, Option.some.injEq] at h4
          refine ⟨name, vs, _, h2, pop_flat h2 h1, ?_⟩
          simp only [execOp, ho, resolve, hg, ← h4, Sem.run_bind, Sem.run_pure, Result.andThen_ok, invoke]
          simp only [h0, List.append_toArray, List.singleton_append, List.getElem?_toArray, List.getElem?_cons_zero, List.extract_toArray, List.size_toArray, List.length_cons, List.extract_eq_take_drop, List.drop_succ_cons, List.drop_zero]
          rw [List.take_of_length_le (by simp)]
        · cases h
      · rename_i g hg
        split at h
        · cases h
        · rename_i name hr
          rw [Option.map_eq_some_iff] at h; obtain ⟨q, h2, h3⟩ := h; cases h3
          have h4 := hρ g _ hr
          simp only [denV, den, Option.map_some, Option.some.injEq] at h4
          refine ⟨name, vs, _, h2, pop_flat h2 h1, ?_⟩
          simp only [execOp, ho, resolve, hg, ← h4, Deferred.ofValue, Sem.run_bind, Sem.run_pure, Result.andThen_ok, invoke]
          simp only [h0, List.append_toArray, List.singleton_append, List.getElem?_toArray, List.getElem?_cons_zero, List.extract_toArray, List.size_toArray, List.length_cons, List.extract_eq_take_drop, List.drop_succ_cons, List.drop_zero]
          rw [List.take_of_length_le (by simp)]
        · cases h
    · cases h
  all_goals
    exfalso
    (try unfold evLookup at h); (try unfold evUpdate at h); (repeat' (split at h)) <;> first
      | cases h
      | (rw [Option.map_eq_some_iff] at h; obtain ⟨_, _, h2⟩ := h; cases h2)

/-! ### one operation -/
theorem Flat.ext {pv : Value} {v : V} {rv : Value} (h : Flat pv v rv) (e : Env) : denV pv e v = some rv := h e
mutual
theorem closed_den {pv : Value} {e : Env} : ∀ (c : C), idsC c = [] → den pv e c = den pv [] c
  | .bool b, h => rfl
  | .int k n, h => rfl
  | .nilp, h => rfl
  | .ptr b o, h => by simp [idsC] at h
  | .nils, h => rfl
  | .sl b o n c, h => by simp [idsC] at h
  | .slg b o n, h => by simp [idsC] at h
  | .pr b o i n f, h => by simp [idsC] at h
  | .slw b o z n c, h => by simp [idsC] at h
  | .slr b n, h => by simp [idsC] at h
  | .slv b z o n, h => by simp [idsC] at h
  | .fn f caps, h => by simp only [idsC] at h; simp only [den, closed_denL caps h]
  | .meth s c, h => by simp only [idsC] at h; simp only [den, closed_den c h]
  | .nilf, h => rfl
  | .nili, h => rfl
  | .nilm, h => rfl
  | .port, h => rfl
  | .mp b, h => by simp [idsC] at h
  | .ifc t c, h => by simp only [idsC] at h; simp only [den, closed_den c h]
theorem closed_denL {pv : Value} {e : Env} : ∀ (l : List C), idsCs l = [] → denL pv e l = denL pv [] l
  | [], h => rfl
  | c :: l, h => by
    simp only [idsCs, List.append_eq_nil_iff] at h
    simp only [denL, closed_den c h.1, closed_denL l h.2]
end
theorem closed_denV1 {pv : Value} {e : Env} (x : V1) (h : idsV1 x = []) : denV1 pv e x = denV1 pv [] x := by
  cases x with
  | c a => exact closed_den a h
  | agg l => simp only [denV1, closed_denL l h]
theorem allSome_congr {α β : Type} {f g : α → Option β} : ∀ {l : List α}, (∀ x ∈ l, f x = g x) → allSome f l = allSome g l
  | [], h => rfl
  | x :: l, h => by simp only [allSome, h x (by simp), allSome_congr (l := l) fun y hy => h y (by simp [hy])]
theorem closed_denV {pv : Value} {e : Env} (x : V) (h : idsV x = []) : denV pv e x = denV pv [] x := by
  cases x with
  | c a => exact closed_den a h
  | agg l => simp only [denV, closed_denL l h]
  | tup l =>
    simp only [idsV, List.flatMap_eq_nil_iff] at h
    simp only [denV, allSome_congr fun y hy => closed_denV1 y (h y hy)]
theorem emb_nil (pv : Value) (w : World) : Emb pv [] [] w := ⟨rfl, fun i k h => by simp [blkAt] at h, fun i j k k' r r' h => by simp [blkAt] at h, fun i k h => by simp [blkAt] at h⟩
theorem own_nil {q : Bool} (b : Nat) : ¬ Own q [] [] b := by rintro ⟨i, k, r, h, _⟩; simp [blkAt] at h
theorem pure_sound (hΓ : ∀ f m, Γ f = some m → SoundF I f m) {f : FuncId} {args : List V} {S : Sum} (h : evPure Γ f args = some S) {vs : List Value} {s' : σ} (hv : allSome (denV I.pv e) args = some vs) (hR : I.Rep s F w) {v : V} {H' : Heap} {x : S.α} (hrun : S.t.run I.step s = some (x, s')) (hfx : S.f x = some (v, H')) :
    (∃ fn c, P.funcs[f]? = some fn ∧ (fn.name == "runtime.NumGoroutine") = false ∧ fn.body = some c) ∧ H' = [] ∧ idsV v = [] ∧
    Calls P f vs.toArray w fun en w' => ∃ F' rv, en = .returned rv ∧ Flat I.pv v rv ∧ I.Rep s' F' w' ∧ Keeps F w w' ∧ ∀ b, F' b → F b ∨ w.heap.size ≤ b := by
  unfold evPure at h
  split at h
  · cases h
  · rename_i hids
    split at h
    · cases h
    · rename_i m hm
      obtain ⟨hbody, hsound⟩ := hΓ f m hm
      split at h
      · cases h
      · rename_i t0 ht0
        cases h
        have hr1 := hrun
        have hr2 := hfx
        simp only at hr2
        split at hr2
        · cases hr2
        rename_i r0 hr0
        obtain ⟨v0, H1⟩ := r0
        simp only at hr2
        split at hr2
        · rename_i hv0
          simp only [Option.some.injEq, Prod.mk.injEq] at hr2
          obtain ⟨rfl, rfl⟩ := hr2
          refine ⟨hbody, rfl, hv0, ?_⟩
          have hv' : allSome (denV I.pv []) args = some vs := by
            rw [← hv]
            rw [List.flatMap_eq_nil_iff] at hids
            exact (allSome_congr fun x hx => closed_denV x (hids x hx)).symm
          refine (hsound args [] t0 ht0 [] w s F vs (emb_nil _ _) hv' hR (fun b hb => (own_nil b hb).elim) x v0 [] _ hr1 hr0).mono ?_
          rintro en w' ⟨e', F', rv, h1, h2, h3, h4, h5, h6, h7, h8⟩
          refine ⟨F', rv, h1, fun e => ?_, h5, h7.mono fun b hb => hb.resolve_left (own_nil b), fun b hb => ?_⟩
          · rw [closed_denV v0 hv0, ← closed_denV (e := e') v0 hv0]
            exact h3
          · rcases h8 true b (.inr hb) with h | h
            · exact (own_nil b h).elim
            · exact h
        · cases hr2
theorem execO_sound (hΓ : ∀ f m, Γ f = some m → SoundF I f m) {β : Type} {pu : PM} {o : Oper} {k : St → T β} {r : β × σ} (C : Cfg I S0 w0 e0 e st s F a w) (h : (execO P Γ pu o st k).run I.step s = some r) :
    ∃ st' s', (k st').run I.step s' = some r ∧ (execO P Γ pu o st T.ret).run I.step s = some (st', s') ∧
      ∀ K Q, (∀ e' F' a' w', (∃ rv, a' = a.put o.dst rv) → Cfg I S0 w0 e0 e' st' s' F' a' w' → K a' w') → o.wp P a w K Q := by
  have hρ := C.rel.says
  have E := C.rel.emb
  unfold execO at h
  split at h
  · rename_i g v H' hev
    cases hg : okV pu st.heap H'
    · rw [hg] at h; simp [T.run] at h
    cases g
    · rw [hg] at h; simp [T.run] at h
    · rw [hg] at h
      refine ⟨⟨putT st.tmps o.dst v, H'⟩, s, h, by simp only [execO, hev, hg, cond_true, T.run], fun K Q hK => ?_⟩
      obtain ⟨nx, w', e', rv, h1, h2, h3, h4, h5, h6, h7⟩ := step_val I hρ E hev
      have C' := C.did h3 h4 h5 h6 h7 o.dst
      unfold Oper.wp
      rw [h1]
      rcases h2 with rfl | ⟨rfl, rfl⟩
      · exact hK _ _ _ _ ⟨_, rfl⟩ C'
      · exact hK _ _ _ _ ⟨_, rfl⟩ C'
  · rename_i p hev
    simp only [T.run] at h
    split at h
    · rename_i x s1 hstep
      refine ⟨⟨putT st.tmps o.dst (ansV p x), st.heap⟩, s1, h, by simp only [execO, hev, T.run, hstep], fun K Q hK => ?_⟩
      obtain ⟨name, args, vs, h1, h2, h3⟩ := step_port (w := w) hρ hev
      obtain ⟨f, recv, rv, h4, h5, h6⟩ := I.does h1 hstep h2 C.rep
      unfold Oper.wp
      rw [h3, h4]
      rw [Oper.upon_enter]
      refine h6.mono ?_
      rintro en w' ⟨rfl, F', h7, h8, h9⟩
      refine hK e F' _ _ ⟨_, rfl⟩ (C.called (Ext.refl e) (h5 e) (E.ofSame fun b hb => h8.block b (E.own_lt hb) fun hf => C.disj b hb hf) h7 (fun b hb hf => ?_) (h8.mono fun b hb => .inr hb) (fun q b hb => ?_) o.dst)
      · rcases h9 b hf with h | h
        · exact C.disj b hb h
        · have := E.own_lt hb; omega
      · rcases hb with hb | hb
        · exact .inl hb
        · exact .inr (h9 b hb)
    · cases h
  · rename_i f args hev
    have main : ∀ (st1 : T β), st1 = callO Γ f args o st k → st1.run I.step s = some r →
        (∃ st' s', (k st').run I.step s' = some r ∧ (callO Γ f args o st T.ret).run I.step s = some (st', s') ∧
          ∀ K Q, (∀ e' F' a' w', (∃ rv, a' = a.put o.dst rv) → Cfg I S0 w0 e0 e' st' s' F' a' w' → K a' w') → o.wp P a w K Q) := by
      intro st1 hst h
      subst hst
      unfold callO at h
      split at h
      · rename_i t ht
        rw [t.hb] at h
        obtain ⟨x, s1, h1, h2⟩ := T.run_bind_some h
        split at h2
        rotate_left
        · cases h2
        rename_i r0 hfx
        obtain ⟨v, H'⟩ := r0
        simp only at h2
        refine ⟨⟨putT st.tmps o.dst v, H'⟩, s1, h2, by simp only [callO, ht, t.hb, T.run_bind, h1, hfx, T.run], fun K Q hK => ?_⟩
        have hbody : ∃ fn c, P.funcs[f]? = some fn ∧ (fn.name == "runtime.NumGoroutine") = false ∧ fn.body = some c := by
          unfold evCall at ht
          split at ht
          · cases ht
          · exact (hΓ f _ ‹_›).1
        obtain ⟨vs, g1, g2⟩ := step_call (w := w) hρ hev hbody
        obtain ⟨_, hcall⟩ := call_sound I hΓ ht E g1 C.rep C.disj h1 hfx
        unfold Oper.wp
        rw [g2, Oper.upon_enter]
        refine hcall.mono ?_
        rintro en w' ⟨e', F', rv, rfl, h3, h4, h5, h6, h7, h8, h9⟩
        exact hK _ _ _ _ ⟨_, rfl⟩ (C.called h3 h4 h5 h6 h7 h8 h9 o.dst)
      · cases h
    cases pu
    · simp only at h
      obtain ⟨st', s', g1, g2, g3⟩ := main _ rfl h
      exact ⟨st', s', g1, by simp only [execO, hev]; exact g2, g3⟩
    · simp only at h
      split at h
      · rename_i t ht
        rw [t.hb] at h
        obtain ⟨x, s1, h1, h2⟩ := T.run_bind_some h
        split at h2
        rotate_left
        · cases h2
        rename_i r0 hfx
        obtain ⟨v, H'⟩ := r0
        simp only at h2
        refine ⟨⟨putT st.tmps o.dst v, st.heap⟩, s1, h2, by simp only [execO, hev, ht, t.hb, T.run_bind, h1, hfx, T.run], fun K Q hK => ?_⟩
        have hbody : ∃ fn c, P.funcs[f]? = some fn ∧ (fn.name == "runtime.NumGoroutine") = false ∧ fn.body = some c := by
          unfold evPure at ht
          split at ht
          · cases ht
          · split at ht
            · cases ht
            · exact (hΓ f _ ‹_›).1
        obtain ⟨vs, g1, g2⟩ := step_call (w := w) hρ hev hbody
        obtain ⟨_, _, _, hcall⟩ := pure_sound hΓ ht g1 C.rep h1 hfx
        unfold Oper.wp
        rw [g2, Oper.upon_enter]
        refine hcall.mono ?_
        rintro en w' ⟨F', rv, rfl, h5, h7, h8, h9⟩
        refine hK e F' _ _ ⟨_, rfl⟩ (C.called (Ext.refl e) (h5 e) (E.ofSame fun b hb => h8.block b (E.own_lt hb) fun hf => C.disj b hb hf) h7 (fun b hb hf => ?_) (h8.mono fun b hb => .inr hb) (fun q b hb => ?_) o.dst)
        · rcases h9 b hf with h | h
          · exact C.disj b hb h
          · have := E.own_lt hb; omega
        · rcases hb with hb | hb
          · exact .inl hb
          · exact .inr (h9 b hb)
      · cases h
    · rename_i A
      simp only at h
      split at h
      · rename_i hav
        obtain ⟨st', s', g1, g2, g3⟩ := main _ rfl h
        exact ⟨st', s', g1, by simp only [execO, hev, hav]; exact g2, g3⟩
      · cases h
    · rename_i A
      simp only at h
      split at h
      · rename_i t ht
        rw [t.hb] at h
        obtain ⟨x, s1, h1, h2⟩ := T.run_bind_some h
        split at h2
        rotate_left
        · cases h2
        rename_i r0 hfx
        obtain ⟨f2, hc, hf⟩ := callK_call ht
        have hfx2 := hf x r0 hfx
        obtain ⟨st', s', g1, g2, g3⟩ := main (callO Γ f args o st k) rfl (by simp only [callO, hc, t.hb, T.run_bind, h1, hfx2]; exact h2)
        simp only [callO, hc, t.hb, T.run_bind, h1, hfx2, T.run, Option.some.injEq, Prod.mk.injEq] at g2
        obtain ⟨rfl, rfl⟩ := g2
        exact ⟨_, _, g1, by simp only [execO, hev, ht, t.hb, T.run_bind, h1, hfx, T.run], g3⟩
      · cases h
    · cases h
  · cases h
end
end Go.Proofs.Ytjcdojcbdfblbaa.Lx
