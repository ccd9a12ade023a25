/- The local executor: code. -/
import Derived.Test.YtjcdojcbdfblbaaLxAny
import Derived.Scope
namespace Go.Proofs.Ytjcdojcbdfblbaa.Lx
open Go
/-! ### states of which less is known -/
mutual
theorem den_take {pv : Value} {e : Env} {n : Nat} : ∀ (c : C), (∀ b ∈ idsC c, b < n) → den pv (e.take n) c = den pv e c
  | .bool b, h => rfl
  | .int k i, h => rfl
  | .nilp, h => rfl
  | .ptr b o, h => by simp only [den, List.getElem?_take_of_lt (h b (by simp [idsC]))]
  | .nils, h => rfl
  | .sl b o m c, h => by simp only [den, List.getElem?_take_of_lt (h b (by simp [idsC]))]
  | .slg b o m, h => by simp only [den, List.getElem?_take_of_lt (h b (by simp [idsC]))]
  | .pr b o i m f, h => by simp only [den, List.getElem?_take_of_lt (h b (by simp [idsC]))]
  | .slw b o z m c, h => by simp only [den, List.getElem?_take_of_lt (h b (by simp [idsC]))]
  | .slr b m, h => by simp only [den, List.getElem?_take_of_lt (h b (by simp [idsC]))]
  | .slv b z o m, h => by simp only [den, List.getElem?_take_of_lt (h b (by simp [idsC]))]
  | .fn f caps, h => by simp only [den, denL_take caps (by simpa [idsC] using h)]
  | .meth s c, h => by simp only [den, den_take c (by simpa [idsC] using h)]
  | .nilf, h => rfl
  | .nili, h => rfl
  | .nilm, h => rfl
  | .port, h => rfl
  | .mp b, h => by simp only [den, List.getElem?_take_of_lt (h b (by simp [idsC]))]
  | .ifc t c, h => by simp only [den, den_take c (by simpa [idsC] using h)]
theorem denL_take {pv : Value} {e : Env} {n : Nat} : ∀ (l : List C), (∀ b ∈ idsCs l, b < n) → denL pv (e.take n) l = denL pv e l
  | [], h => rfl
  | c :: l, h => by simp only [denL, den_take c (fun b hb => h b (by simp [idsCs, hb])), denL_take l (fun b hb => h b (by simp [idsCs, hb]))]
end
theorem denV1_take {pv : Value} {e : Env} {n : Nat} (x : V1) (h : ∀ b ∈ idsV1 x, b < n) : denV1 pv (e.take n) x = denV1 pv e x := by
  cases x with
  | c a => exact den_take a h
  | agg l => simp only [denV1, denL_take l h]
theorem denV_take {pv : Value} {e : Env} {n : Nat} (x : V) (h : ∀ b ∈ idsV x, b < n) : denV pv (e.take n) x = denV pv e x := by
  cases x with
  | c a => exact den_take a h
  | agg l => simp only [denV, denL_take l h]
  | tup l =>
    simp only [denV]
    rw [allSome_congr fun y hy => denV1_take y fun b hb => h b (by simp only [idsV, List.mem_flatMap]; exact ⟨y, hy, hb⟩)]
theorem reach_closed (H : Heap) : ∀ (n : Nat) (todo acc l : List Nat), reach H n todo acc = some l → (∀ b ∈ acc, ∀ k, blkAt H b = some k → ∀ x ∈ idsCs k.cells, x ∈ acc ∨ x ∈ todo) → (∀ b ∈ todo, b ∈ l) ∧ (∀ b ∈ acc, b ∈ l) ∧ ∀ b ∈ l, ∀ k, blkAt H b = some k → ∀ x ∈ idsCs k.cells, x ∈ l
  | n, [], acc, l, h, h1 => by
    have : acc = l := by cases n <;> simpa [reach] using h
    subst this
    exact ⟨by simp, fun _ h => h, fun b hb k hk x hx => (h1 b hb k hk x hx).resolve_right (by simp)⟩
  | 0, b :: todo, acc, l, h, h1 => by simp [reach] at h
  | n + 1, b :: todo, acc, l, h, h1 => by
    simp only [reach] at h
    split at h
    · rename_i hc
      have hb : b ∈ acc := by simpa using hc
      obtain ⟨g1, g2, g3⟩ := reach_closed H n todo acc l h (fun c hc k hk x hx => by
        rcases h1 c hc k hk x hx with h | h
        · exact .inl h
        · rcases List.mem_cons.1 h with h | h
          · exact .inl (h ▸ hb)
          · exact .inr h)
      refine ⟨fun c hc => ?_, g2, g3⟩
      rcases List.mem_cons.1 hc with h | h
      · exact g2 c (h ▸ hb)
      · exact g1 c h
    · split at h
      · rename_i k hk
        obtain ⟨g1, g2, g3⟩ := reach_closed H n (idsCs k.cells ++ todo) (acc ++ [b]) l h (fun c hc k' hk' x hx => by
          rcases List.mem_append.1 hc with hc | hc
          · rcases h1 c hc k' hk' x hx with h | h
            · exact .inl (by simp [h])
            · rcases List.mem_cons.1 h with h | h
              · exact .inl (by simp [h])
              · exact .inr (by simp [h])
          · simp only [List.mem_singleton] at hc
            subst hc
            rw [hk] at hk'
            cases hk'
            exact .inr (by simp [hx]))
        refine ⟨fun c hc => ?_, fun c hc => g2 c (by simp [hc]), g3⟩
        rcases List.mem_cons.1 hc with h | h
        · exact g2 c (by simp [h])
        · exact g1 c (by simp [h])
      · cases h
theorem topOf_lt : ∀ (l : List Nat) (b : Nat), b ∈ l → b < topOf l
  | [], b, h => by simp at h
  | x :: l, b, h => by
    simp only [topOf]
    rcases List.mem_cons.1 h with h | h
    · omega
    · have := topOf_lt l b h; omega
theorem keepB_length (l : List Nat) : ∀ (i : Nat) (H : Heap), (keepB l i H).length = H.length
  | i, [] => rfl
  | i, x :: H => by simp only [keepB, List.length_cons, keepB_length l (i + 1) H]
theorem keepB_get (l : List Nat) : ∀ (i : Nat) (H : Heap) (j : Nat), (keepB l i H)[j]? = (H[j]?).map fun x => if l.contains (i + j) then x else none
  | i, [], j => by simp [keepB]
  | i, x :: H, 0 => by simp [keepB]
  | i, x :: H, j + 1 => by
    simp only [keepB, List.getElem?_cons_succ, keepB_get l (i + 1) H j]
    rw [show i + 1 + j = i + (j + 1) by omega]
theorem keepT_get {m : Nat} {l : Tm} {t : Nat} {v : V} (h : getT (keepT m l) t = some v) : getT l t = some v := by
  obtain ⟨h1, h2⟩ := getT_some h
  unfold getT
  rw [blt_eq]
  simp only [show t < l.n from h1, decide_true, cond_true]
  exact getS_keepS m 9 0 l.s t v h2
section
variable {P : Program} {σ : Type} {I : Port P σ} {Γ : Known} {S0 : Bool → Nat → Prop} {w0 : World} {e0 : Env}
theorem Emb.keep {pv : Value} {e : Env} {H : Heap} {w : World} (E : Emb pv e H w) {l : List Nat} (hcl : ∀ b ∈ l, ∀ k, blkAt H b = some k → ∀ x ∈ idsCs k.cells, x ∈ l) :
    Emb pv (e.take (topOf l)) ((keepB l 0 H).take (topOf l)) w ∧ ∀ q b, Own q (e.take (topOf l)) ((keepB l 0 H).take (topOf l)) b → Own q e H b := by
  have orig : ∀ i k, blkAt ((keepB l 0 H).take (topOf l)) i = some k → i ∈ l ∧ i < topOf l ∧ blkAt H i = some k := by
    intro i k h
    rw [blkAt_some, List.getElem?_take] at h
    split at h
    · rename_i hi
      rw [keepB_get] at h
      cases hh : H[i]? with
      | none => rw [hh] at h; simp at h
      | some x =>
        rw [hh] at h
        simp only [Option.map_some, Option.some.injEq, Nat.zero_add] at h
        split at h
        · rename_i hc
          exact ⟨by simpa using hc, hi, by rw [blkAt_some, hh, h]⟩
        · cases h
    · cases h
  have env : ∀ i r, i < topOf l → ((e.take (topOf l))[i]? = some r ↔ e[i]? = some r) := by
    intro i r hi
    rw [List.getElem?_take_of_lt hi]
  refine ⟨⟨?_, fun i k hk => ?_, fun i j k k' r r' h1 h2 h3 h4 h5 v1 v2 => ?_, fun i k hk => E.ok i k (orig i k hk).2.2⟩, fun q b hb => ?_⟩
  · have := E.len
    simp only [List.length_take, keepB_length]
    omega
  · obtain ⟨h1, h2, h3⟩ := orig i k hk
    obtain ⟨r, cs, g1, g2, g3⟩ := E.lies i k h3
    refine ⟨r, cs, (env i r h2).2 g1, ?_, g3⟩
    cases hk : k.tab with
    | none =>
      rw [Blk.real_none hk] at g2 ⊢
      rw [denL_take _ fun b hb => topOf_lt l b (hcl i h1 k h3 b hb)]
      exact g2
    | some t =>
      rw [Blk.real_some hk] at g2 ⊢
      rw [flatL_den (pv := pv) (e := e) (tab_flat t)]
      exact g2
  · obtain ⟨_, a2, a3⟩ := orig i k h1
    obtain ⟨_, b2, b3⟩ := orig j k' h2
    exact E.alone i j k k' r r' a3 b3 ((env i r a2).1 h3) ((env j r' b2).1 h4) h5 v1 v2
  · obtain ⟨i, k, r, h1, h2, h3⟩ := hb
    obtain ⟨_, a2, a3⟩ := orig i k h1
    exact ⟨i, k, r, a3, (env i r a2).1 h2, h3⟩
theorem Cfg.norm {e : Env} {st st1 : St} {s : σ} {F : Nat → Prop} {a : Act} {w : World} {m : Nat} (C : Cfg I S0 w0 e0 e st s F a w) (h : norm e0.length m st = some st1) : ∃ e1, Cfg I S0 w0 e0 e1 st1 s F a w := by
  unfold Lx.norm at h
  simp only at h
  split at h
  · rename_i l hl
    cases h
    obtain ⟨g1, _, g3⟩ := reach_closed st.heap _ _ [] l hl (by simp)
    obtain ⟨E1, ho⟩ := C.rel.emb.keep g3
    refine ⟨e.take (topOf l), ⟨E1, C.rel.len, fun t v hv => ?_, C.rel.defers⟩, C.rep, fun b hb => C.disj b (ho _ b hb), C.keeps, fun q b hb => C.mine _ b (hb.imp (ho _ b) id), ?_⟩
    rotate_left
    · obtain ⟨x, hx⟩ := C.ext
      have hle : e0.length ≤ topOf l := by
        rcases Nat.eq_zero_or_pos e0.length with h0 | h0
        · omega
        · have := topOf_lt l (e0.length - 1) (g1 _ (by simp; omega))
          omega
      exact ⟨x.take (topOf l - e0.length), by rw [hx, List.take_append, List.take_of_length_le hle]⟩
    obtain ⟨rv, h1, h2⟩ := C.rel.tmps t v (keepT_get hv)
    refine ⟨rv, h1, ?_⟩
    rw [denV_take v fun b hb => topOf_lt l b (g1 b ?_)]
    · exact h2
    · refine List.mem_append.2 (.inr ?_)
      exact getS_ids 9 _ t v (getT_some hv).2 b hb
  · cases h
theorem Cfg.conv1 {e : Env} {st : St} {s : σ} {F : Nat → Prop} {a : Act} {w : World} (c : Cv) (C : Cfg I S0 w0 e0 e st s F a w) : ∃ e1, Cfg I S0 w0 e0 e1 (Lx.conv1 c st) s F a w := by
  unfold Lx.conv1
  split
  rotate_left
  · exact ⟨e, C⟩
  rename_i hg
  have E := C.rel.emb
  have hlen := E.len
  have hx : Ext e (e ++ [(0, 0)]) := ⟨_, rfl⟩
  obtain ⟨tmps, H⟩ := st
  simp only at hg hlen E
  generalize hkn : (⟨[], c.el, true, some c.ek.tab⟩ : Blk) = kn
  have hv : kn.virt = true := by subst hkn; unfold Blk.virt; cases c.ek <;> rfl
  have hreal : kn.real = [] := by subst hkn; unfold Blk.real; cases c.ek <;> rfl
  have hsplit : ∀ i k, blkAt (newB H kn) i = some k → (i = H.length ∧ k = kn) ∨ (blkAt H i = some k ∧ i < H.length) := by
    intro i k h
    rw [blkAt_new] at h
    split at h
    · cases h; exact .inl ⟨‹_›, rfl⟩
    · refine .inr ⟨h, ?_⟩
      rw [blkAt_eq] at h
      by_cases hi : i < H.length
      · exact hi
      · rw [List.getElem?_eq_none (by omega)] at h; simp at h
  have own : ∀ q b, Own q (e ++ [(0, 0)]) (newB H kn) b → Own q e H b := by
    rintro q b ⟨i, k, r, h1, h2, h3, h4, h5⟩
    rcases hsplit i k h1 with ⟨_, rfl⟩ | ⟨h6, h7⟩
    · rw [hv] at h4; cases h4
    · rw [List.getElem?_append_left (by omega)] at h2
      exact ⟨i, k, r, h6, h2, h3, h4, h5⟩
  refine ⟨e ++ [(0, 0)], ⟨⟨by simp [newB, hlen], fun i k hk => ?_, fun i j k k' r r' hk hk' hr hr' he v1 v2 => ?_, fun i k hk => ?_⟩, by rw [setT_n]; exact C.rel.len, fun t v hgv => ?_, C.rel.defers⟩, C.rep, fun b hb => C.disj b (own _ b hb), C.keeps, fun q b hb => C.mine _ b (hb.imp (own _ b) id), C.ext.trans hx⟩
  · rcases hsplit i k hk with ⟨rfl, rfl⟩ | ⟨hk, hi⟩
    · exact ⟨(0, 0), [], by simp [hlen], by rw [hreal]; rfl, .inl hv⟩
    · obtain ⟨r, cs', hr, hd', hw⟩ := E.lies i k hk
      exact ⟨r, cs', hx.get hr, denL_ext hx _ _ hd', hw⟩
  · rcases hsplit i k hk with ⟨_, rfl⟩ | ⟨hk, hi⟩
    · rw [hv] at v1; cases v1
    · rcases hsplit j k' hk' with ⟨_, rfl⟩ | ⟨hk', hj⟩
      · rw [hv] at v2; cases v2
      · rw [List.getElem?_append_left (by omega)] at hr hr'
        exact E.alone i j k k' r r' hk hk' hr hr' he v1 v2
  · rcases hsplit i k hk with ⟨_, rfl⟩ | ⟨hk, hi⟩
    · subst hkn; intro t _; rfl
    · exact E.ok i k hk
  · by_cases ht : t = c.slot
    · subst ht
      obtain ⟨_, rfl⟩ := getT_setT_eq hgv
      obtain ⟨rv, h1, h2⟩ := C.rel.tmps _ _ hg
      refine ⟨rv, h1, ?_⟩
      simp only [denV, den] at h2 ⊢
      rw [hlen, List.getElem?_append_right (by omega), Nat.sub_self]
      exact h2
    · rw [getT_setT_ne _ _ ht] at hgv
      obtain ⟨rv, h1, h2⟩ := C.rel.tmps t v hgv
      exact ⟨rv, h1, denV_ext hx _ _ h2⟩
theorem Cfg.convs {s : σ} {F : Nat → Prop} {a : Act} {w : World} : ∀ (l : List Cv) {e : Env} {st : St} (_ : Cfg I S0 w0 e0 e st s F a w), ∃ e1, Cfg I S0 w0 e0 e1 (Lx.convs l st) s F a w
  | [], e, st, C => ⟨e, C⟩
  | c :: l, e, st, C => by
    obtain ⟨e1, C1⟩ := Cfg.conv1 c C
    exact Cfg.convs l C1
theorem sub_ext {e0 e e1 : Env} {l : List Nat} (hx : Ext e0 e) (htake : l.take e0.length = List.range e0.length) (hlen : e1.length = l.length) (hget : ∀ (i b : Nat), l[i]? = some b → e1[i]? = e[b]?) : Ext e0 e1 := by
  obtain ⟨x, rfl⟩ := hx
  have hle : e0.length ≤ l.length := by
    have := congrArg List.length htake
    simp at this
    omega
  refine ⟨e1.drop e0.length, ?_⟩
  rw [← List.take_append_drop e0.length e1]
  congr 1
  · apply List.ext_getElem?
    intro i
    rw [List.getElem?_take]
    split
    · rename_i hi
      have hli : l[i]? = some i := by
        have := congrArg (·[i]?) htake
        simp only [List.getElem?_take_of_lt hi] at this
        rw [this, List.getElem?_range hi]
      rw [hget i i hli, List.getElem?_append_left hi]
    · rename_i hi
      rw [List.getElem?_eq_none (by omega)]
  · simp
theorem getS_ren {r : Nat → Option Nat} : ∀ (d : Nat) (s s' : Sl) (t : Nat) (v : V), renS r s = some s' → getS d s' t = some v → ∃ u, getS d s t = some u ∧ renV r u = some v
  | d, .tip, s', t, v, h, hv => by
    simp only [renS, Option.some.injEq] at h; subst h
    rw [getS_tip] at hv; cases hv
  | d, .leaf u, s', t, v, h, hv => by
    simp only [renS] at h
    split at h
    · rename_i u' hu
      cases h
      cases d with
      | zero =>
        simp only [getS] at hv ⊢
        cases hb : Nat.beq t 0 with
        | true => rw [hb] at hv; cases hv; exact ⟨u, rfl, hu⟩
        | false => rw [hb] at hv; cases hv
      | succ d => simp [getS] at hv
    · cases h
  | d, .node a b, s', t, v, h, hv => by
    simp only [renS] at h
    split at h
    · rename_i x y hx hy
      cases h
      cases d with
      | zero => simp [getS] at hv
      | succ d =>
        simp only [getS] at hv ⊢
        cases hb : Nat.blt t (2 ^ d) with
        | true => rw [hb] at hv; exact getS_ren d a x t v hx hv
        | false => rw [hb] at hv; exact getS_ren d b y _ v hy hv
    · cases h
theorem Cfg.renum {e : Env} {st st1 : St} {s : σ} {F : Nat → Prop} {a : Act} {w : World} (C : Cfg I S0 w0 e0 e st s F a w) (h : renum e0.length st = some st1) : ∃ e1, Cfg I S0 w0 e0 e1 st1 s F a w := by
  unfold Lx.renum at h
  split at h
  · rename_i l hl
    obtain ⟨hn, hk⟩ := reachM_ok hl
    split at h
    · rename_i htake
      split at h
      · rename_i s' H1 hs1 hH1
        cases h
        obtain ⟨e1, hlen, hget, E1, hown⟩ := C.rel.emb.sub hn hk hH1
        have hr : ∀ b b' x, idx l b = some b' → e[b]? = some x → e1[b']? = some x := fun b b' x h1 h2 => (hget b' b (idx_get l b b' h1)).trans h2
        have own : ∀ q b, Own q e1 H1 b → Own q e st.heap b := fun q b hb => by
          obtain ⟨i, hi, k, r, h1, h2, h3, hv, h4⟩ := hown _ b hb
          exact ⟨i, k, r, h1, h2, h3, hv, h4⟩
        refine ⟨e1, ⟨E1, C.rel.len, fun t v hv => ?_, C.rel.defers⟩, C.rep, fun b hb => C.disj b (own _ b hb), C.keeps, fun q b hb => C.mine _ b (hb.imp (own _ b) id), sub_ext C.ext (by simpa using htake) hlen hget⟩
        obtain ⟨h5, h6⟩ := getT_some hv
        obtain ⟨u, h7, h8⟩ := getS_ren 9 _ _ t v hs1 h6
        have h9 : getT st.tmps t = some u := by
          unfold getT
          rw [blt_eq]
          simp only [show t < st.tmps.n from h5, decide_true, cond_true]
          exact h7
        obtain ⟨rv, g1, g2⟩ := C.rel.tmps t u h9
        exact ⟨rv, g1, renV_den hr u v rv h8 g2⟩
      · cases h
    · cases h
  · cases h
theorem Cfg.normC {e : Env} {st st1 : St} {s : σ} {F : Nat → Prop} {a : Act} {w : World} {m : Nat} {n : Fu} (C : Cfg I S0 w0 e0 e st s F a w) (h : normC n e0.length m st = some st1) : ∃ e1, Cfg I S0 w0 e0 e1 st1 s F a w := by
  unfold Lx.normC at h
  split at h
  · rename_i st2 h2
    obtain ⟨e2, C2⟩ := C.norm h2
    obtain ⟨e3, C3⟩ := Cfg.convs n.cv C2
    split at h
    · exact C3.renum h
    · cases h; exact ⟨e3, C3⟩
  · cases h
theorem Cfg.drew {e : Env} {st : St} {s : σ} {F : Nat → Prop} {a : Act} {w : World} (C : Cfg I S0 w0 e0 e st s F a w) : Cfg I S0 w0 e0 e st s F a { w with drawn := w.drawn + 1 } :=
  ⟨⟨C.rel.emb.ofSame fun _ _ => rfl, C.rel.len, C.rel.tmps, C.rel.defers⟩, I.stable C.rep fun _ _ => rfl, C.disj, ⟨C.keeps.os, C.keeps.tape, C.keeps.output, C.keeps.size, C.keeps.block⟩, C.mine, C.ext⟩

/-! ### code -/
def Ex.up : Ex → Exit
  | .normal => .normal
  | .exit i => .exit i
  | .ret => .ret
theorem refine_same {tmps : Tm} {c : Operand} {t : Bool} (h : evalO tmps c = some (.c (.bool t))) : refine tmps c t = tmps := by
  cases c with
  | tmp i => exact setT_same h
  | _ => rfl
theorem ev_sound (hΓ : ∀ f m, Γ f = some m → SoundF I f m) (hm : P.follows .mixedOrders = true) (n : Fu) {β : Type} {r : β × σ} : ∀ (c : Code) (lv : Nat) (K : Ex → St → T β) (Q : Exit → Act → World → Prop),
    (∀ ex e st s F a w, (K ex st).run I.step s = some r → Cfg I S0 w0 e0 e st s F a w → Q ex.up a w) →
    ∀ e st s F a w, Cfg I S0 w0 e0 e st s F a w → (ev P Γ n e0.length c lv st K).run I.step s = some r → c.wp P Q a w
  | .skip, lv, K, Q, hQ, e, st, s, F, a, w, C, h => wp_skip (hQ .normal e st s F a w h C)
  | .label _, lv, K, Q, hQ, e, st, s, F, a, w, C, h => wp_label (hQ .normal e st s F a w h C)
  | .exit i, lv, K, Q, hQ, e, st, s, F, a, w, C, h => wp_exit (hQ (.exit i) e st s F a w h C)
  | .ret, lv, K, Q, hQ, e, st, s, F, a, w, C, h => wp_ret (hQ .ret e st s F a w h C)
  | .seq x y, lv, K, Q, hQ, e, st, s, F, a, w, C, h => by
    refine wp_seq (ev_sound hΓ hm n x _ _ _ (fun ex e' st' s' F' a' w' hk C' => ?_) e st s F a w C h)
    cases ex with
    | normal =>
      simp only at hk
      split at hk
      · split at hk
        · rename_i st2 hn
          obtain ⟨e2, C2⟩ := C'.normC hn
          refine ev_sound hΓ hm n y lv (normK n e0.length lv K) Q (fun ex e3 st3 s3 F3 a3 w3 hk3 C3 => ?_) e2 st2 s' F' a' w' C2 hk
          unfold normK at hk3
          split at hk3
          · rename_i st4 hn4
            obtain ⟨e4, C4⟩ := C3.normC hn4
            exact hQ ex e4 st4 s3 F3 a3 w3 hk3 C4
          · cases hk3
        · cases hk
      · exact ev_sound hΓ hm n y lv K Q hQ e' st' s' F' a' w' C' hk
    | exit i => exact hQ (.exit i) e' st' s' F' a' w' hk C'
    | ret => exact hQ .ret e' st' s' F' a' w' hk C'
  | .cond c x y, lv, K, Q, hQ, e, st, s, F, a, w, C, h => by
    simp only [ev] at h
    split at h
    · rename_i t hc
      have hv := C.rel.says c _ hc
      simp only [denV, den, Option.some.injEq] at hv
      cases t
      · rw [cond_false, refine_same hc] at h
        exact wp_cond_false hv.symm (ev_sound hΓ hm n y lv K Q hQ e st s F a w C h)
      · rw [cond_true, refine_same hc] at h
        exact wp_cond_true hv.symm (ev_sound hΓ hm n x lv K Q hQ e st s F a w C h)
    · cases h
  | .block id c, lv, K, Q, hQ, e, st, s, F, a, w, C, h => by
    refine wp_block (ev_sound hΓ hm n c lv _ _ (fun ex e' st' s' F' a' w' hk C' => ?_) e st s F a w C h)
    cases ex with
    | normal => exact hQ .normal e' st' s' F' a' w' hk C'
    | exit i =>
      simp only at hk
      simp only [Ex.up, Exit.inBlock]
      split
      · rename_i hi; rw [if_pos hi] at hk; exact hQ .normal e' st' s' F' a' w' hk C'
      · rename_i hi; rw [if_neg hi] at hk; exact hQ (.exit i) e' st' s' F' a' w' hk C'
    | ret => exact hQ .ret e' st' s' F' a' w' hk C'
  | .scope c, lv, K, Q, hQ, e, st, s, F, a, w, C, h => by
    refine wp_scope_straight (ev_sound hΓ hm n c lv K _ (fun ex e' st' s' F' a' w' hk C' => ?_) e st s F a w C h)
    have := hQ ex e' st' s' F' a' w' hk C'
    cases ex <;> exact this
  | .region id ops draw, lv, K, Q, hQ, e, st, s, F, a, w, C, h => by
    simp only [ev] at h
    cases draw
    · exact wp_region_list (evOps_sound hΓ (fun e' st' s' F' a' w' hk C' => hQ .normal e' st' s' F' a' w' hk C') ops.toList C h)
    · simp only at h
      split at h
      · split at h
        · rename_i hok
          exact evLate_sound hΓ hm hok.1.1 hok.1.2 hok.2 (fun e' st' s' F' a' w' hk C' => hQ .normal e' st' s' F' a' w' hk C') C.drew h
        · cases h
      · split at h
        · split at h
          · rename_i hok
            exact evDraw_sound hΓ hm hok.1 hok.2 (fun e' st' s' F' a' w' hk C' => hQ .normal e' st' s' F' a' w' hk C') C.drew h
          · cases h
        · split at h
          · rename_i hok
            exact evLate_sound hΓ hm (region_D _ hok.1.1) hok.1.2 hok.2 (fun e' st' s' F' a' w' hk C' => hQ .normal e' st' s' F' a' w' hk C') C.drew h
          · cases h
  | .loop c, lv, K, Q, hQ, e, st, s, F, a, w, C, h => by
    simp only [ev] at h
    intro b k cs
    have key : ∀ (m : Nat) e st s F a w, Cfg I S0 w0 e0 e st s F a w → (loopN m (fun st k => ev P Γ n e0.length c (lv ||| (ue c).1) st fun e st' => match e with
        | .normal => match normC n e0.length (lv ||| (ue c).1) st' with
          | some st2 => k st2
          | none => .fail
        | .exit i => match normC n e0.length lv st' with
          | some st2 => K (.exit i) st2
          | none => .fail
        | .ret => match normC n e0.length lv st' with
          | some st2 => K .ret st2
          | none => .fail) st).run I.step s = some r → ∃ ex a' w', Q ex a' w' ∧ Arrives P (lone (b.at a (.code c :: .inLoop c :: k)) cs w) b k cs ex a' w' := by
      intro m
      induction m with
      | zero => intro e st s F a w C h; cases h
      | succ m ih =>
        intro e st s F a w C h
        simp only [loopN] at h
        have hbody : c.wp P (Exit.then (fun a' w' => ∃ ex a'' w'', Q ex a'' w'' ∧ Arrives P (lone (b.at a' (.code c :: .inLoop c :: k)) cs w') b k cs ex a'' w'') Q) a w := by
          refine ev_sound hΓ hm n c _ _ _ (fun ex e' st' s' F' a' w' hk C' => ?_) e st s F a w C h
          cases ex with
          | normal =>
            simp only at hk
            split at hk
            · rename_i st2 hn
              obtain ⟨e2, C2⟩ := C'.normC hn
              exact ih e2 st2 s' F' a' w' C2 hk
            · cases hk
          | exit i =>
            simp only at hk
            split at hk
            · rename_i st2 hn
              obtain ⟨e2, C2⟩ := C'.normC hn
              exact hQ (.exit i) e2 st2 s' F' a' w' hk C2
            · cases hk
          | ret =>
            simp only at hk
            split at hk
            · rename_i st2 hn
              obtain ⟨e2, C2⟩ := C'.normC hn
              exact hQ .ret e2 st2 s' F' a' w' hk C2
            · cases hk
        obtain ⟨ex, a1, w1, hq, harr⟩ := hbody b (.inLoop c :: k) cs
        cases ex with
        | normal =>
          obtain ⟨ex2, a2, w2, hq2, harr2⟩ := hq
          exact ⟨ex2, a2, w2, hq2, .of_steps (Steps.trans harr (.one step_inLoop)) harr2⟩
        | exit i => exact ⟨_, a1, w1, hq, .pass (x := .inLoop c) rfl (fun _ _ => .inl (by simp)) harr⟩
        | goto l => exact ⟨_, a1, w1, hq, .pass (x := .inLoop c) rfl (fun _ _ => .inl (by simp)) harr⟩
        | ret => exact ⟨_, a1, w1, hq, .pass (x := .inLoop c) rfl (fun _ _ => .inl (by simp)) harr⟩
        | panic ch => exact ⟨_, a1, w1, hq, .pass (x := .inLoop c) rfl (fun _ _ => .inl (by simp)) harr⟩
        | outgrown => exact ⟨_, a1, w1, hq, .pass (x := .inLoop c) rfl (fun _ _ => .inl (by simp)) harr⟩
    split at h
    · rename_i st1 hn
      obtain ⟨e1, C1⟩ := C.normC hn
      obtain ⟨ex, a', w', hq, harr⟩ := key n.n e1 st1 s F a w C1 h
      exact ⟨ex, a', w', hq, .of_steps (.one step_loop) harr⟩
    · cases h
  | .goto _, lv, K, Q, hQ, e, st, s, F, a, w, C, h => by simp [ev, T.run] at h
  | .rangeFunc .., lv, K, Q, hQ, e, st, s, F, a, w, C, h => by simp [ev, T.run] at h
  | .refuse _, lv, K, Q, hQ, e, st, s, F, a, w, C, h => by simp [ev, T.run] at h
end
end Go.Proofs.Ytjcdojcbdfblbaa.Lx
