/- The local executor: calls of known functions; a callee's blocks renamed. -/
import Derived.Test.YtjcdojcbdfblbaaLxPort
namespace Go.Proofs.Ytjcdojcbdfblbaa.Lx
open Go

theorem blkAt_some {H : Heap} {i : Nat} {k : Blk} : blkAt H i = some k ↔ H[i]? = some (some k) := by
  rw [blkAt_eq]
  cases h : H[i]? with
  | none => simp
  | some x => simp

theorem Blk.win_of {k k' : Blk} (h : k.tab = k'.tab) : k.win = k'.win := by unfold Blk.win; rw [h]
theorem Blk.wid_of {k k' : Blk} (h : k.tab = k'.tab) : k.wid = k'.wid := by unfold Blk.wid; rw [h]
theorem Blk.virt_of {k k' : Blk} (h : k.tab = k'.tab) (h' : k.grown = k'.grown) : k.virt = k'.virt := by unfold Blk.virt; rw [h, h']
theorem Blk.mapped_of {k k' : Blk} (h : k.tab = k'.tab) : k.mapped = k'.mapped := by unfold Blk.mapped; rw [h]
theorem Lies.like {w : World} {r : Nat × Nat} {k k' : Blk} {cs : List Value} (h : Lies w r k' cs) (h1 : k.elem = k'.elem) (h2 : k.grown = k'.grown) (h3 : k.tab = k'.tab) : Lies w r k cs := by
  unfold Lies at h ⊢
  rw [Blk.virt_of h3 h2, Blk.mapped_of h3, Blk.win_of h3, Blk.wid_of h3, h1, h2]; exact h
/-! ### renaming -/
mutual
theorem ren_den {pv : Value} {e e' : Env} {r : Nat → Option Nat} (hr : ∀ b b' x, r b = some b' → e[b]? = some x → e'[b']? = some x) : ∀ (c c' : C) (v : Value), renC r c = some c' → den pv e c = some v → den pv e' c' = some v
  | .bool b, c', v, h, hv => by simp only [renC, Option.some.injEq] at h; subst h; simpa [den] using hv
  | .int k n, c', v, h, hv => by simp only [renC, Option.some.injEq] at h; subst h; simpa [den] using hv
  | .nilp, c', v, h, hv => by simp only [renC, Option.some.injEq] at h; subst h; simpa [den] using hv
  | .nils, c', v, h, hv => by simp only [renC, Option.some.injEq] at h; subst h; simpa [den] using hv
  | .nilf, c', v, h, hv => by simp only [renC, Option.some.injEq] at h; subst h; simpa [den] using hv
  | .nili, c', v, h, hv => by simp only [renC, Option.some.injEq] at h; subst h; simpa [den] using hv
  | .nilm, c', v, h, hv => by simp only [renC, Option.some.injEq] at h; subst h; simpa [den] using hv
  | .port, c', v, h, hv => by simp only [renC, Option.some.injEq] at h; subst h; simpa [den] using hv
  | .mp b, c', v, h, hv => by
    simp only [renC, Option.map_eq_some_iff] at h
    obtain ⟨b', hb, rfl⟩ := h
    simp only [den, Option.map_eq_some_iff] at hv ⊢
    obtain ⟨x, hx, rfl⟩ := hv
    exact ⟨x, hr b b' x hb hx, rfl⟩
  | .ptr b o, c', v, h, hv => by
    simp only [renC, Option.map_eq_some_iff] at h
    obtain ⟨b', hb, rfl⟩ := h
    simp only [den] at hv ⊢
    exact map_some_mono (fun x hx => hr b b' x hb hx) hv
  | .sl b o n m, c', v, h, hv => by
    simp only [renC, Option.map_eq_some_iff] at h
    obtain ⟨b', hb, rfl⟩ := h
    simp only [den] at hv ⊢
    exact map_some_mono (fun x hx => hr b b' x hb hx) hv
  | .slg b o n, c', v, h, hv => by
    simp only [renC, Option.map_eq_some_iff] at h
    obtain ⟨b', hb, rfl⟩ := h
    simp only [den] at hv ⊢
    exact bind_some_mono (fun x hx => hr b b' x hb hx) hv
  | .pr b o i n f, c', v, h, hv => by
    simp only [renC, Option.map_eq_some_iff] at h
    obtain ⟨b', hb, rfl⟩ := h
    simp only [den] at hv ⊢
    exact map_some_mono (fun x hx => hr b b' x hb hx) hv
  | .slw b o z n m, c', v, h, hv => by
    simp only [renC, Option.map_eq_some_iff] at h
    obtain ⟨b', hb, rfl⟩ := h
    simp only [den] at hv ⊢
    exact map_some_mono (fun x hx => hr b b' x hb hx) hv
  | .slr b n, c', v, h, hv => by
    simp only [renC, Option.map_eq_some_iff] at h
    obtain ⟨b', hb, rfl⟩ := h
    simp only [den] at hv ⊢
    exact bind_some_mono (fun x hx => hr b b' x hb hx) hv
  | .slv b z o n, c', v, h, hv => by
    simp only [renC, Option.map_eq_some_iff] at h
    obtain ⟨b', hb, rfl⟩ := h
    simp only [den] at hv ⊢
    exact bind_some_mono (fun x hx => hr b b' x hb hx) hv
  | .fn f caps, c', v, h, hv => by
    simp only [renC, Option.map_eq_some_iff] at h
    obtain ⟨l, hl, rfl⟩ := h
    simp only [den] at hv ⊢
    exact map_some_mono (fun x hx => rens_den hr caps l x hl hx) hv
  | .meth s c, c', v, h, hv => by
    simp only [renC, Option.map_eq_some_iff] at h
    obtain ⟨l, hl, rfl⟩ := h
    simp only [den] at hv ⊢
    exact map_some_mono (fun x hx => ren_den hr c l x hl hx) hv
  | .ifc t c, c', v, h, hv => by
    simp only [renC, Option.map_eq_some_iff] at h
    obtain ⟨l, hl, rfl⟩ := h
    simp only [den] at hv ⊢
    exact map_some_mono (fun x hx => ren_den hr c l x hl hx) hv
theorem rens_den {pv : Value} {e e' : Env} {r : Nat → Option Nat} (hr : ∀ b b' x, r b = some b' → e[b]? = some x → e'[b']? = some x) : ∀ (l l' : List C) (vs : List Value), renCs r l = some l' → denL pv e l = some vs → denL pv e' l' = some vs
  | [], l', vs, h, hv => by simp only [renCs, Option.some.injEq] at h; subst h; simpa [denL] using hv
  | c :: l, l', vs, h, hv => by
    simp only [renCs] at h
    split at h
    · rename_i c' hc
      split at h
      · rename_i l'' hl
        cases h
        simp only [denL] at hv ⊢
        split at hv
        · rename_i v hcv
          split at hv
          · rename_i us hu
            cases hv
            rw [ren_den hr c c' v hc hcv, rens_den hr l l'' us hl hu]
          · cases hv
        · cases hv
      · cases h
    · cases h
end
theorem renV1_den {pv : Value} {e e' : Env} {r : Nat → Option Nat} (hr : ∀ b b' x, r b = some b' → e[b]? = some x → e'[b']? = some x) (x x' : V1) (v : Value) (h : renV1 r x = some x') (hv : denV1 pv e x = some v) : denV1 pv e' x' = some v := by
  cases x with
  | c a =>
    simp only [renV1, Option.map_eq_some_iff] at h
    obtain ⟨a', ha, rfl⟩ := h
    exact ren_den hr a a' v ha hv
  | agg l =>
    simp only [renV1, Option.map_eq_some_iff] at h
    obtain ⟨a', ha, rfl⟩ := h
    simp only [denV1] at hv ⊢
    exact map_some_mono (fun x hx => rens_den hr l a' x ha hx) hv
theorem allSome_comp {α β γ δ : Type} {f : α → Option β} {g : α → Option γ} {h : β → Option δ} {j : γ → δ} (hh : ∀ x y z, f x = some y → g x = some z → h y = some (j z)) : ∀ (l : List α) (ys : List β) (zs : List γ), allSome f l = some ys → allSome g l = some zs → allSome h ys = some (zs.map j)
  | [], ys, zs, h1, h2 => by
    simp only [allSome, Option.some.injEq] at h1 h2
    subst h1; subst h2; rfl
  | x :: l, ys, zs, h1, h2 => by
    simp only [allSome] at h1 h2
    split at h1
    · rename_i y hy
      split at h1
      · rename_i ys' hys
        cases h1
        split at h2
        · rename_i z hz
          split at h2
          · rename_i zs' hzs
            cases h2
            simp only [allSome, hh x y z hy hz, allSome_comp hh l ys' zs' hys hzs, List.map_cons]
          · cases h2
        · cases h2
      · cases h1
    · cases h1
theorem renV_den {pv : Value} {e e' : Env} {r : Nat → Option Nat} (hr : ∀ b b' x, r b = some b' → e[b]? = some x → e'[b']? = some x) (x x' : V) (v : Value) (h : renV r x = some x') (hv : denV pv e x = some v) : denV pv e' x' = some v := by
  cases x with
  | c a =>
    simp only [renV, Option.map_eq_some_iff] at h
    obtain ⟨a', ha, rfl⟩ := h
    exact ren_den hr a a' v ha hv
  | agg l =>
    simp only [renV, Option.map_eq_some_iff] at h
    obtain ⟨a', ha, rfl⟩ := h
    simp only [denV] at hv ⊢
    exact map_some_mono (fun x hx => rens_den hr l a' x ha hx) hv
  | tup l =>
    simp only [renV, Option.map_eq_some_iff] at h
    obtain ⟨l', hl, rfl⟩ := h
    simp only [denV, Option.map_eq_some_iff] at hv ⊢
    obtain ⟨vs, h1, h2⟩ := hv
    refine ⟨vs, ?_, h2⟩
    have := allSome_comp (h := denV1 pv e') (j := id) (fun x y z hy hz => renV1_den hr x y z hy hz) l l' vs hl h1
    simpa using this

/-! ### the blocks that values lead to -/
theorem reach_ok (H : Heap) : ∀ (n : Nat) (todo acc l : List Nat), reach H n todo acc = some l → acc.Nodup → (∀ b ∈ acc, ∃ k, blkAt H b = some k) → l.Nodup ∧ (∀ b ∈ l, ∃ k, blkAt H b = some k) ∧ ∃ x, l = acc ++ x
  | n, [], acc, l, h, h1, h2 => by
    have : acc = l := by cases n <;> simpa [reach] using h
    subst this
    exact ⟨h1, h2, [], by simp⟩
  | 0, b :: todo, acc, l, h, h1, h2 => by simp [reach] at h
  | n + 1, b :: todo, acc, l, h, h1, h2 => by
    simp only [reach] at h
    split at h
    · exact reach_ok H n todo acc l h h1 h2
    · rename_i hc
      split at h
      · rename_i k hk
        have hb : b ∉ acc := by simpa using hc
        obtain ⟨g1, g2, x, g3⟩ := reach_ok H n _ (acc ++ [b]) l h (by
          rw [List.nodup_append]
          refine ⟨h1, by simp, fun a ha c hc => ?_⟩
          simp only [List.mem_singleton] at hc
          subst hc
          exact fun e => hb (e ▸ ha)) (fun c hc => by
          rcases List.mem_append.1 hc with h | h
          · exact h2 c h
          · simp only [List.mem_singleton] at h
            subst h
            exact ⟨k, hk⟩)
        exact ⟨g1, g2, [b] ++ x, by rw [g3]; simp⟩
      · cases h
theorem reachM_ok {H : Heap} {m : Nat} {todo l : List Nat} (h : reachM H m todo = some l) : l.Nodup ∧ ∀ b ∈ l, ∃ k, blkAt H b = some k := by
  unfold reachM at h
  split at h
  · rename_i hall
    rw [List.all_eq_true] at hall
    obtain ⟨g1, g2, _⟩ := reach_ok H _ _ _ l h List.nodup_range fun b hb => Option.isSome_iff_exists.1 (hall b hb)
    exact ⟨g1, g2⟩
  · cases h
theorem idx_get : ∀ (l : List Nat) (b i : Nat), idx l b = some i → l[i]? = some b
  | [], b, i, h => by simp [idx] at h
  | x :: l, b, i, h => by
    simp only [idx] at h
    split at h
    · rename_i hx
      cases h
      simp [hx]
    · rw [Option.map_eq_some_iff] at h
      obtain ⟨j, hj, rfl⟩ := h
      simpa using idx_get l b j hj
theorem setBs_length : ∀ (l : List Nat) (xs : List (Option Blk)) (H : Heap), (setBs H l xs).length = H.length
  | [], xs, H => by simp [setBs]
  | b :: l, [], H => by simp [setBs]
  | b :: l, x :: xs, H => by simp only [setBs]; rw [setBs_length l xs, setB_eq, List.length_set]
theorem setBs_other : ∀ (l : List Nat) (xs : List (Option Blk)) (H : Heap) (j : Nat), j ∉ l → (setBs H l xs)[j]? = H[j]?
  | [], xs, H, j, h => by simp [setBs]
  | b :: l, [], H, j, h => by simp [setBs]
  | b :: l, x :: xs, H, j, h => by
    simp only [List.mem_cons, not_or] at h
    simp only [setBs]
    rw [setBs_other l xs _ j h.2, setB_eq, List.getElem?_set_ne (fun e => h.1 e.symm)]
theorem setBs_get : ∀ (l : List Nat) (xs : List (Option Blk)) (H : Heap) (i j : Nat) (x : Option Blk), l.Nodup → l[i]? = some j → xs[i]? = some x → j < H.length → (setBs H l xs)[j]? = some x
  | [], xs, H, i, j, x, hn, hl, hx, hj => by simp at hl
  | b :: l, [], H, i, j, x, hn, hl, hx, hj => by simp at hx
  | b :: l, y :: xs, H, 0, j, x, hn, hl, hx, hj => by
    simp only [List.getElem?_cons_zero, Option.some.injEq] at hl hx
    subst hl; subst hx
    simp only [setBs]
    rw [setBs_other l xs _ b (List.nodup_cons.1 hn).1, setB_eq, List.getElem?_set_self hj]
  | b :: l, y :: xs, H, i + 1, j, x, hn, hl, hx, hj => by
    simp only [List.getElem?_cons_succ] at hl hx
    simp only [setBs]
    exact setBs_get l xs _ i j x (List.nodup_cons.1 hn).2 hl hx (by rw [setB_eq, List.length_set]; exact hj)

/-! ### a callee's blocks -/
theorem renB_some {r : Nat → Option Nat} {x : Option Blk} {k' : Blk} (h : renB r x = some (some k')) : ∃ k, x = some k ∧ renCs r k.cells = some k'.cells ∧ k'.elem = k.elem ∧ k'.grown = k.grown ∧ k'.tab = k.tab := by
  cases x with
  | none => simp [renB] at h
  | some k =>
    simp only [renB, Option.map_eq_some_iff, Option.some.injEq] at h
    obtain ⟨cs, h1, rfl⟩ := h
    exact ⟨k, rfl, h1, rfl, rfl, rfl⟩
theorem ren_real {pv : Value} {e e' : Env} {r : Nat → Option Nat} (hr : ∀ b b' x, r b = some b' → e[b]? = some x → e'[b']? = some x) {k k' : Blk} (hc : renCs r k.cells = some k'.cells) (ht : k'.tab = k.tab) {cs : List Value} (h : denL pv e k.real = some cs) : denL pv e' k'.real = some cs := by
  cases hk : k.tab with
  | none =>
    rw [Blk.real_none hk] at h
    rw [Blk.real_none (ht.trans hk)]
    exact rens_den hr _ _ _ hc h
  | some t =>
    rw [Blk.real_some hk] at h
    rw [Blk.real_some (ht.trans hk), flatL_den (pv := pv) (e := e) (tab_flat t)]
    exact h
theorem ren_ok {r : Nat → Option Nat} {k k' : Blk} (hc : renCs r k.cells = some k'.cells) (ht : k'.tab = k.tab) (hk : k.ok) : k'.ok := by
  intro t h
  rw [hk t (ht.symm.trans h)] at hc
  simp only [renCs, Option.some.injEq] at hc
  exact hc.symm
theorem Emb.sub {pv : Value} {e : Env} {H : Heap} {w : World} (E : Emb pv e H w) {l : List Nat} (hn : l.Nodup) (hk : ∀ b ∈ l, ∃ k, blkAt H b = some k) {H0 : Heap} (h : allSome (fun b => renB (idx l) (blkAt H b)) l = some H0) :
    ∃ e0 : Env, e0.length = l.length ∧ (∀ (i b : Nat), l[i]? = some b → e0[i]? = e[b]?) ∧ Emb pv e0 H0 w ∧ ∀ q x, Own q e0 H0 x → ∃ i ∈ l, ∃ k r, blkAt H i = some k ∧ e[i]? = some r ∧ r.1 = x ∧ k.virt = false ∧ (q = true → k.win = none) := by
  have hl := allSome_length _ _ _ h
  have hget : ∀ (i b : Nat), l[i]? = some b → (l.map fun b => (e[b]?).getD (0, 0))[i]? = e[b]? := by
    intro i b hb
    obtain ⟨k, hk⟩ := hk b (List.mem_of_getElem? hb)
    obtain ⟨r, hr⟩ := E.get hk
    rw [List.getElem?_map, hb, hr]
    simp [hr]
  have hr : ∀ b b' x, idx l b = some b' → e[b]? = some x → (l.map fun b => (e[b]?).getD (0, 0))[b']? = some x := fun b b' x h1 h2 => (hget b' b (idx_get l b b' h1)).trans h2
  have orig : ∀ i k, blkAt H0 i = some k → ∃ b k', l[i]? = some b ∧ blkAt H b = some k' ∧ renCs (idx l) k'.cells = some k.cells ∧ k.elem = k'.elem ∧ k.grown = k'.grown ∧ k.tab = k'.tab := by
    intro i k hk
    rw [blkAt_some] at hk
    have hi : i < l.length := by rw [← hl]; exact (List.getElem?_eq_some_iff.1 hk).1
    obtain ⟨y, h1, h2⟩ := allSome_get _ _ _ h i _ (List.getElem?_eq_getElem hi)
    rw [hk] at h2
    cases h2
    obtain ⟨k', h3, h4, h5, h6, h7⟩ := renB_some h1
    exact ⟨l[i], k', List.getElem?_eq_getElem hi, h3, h4, h5, h6, h7⟩
  refine ⟨l.map fun b => (e[b]?).getD (0, 0), by simp, hget, ⟨by simp [hl], fun i k hk => ?_, fun i j k k' r r' h1 h2 h3 h4 h5 v1 v2 => ?_, fun i k hk => ?_⟩, fun q x hx => ?_⟩
  · obtain ⟨b, k', h1, h2, h3, h4, h5, h6⟩ := orig i k hk
    obtain ⟨r, cs, g1, g2, g3⟩ := E.lies b k' h2
    exact ⟨r, cs, (hget i b h1).trans g1, ren_real hr h3 h6 g2, g3.like h4 h5 h6⟩
  rotate_left
  · obtain ⟨b, k', h1, h2, h3, h4, h5, h6⟩ := orig i k hk
    exact ren_ok h3 h6 (E.ok b k' h2)
  rotate_right
  · obtain ⟨b, kb, g1, g2, _, _, u1, w1⟩ := orig i k h1
    obtain ⟨c, kc, g3, g4, _, _, u2, w2⟩ := orig j k' h2
    rw [Blk.virt_of w1 u1] at v1
    rw [Blk.virt_of w2 u2] at v2
    rw [hget i b g1] at h3
    rw [hget j c g3] at h4
    rcases E.alone b c kb kc r r' g2 g4 h3 h4 h5 v1 v2 with this | hw
    · subst this
      exact .inl ((List.getElem?_inj (List.getElem?_eq_some_iff.1 g1).1 hn).1 (g1.trans g3.symm))
    · rw [Blk.win_of w1, Blk.win_of w2]; exact .inr hw
  · obtain ⟨i, k, r, h1, h2, h3, hv, h4⟩ := hx
    obtain ⟨b, kb, g1, g2, _, _, u3, g3⟩ := orig i k h1
    rw [hget i b g1] at h2
    exact ⟨b, List.mem_of_getElem? g1, kb, r, g2, h2, h3, by rw [← Blk.virt_of g3 u3]; exact hv, fun hq => by rw [← Blk.win_of g3]; exact h4 hq⟩
/-- what a function is known to do. -/
def SoundF {P : Program} {σ : Type} (I : Port P σ) (f : FuncId) (m : List V → Heap → Option Sum) : Prop :=
  (∃ fn c, P.funcs[f]? = some fn ∧ (fn.name == "runtime.NumGoroutine") = false ∧ fn.body = some c) ∧
  ∀ args H S, m args H = some S → ∀ e w s F vs, Emb I.pv e H w → allSome (denV I.pv e) args = some vs → I.Rep s F w → (∀ b, Own false e H b → ¬ F b) →
    ∀ x v H' s', S.t.run I.step s = some (x, s') → S.f x = some (v, H') →
      Calls P f vs.toArray w fun en w' => ∃ e' F' rv, en = .returned rv ∧ Ext e e' ∧ denV I.pv e' v = some rv ∧ Emb I.pv e' H' w' ∧ I.Rep s' F' w' ∧ (∀ b, Own false e' H' b → ¬ F' b) ∧
        Keeps (fun b => Own true e H b ∨ F b) w w' ∧ ∀ q b, Own q e' H' b ∨ F' b → Own q e H b ∨ F b ∨ w.heap.size ≤ b
theorem T.run_bind_some {α β σ : Type} {step : PStep σ} {t : T α} {f : α → T β} {s s' : σ} {b : β} (h : (t.bind f).run step s = some (b, s')) : ∃ a s1, t.run step s = some (a, s1) ∧ (f a).run step s1 = some (b, s') := by
  rw [T.run_bind] at h
  split at h
  · rename_i a s1 hs
    exact ⟨a, s1, hs, h⟩
  · cases h
theorem call_sound {P : Program} {σ : Type} (I : Port P σ) {Γ : Known} (hΓ : ∀ f m, Γ f = some m → SoundF I f m) {f : FuncId} {args : List V} {H : Heap} {S : Sum} (h : evCall Γ f args H = some S)
    {e : Env} {w : World} {s s' : σ} {F : Nat → Prop} {vs : List Value} (E : Emb I.pv e H w) (hv : allSome (denV I.pv e) args = some vs) (hR : I.Rep s F w) (hF : ∀ b, Own false e H b → ¬ F b) {v : V} {H' : Heap} {x : S.α} (hrun : S.t.run I.step s = some (x, s')) (hfx : S.f x = some (v, H')) :
    (∃ fn c, P.funcs[f]? = some fn ∧ (fn.name == "runtime.NumGoroutine") = false ∧ fn.body = some c) ∧
    Calls P f vs.toArray w fun en w' => ∃ e' F' rv, en = .returned rv ∧ Ext e e' ∧ denV I.pv e' v = some rv ∧ Emb I.pv e' H' w' ∧ I.Rep s' F' w' ∧ (∀ b, Own false e' H' b → ¬ F' b) ∧
        Keeps (fun b => Own true e H b ∨ F b) w w' ∧ ∀ q b, Own q e' H' b ∨ F' b → Own q e H b ∨ F b ∨ w.heap.size ≤ b := by
  unfold evCall at h
  split at h
  · cases h
  · rename_i m hm
    obtain ⟨hbody, hsound⟩ := hΓ f m hm
    refine ⟨hbody, ?_⟩
    split at h
    · cases h
    · rename_i l hl
      obtain ⟨hn, hk, _⟩ := reach_ok H _ _ [] l hl (by simp) (by simp)
      split at h
      · rename_i args' H0 hargs hH0
        split at h
        · cases h
        · rename_i t0 ht0
          cases h
          obtain ⟨e0, hlen0, hget0, E0, hown0⟩ := E.sub hn hk hH0
          have hr1 := hrun
          have hr2 := hfx
          have hr : ∀ b b' x, idx l b = some b' → e[b]? = some x → e0[b']? = some x := fun b b' x h1 h2 => (hget0 b' b (idx_get l b b' h1)).trans h2
          have hargs0 : allSome (denV I.pv e0) args' = some vs := by
            have := allSome_comp (h := denV I.pv e0) (j := id) (fun x y z hy hz => renV_den hr x y z hy hz) args args' vs hargs hv
            simpa using this
          have own0 : ∀ q x, Own q e0 H0 x → Own q e H x := by
            intro q x hx
            obtain ⟨i, hi, k, r, h1, h2, h3, hv, h4⟩ := hown0 q x hx
            exact ⟨i, k, r, h1, h2, h3, hv, h4⟩
          simp only at hr2
          split at hr2
          · cases hr2
          rename_i r0 hr0
          obtain ⟨v0, H1⟩ := r0
          simp only at hr2
          split at hr2
          · rename_i v1 H2 hv1 hH2
            split at hr2
            · rename_i hle
              simp only [Option.some.injEq, Prod.mk.injEq] at hr2
              obtain ⟨rfl, rfl⟩ := hr2
              refine (hsound args' H0 t0 ht0 e0 w s F vs E0 hargs0 hR (fun b hb => hF b (own0 _ b hb)) x v0 H1 _ hr1 hr0).mono ?_
              rintro en w' ⟨e0', F', rv, hen, ⟨xs, hx⟩, hd, E1, hR', hF', hK, hnew⟩
              subst hx
              have hle' := E.len
              have hext : Ext e (e ++ xs) := ⟨xs, rfl⟩
              have hb : ∀ i i' y, (fun i => some (backId l H.length i)) i = some i' → (e0 ++ xs)[i]? = some y → (e ++ xs)[i']? = some y := by
                intro i i' y h1 h2
                simp only [Option.some.injEq] at h1
                subst h1
                unfold backId
                split
                · rename_i hi
                  rw [List.getElem?_append_left (by omega)] at h2
                  rw [hget0 i l[i] (List.getElem?_eq_getElem hi)] at h2
                  rw [List.getD_eq_getElem?_getD, List.getElem?_eq_getElem hi]
                  exact hext.get h2
                · rename_i hi
                  rw [List.getElem?_append_right (by omega)] at h2
                  rw [List.getElem?_append_right (by omega), ← h2]
                  congr 1
                  omega
              have hl1 := allSome_length _ _ _ hH2
              have orig : ∀ i k, H2[i]? = some (some k) → ∃ k', blkAt H1 i = some k' ∧ renCs (fun i => some (backId l H.length i)) k'.cells = some k.cells ∧ k.elem = k'.elem ∧ k.grown = k'.grown ∧ k.tab = k'.tab := by
                intro i k hk
                have hi : i < H1.length := by rw [← hl1]; exact (List.getElem?_eq_some_iff.1 hk).1
                obtain ⟨y, h1, h2⟩ := allSome_get _ _ _ hH2 i _ (List.getElem?_eq_getElem hi)
                rw [hk] at h2
                cases h2
                obtain ⟨k', h3, h4, h5, h6, h7⟩ := renB_some h1
                exact ⟨k', by rw [blkAt_some, List.getElem?_eq_getElem hi, h3], h4, h5, h6, h7⟩
              -- where a block behind the call comes from
              have from_ : ∀ j k, blkAt (setBs H l H2 ++ H2.drop l.length) j = some k → (j ∉ l ∧ blkAt H j = some k) ∨ ∃ i, backId l H.length i = j ∧ H2[i]? = some (some k) := by
                intro j k hj
                rw [blkAt_some] at hj
                by_cases hjl : j < H.length
                · rw [List.getElem?_append_left (by rw [setBs_length]; exact hjl)] at hj
                  by_cases hmem : j ∈ l
                  · right
                    obtain ⟨i, hi⟩ := List.getElem?_of_mem hmem
                    have hil := (List.getElem?_eq_some_iff.1 hi).1
                    have hi2 : i < H2.length := by omega
                    rw [setBs_get l H2 H i j _ hn hi (List.getElem?_eq_getElem hi2) hjl] at hj
                    refine ⟨i, ?_, by rw [List.getElem?_eq_getElem hi2, hj]⟩
                    unfold backId
                    rw [if_pos hil, List.getD_eq_getElem?_getD, hi]
                    rfl
                  · left
                    rw [setBs_other l H2 H j hmem] at hj
                    exact ⟨hmem, by rw [blkAt_some]; exact hj⟩
                · right
                  rw [List.getElem?_append_right (by rw [setBs_length]; omega), setBs_length, List.getElem?_drop] at hj
                  refine ⟨l.length + (j - H.length), ?_, hj⟩
                  unfold backId
                  rw [if_neg (by omega)]
                  omega
              have away : ∀ q j k r, j ∉ l → blkAt H j = some k → e[j]? = some r → k.virt = false → (q = false → k.win = none) → ¬ (Own q e0 H0 r.1 ∨ F r.1) ∧ r.1 < w.heap.size := by
                intro q j k r hj hkj hrj hv hq
                refine ⟨fun h => ?_, E.own_lt (own_any hkj hrj hv)⟩
                rcases h with h | h
                · obtain ⟨i, hi, k', r', h1, h2, h3, hv', h4⟩ := hown0 _ _ h
                  refine hj (E.inj i j k' k r' r h1 hkj h2 hrj h3 hv' hv ?_ ▸ hi)
                  cases q with
                  | false => exact .inr (hq rfl)
                  | true => exact .inl (h4 rfl)
                · exact hF _ (own_any hkj hrj hv) h
              have own1 : ∀ q b, Own q (e ++ xs) (setBs H l H2 ++ H2.drop l.length) b → Own q (e0 ++ xs) H1 b ∨ (∃ j k r, j ∉ l ∧ blkAt H j = some k ∧ e[j]? = some r ∧ r.1 = b ∧ k.virt = false ∧ (q = true → k.win = none)) := by
                rintro q b ⟨j, k, r, h1, h2, h3, hv, h4⟩
                rcases from_ j k h1 with ⟨hj, hkj⟩ | ⟨i, hi, hki⟩
                · right
                  refine ⟨j, k, r, hj, hkj, ?_, h3, hv, h4⟩
                  have : j < H.length := (List.getElem?_eq_some_iff.1 (blkAt_some.1 hkj)).1
                  rwa [List.getElem?_append_left (by omega)] at h2
                · left
                  obtain ⟨k', g1, _, _, g4, g5⟩ := orig i k hki
                  obtain ⟨r', g2⟩ := E1.get g1
                  have := hb i j r' (congrArg some hi) g2
                  rw [h2] at this
                  cases this
                  exact ⟨i, k', r, g1, g2, h3, by rw [← Blk.virt_of g5 g4]; exact hv, fun hq => by rw [← Blk.win_of g5]; exact h4 hq⟩
              refine ⟨e ++ xs, F', rv, hen, hext, renV_den hb v0 v1 rv hv1 hd, ⟨?_, ?_, ?_, ?_⟩, hR', ?_, hK.mono (fun b hb => hb.imp (own0 _ b) id), ?_⟩
              · have := E1.len
                simp only [List.length_append, setBs_length, List.length_drop] at this ⊢
                omega
              · intro j k hj
                rcases from_ j k hj with ⟨hjl, hkj⟩ | ⟨i, hi, hki⟩
                · obtain ⟨r, cs, g1, g2, g3⟩ := E.lies j k hkj
                  refine ⟨r, cs, hext.get g1, denL_ext hext _ _ g2, g3.same fun hv => ?_⟩
                  obtain ⟨a1, a2⟩ := away true j k r hjl hkj g1 hv (fun h => by cases h)
                  exact hK.block r.1 a2 a1
                · obtain ⟨k', g1, g2, g3, g4, g5⟩ := orig i k hki
                  obtain ⟨r, cs, a1, a2, a3⟩ := E1.lies i k' g1
                  exact ⟨r, cs, hb i j r (congrArg some hi) a1, ren_real hb g2 g5 a2, a3.like g3 g4 g5⟩
              · intro i j k k' r r' h1 h2 h3 h4 h5 v1 v2
                have mixed : ∀ i j k k' r r', (i ∉ l ∧ blkAt H i = some k) → (∃ q, backId l H.length q = j ∧ H2[q]? = some (some k')) → (e ++ xs)[i]? = some r → (e ++ xs)[j]? = some r' → r.1 = r'.1 → k.virt = false → k'.virt = false → k.win.isSome = true ∧ k'.win.isSome = true := by
                  rintro i j k k' r r' ⟨h1, h2⟩ ⟨q, h3, h4⟩ h5 h6 h7 v1 v2
                  obtain ⟨kq, g1, _, _, g4, g5⟩ := orig q k' h4
                  obtain ⟨rq, g2⟩ := E1.get g1
                  have g3 := hb q j rq (congrArg some h3) g2
                  rw [h6] at g3
                  cases g3
                  have : i < H.length := (List.getElem?_eq_some_iff.1 (blkAt_some.1 h2)).1
                  rw [List.getElem?_append_left (by omega)] at h5
                  have bad : ∀ q', (q' = false → k.win = none) → (q' = true → kq.win = none) → False := by
                    intro q' hq1 hq2
                    obtain ⟨a1, a2⟩ := away q' i k r h1 h2 h5 v1 hq1
                    rcases hnew q' r'.1 (.inl ⟨q, kq, r', g1, g2, rfl, by rw [← Blk.virt_of g5 g4]; exact v2, hq2⟩) with h | h | h
                    · exact a1 (.inl (h7 ▸ h))
                    · exact a1 (.inr (h7 ▸ h))
                    · omega
                  rw [Blk.win_of g5]
                  constructor
                  · cases hk : k.win with
                    | some _ => rfl
                    | none => exact (bad false (fun _ => hk) (fun h => by cases h)).elim
                  · cases hk : kq.win with
                    | some _ => rfl
                    | none => exact (bad true (fun h => by cases h) (fun _ => hk)).elim
                rcases from_ i k h1 with g1 | g1 <;> rcases from_ j k' h2 with g2 | g2
                · have hi : i < H.length := (List.getElem?_eq_some_iff.1 (blkAt_some.1 g1.2)).1
                  have hj : j < H.length := (List.getElem?_eq_some_iff.1 (blkAt_some.1 g2.2)).1
                  rw [List.getElem?_append_left (by omega)] at h3 h4
                  exact E.alone i j k k' r r' g1.2 g2.2 h3 h4 h5 v1 v2
                · exact .inr (mixed i j k k' r r' g1 g2 h3 h4 h5 v1 v2)
                · exact .inr (mixed j i k' k r' r g2 g1 h4 h3 h5.symm v2 v1).symm
                · obtain ⟨p, p1, p2⟩ := g1
                  obtain ⟨q, q1, q2⟩ := g2
                  obtain ⟨kp, a1, _, _, u1, w1⟩ := orig p k p2
                  obtain ⟨kq, b1, _, _, u2, w2⟩ := orig q k' q2
                  rw [Blk.virt_of w1 u1] at v1
                  rw [Blk.virt_of w2 u2] at v2
                  obtain ⟨rp, a2⟩ := E1.get a1
                  obtain ⟨rq, b2⟩ := E1.get b1
                  have a3 := hb p i rp (congrArg some p1) a2
                  have b3 := hb q j rq (congrArg some q1) b2
                  rw [h3] at a3
                  rw [h4] at b3
                  cases a3; cases b3
                  rcases E1.alone p q kp kq r r' a1 b1 a2 b2 h5 v1 v2 with this | this
                  · left; rw [← p1, ← q1, this]
                  · right; rw [Blk.win_of w1, Blk.win_of w2]; exact this
              · intro j k hj
                rcases from_ j k hj with ⟨hjl, hkj⟩ | ⟨i, hi, hki⟩
                · exact E.ok j k hkj
                · obtain ⟨k', g1, g2, g3, g4, g5⟩ := orig i k hki
                  exact ren_ok g2 g5 (E1.ok i k' g1)
              · intro b hb' hf
                rcases own1 _ b hb' with h | ⟨j, k, r, h1, h2, h3, rfl, hv, _⟩
                · exact hF' b h hf
                · obtain ⟨a1, a2⟩ := away true j k r h1 h2 h3 hv (fun h => by cases h)
                  rcases hnew true r.1 (.inr hf) with h | h | h
                  · exact a1 (.inl h)
                  · exact a1 (.inr h)
                  · omega
              · intro q b hb'
                have fin : (Own q e0 H0 b ∨ F b ∨ w.heap.size ≤ b) → Own q e H b ∨ F b ∨ w.heap.size ≤ b := fun h => h.imp (own0 _ b) id
                rcases hb' with hb' | hb'
                · rcases own1 _ b hb' with h | ⟨j, k, r, h1, h2, h3, rfl, hv, h4⟩
                  · exact fin (hnew _ b (.inl h))
                  · exact .inl ⟨j, k, r, h2, h3, rfl, hv, h4⟩
                · exact fin (hnew _ b (.inr hb'))
            · cases hr2
          · cases hr2
      · cases h
/-! ### calls that leave no further blocks -/
mutual
theorem renC_mono {r r' : Nat → Option Nat} (h : ∀ i j, r i = some j → r' i = some j) : ∀ (c c' : C), renC r c = some c' → renC r' c = some c'
  | .bool b, c', hc => by simpa [renC] using hc
  | .int k n, c', hc => by simpa [renC] using hc
  | .nilp, c', hc => by simpa [renC] using hc
  | .nils, c', hc => by simpa [renC] using hc
  | .nilf, c', hc => by simpa [renC] using hc
  | .nili, c', hc => by simpa [renC] using hc
  | .nilm, c', hc => by simpa [renC] using hc
  | .port, c', hc => by simpa [renC] using hc
  | .mp b, c', hc => by simp only [renC] at hc ⊢; exact map_some_mono (fun x hx => h b x hx) hc
  | .ptr b o, c', hc => by simp only [renC] at hc ⊢; exact map_some_mono (fun x hx => h b x hx) hc
  | .sl b o n m, c', hc => by simp only [renC] at hc ⊢; exact map_some_mono (fun x hx => h b x hx) hc
  | .slg b o n, c', hc => by simp only [renC] at hc ⊢; exact map_some_mono (fun x hx => h b x hx) hc
  | .pr b o i n f, c', hc => by simp only [renC] at hc ⊢; exact map_some_mono (fun x hx => h b x hx) hc
  | .slw b o z n m, c', hc => by simp only [renC] at hc ⊢; exact map_some_mono (fun x hx => h b x hx) hc
  | .slr b n, c', hc => by simp only [renC] at hc ⊢; exact map_some_mono (fun x hx => h b x hx) hc
  | .slv b z o n, c', hc => by simp only [renC] at hc ⊢; exact map_some_mono (fun x hx => h b x hx) hc
  | .fn f caps, c', hc => by simp only [renC] at hc ⊢; exact map_some_mono (fun x hx => renCs_mono h caps x hx) hc
  | .meth s c, c', hc => by simp only [renC] at hc ⊢; exact map_some_mono (fun x hx => renC_mono h c x hx) hc
  | .ifc t c, c', hc => by simp only [renC] at hc ⊢; exact map_some_mono (fun x hx => renC_mono h c x hx) hc
theorem renCs_mono {r r' : Nat → Option Nat} (h : ∀ i j, r i = some j → r' i = some j) : ∀ (l l' : List C), renCs r l = some l' → renCs r' l = some l'
  | [], l', hl => by simpa [renCs] using hl
  | c :: l, l', hl => by
    simp only [renCs] at hl ⊢
    split at hl
    · rename_i c' hc
      split at hl
      · rename_i l2 hl2
        cases hl
        rw [renC_mono h c c' hc, renCs_mono h l l2 hl2]
      · cases hl
    · cases hl
end
theorem renV1_mono {r r' : Nat → Option Nat} (h : ∀ i j, r i = some j → r' i = some j) (x x' : V1) (hx : renV1 r x = some x') : renV1 r' x = some x' := by
  cases x with
  | c a => simp only [renV1] at hx ⊢; exact map_some_mono (fun y hy => renC_mono h a y hy) hx
  | agg l => simp only [renV1] at hx ⊢; exact map_some_mono (fun y hy => renCs_mono h l y hy) hx
theorem renV_mono {r r' : Nat → Option Nat} (h : ∀ i j, r i = some j → r' i = some j) (x x' : V) (hx : renV r x = some x') : renV r' x = some x' := by
  cases x with
  | c a => simp only [renV] at hx ⊢; exact map_some_mono (fun y hy => renC_mono h a y hy) hx
  | agg l => simp only [renV] at hx ⊢; exact map_some_mono (fun y hy => renCs_mono h l y hy) hx
  | tup l => simp only [renV] at hx ⊢; exact map_some_mono (fun y hy => allSome_mono (fun a b hab => renV1_mono h a b hab) l y hy) hx
theorem renB_mono {r r' : Nat → Option Nat} (h : ∀ i j, r i = some j → r' i = some j) (x : Option Blk) (y : Option Blk) (hx : renB r x = some y) : renB r' x = some y := by
  cases x with
  | none => simpa [renB] using hx
  | some k => simp only [renB] at hx ⊢; exact map_some_mono (fun y hy => renCs_mono h k.cells y hy) hx
theorem callK_call {Γ : Known} {A : List Nat} {f : FuncId} {args : List V} {H : Heap} {S : Sum} (h : evCallK Γ A f args H = some S) : ∃ f2, evCall Γ f args H = some ⟨S.α, S.t, f2, S.b, S.hb⟩ ∧ ∀ x q, S.f x = some q → f2 x = some q := by
  unfold evCallK at h
  unfold evCall
  split at h
  · cases h
  · rename_i m hm
    split at h
    · cases h
    · rename_i l hl
      split at h
      · cases h
      · split at h
        · rename_i args' H0 h1 h2
          split at h
          · cases h
          · rename_i S0 hS0
            cases h
            simp only [hm, hl, h1, h2, hS0]
            refine ⟨_, rfl, fun x q hq => ?_⟩
            split at hq
            · cases hq
            · rename_i r hr
              split at hq
              · rename_i v H1 hv hH1
                split at hq
                · rename_i hlen
                  cases hq
                  have hsub : ∀ i j, l[i]? = some j → (fun i => some (backId l H.length i)) i = some j := by
                    intro i j hij
                    have hi := (List.getElem?_eq_some_iff.1 hij).1
                    simp only [backId, if_pos hi, List.getD_eq_getElem?_getD, hij, Option.getD_some]
                  rw [renV_mono hsub _ _ hv, allSome_mono (fun a b hab => renB_mono hsub a b hab) _ _ hH1]
                  simp only [hlen, Nat.le_refl, if_true]
                  rw [← hlen, List.drop_length, List.append_nil]
                · cases hq
              · cases hq
        · cases h
end Go.Proofs.Ytjcdojcbdfblbaa.Lx
