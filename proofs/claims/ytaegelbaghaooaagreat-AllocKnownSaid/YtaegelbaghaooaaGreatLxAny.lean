/- The local executor: a region that draws its order, whole. -/
import Derived.Test.YtaegelbaghaooaaGreatLxSwap
namespace Go.Proofs.YtaegelbaghaooaaGreat.Lx
open Go
/-! ### what lies ahead of what -/
def maskOf (acc : Array Nat) (o : Oper) : Nat := o.after.foldl (fun s e => if Region.binds .any e then s ||| 2 ^ e.on ||| acc.getD e.on 0 else s) 0
theorem fold_bit (acc : Array Nat) (d : Nat) : ∀ (l : List Edge) (m : Nat), (l.foldl (fun s e => if Region.binds .any e then s ||| 2 ^ e.on ||| acc.getD e.on 0 else s) m).testBit d = true → m.testBit d = true ∨ ∃ e ∈ l, Region.binds .any e = true ∧ (e.on = d ∨ (acc.getD e.on 0).testBit d = true)
  | [], m, h => .inl h
  | e :: l, m, h => by
    rw [List.foldl_cons] at h
    rcases fold_bit acc d l _ h with h | ⟨e', h1, h2⟩
    · by_cases hb : Region.binds .any e = true
      · rw [if_pos hb] at h
        simp only [Nat.testBit_or, Bool.or_eq_true, Nat.testBit_two_pow, decide_eq_true_eq] at h
        rcases h with (h | h) | h
        · exact .inl h
        · exact .inr ⟨e, by simp, hb, .inl h⟩
        · exact .inr ⟨e, by simp, hb, .inr h⟩
      · rw [if_neg hb] at h
        exact .inl h
    · exact .inr ⟨e', by simp [h1], h2⟩
theorem before_list : ∀ (l p : List Oper) (acc : Array Nat), acc.size = p.length → (∀ (i : Nat) o d, p[i]? = some o → (acc.getD i 0).testBit d = true → ∃ e ∈ o.after.toList, Region.binds .any e = true ∧ (e.on = d ∨ (acc.getD e.on 0).testBit d = true)) →
    ∀ (i : Nat) o d, (p ++ l)[i]? = some o → ((l.foldl (fun acc o => acc.push (maskOf acc o)) acc).getD i 0).testBit d = true →
      ∃ e ∈ o.after.toList, Region.binds .any e = true ∧ (e.on = d ∨ ((l.foldl (fun acc o => acc.push (maskOf acc o)) acc).getD e.on 0).testBit d = true)
  | [], p, acc, hs, h, i, o, d, hi, hb => h i o d (by simpa using hi) hb
  | x :: l, p, acc, hs, h, i, o, d, hi, hb => by
    rw [List.foldl_cons] at hb ⊢
    refine before_list l (p ++ [x]) (acc.push (maskOf acc x)) (by simp [hs]) (fun i o d hi hb => ?_) i o d (by simpa using hi) hb
    have old : ∀ j, j < acc.size → (acc.push (maskOf acc x)).getD j 0 = acc.getD j 0 := by
      intro j hj
      simp only [Array.getD_eq_getD_getElem?, Array.getElem?_push, if_neg (Nat.ne_of_lt hj)]
    have keep : ∀ j d, (acc.getD j 0).testBit d = true → ((acc.push (maskOf acc x)).getD j 0).testBit d = true := by
      intro j d hj
      by_cases hlt : j < acc.size
      · rw [old j hlt]; exact hj
      · rw [Array.getD_eq_getD_getElem?, Array.getElem?_eq_none (by omega)] at hj
        simp at hj
    by_cases hlt : i < p.length
    · rw [List.getElem?_append_left hlt] at hi
      rw [old i (by omega)] at hb
      obtain ⟨e, h1, h2, h3⟩ := h i o d hi hb
      exact ⟨e, h1, h2, h3.imp id (keep _ _)⟩
    · have hi' : i = p.length := by
        have := (List.getElem?_eq_some_iff.1 hi).1
        simp at this
        omega
      subst hi'
      simp at hi
      subst hi
      have e1 : (acc.push (maskOf acc x)).getD p.length 0 = maskOf acc x := by
        rw [← hs]
        simp [Array.getD_eq_getD_getElem?]
      rw [e1] at hb
      unfold maskOf at hb
      rw [← Array.foldl_toList] at hb
      rcases fold_bit acc d _ _ hb with hb | ⟨e, h1, h2, h3⟩
      · simp at hb
      · exact ⟨e, h1, h2, h3.imp id (keep _ _)⟩
theorem before_spec (ops : Array Oper) (i : Nat) (o : Oper) (d : Nat) (hi : ops[i]? = some o) (hb : ((Region.before ops).getD i 0).testBit d = true) :
    ∃ e ∈ o.after.toList, Region.binds .any e = true ∧ (e.on = d ∨ ((Region.before ops).getD e.on 0).testBit d = true) := by
  have e1 : Region.before ops = ops.toList.foldl (fun acc o => acc.push (maskOf acc o)) #[] := by
    unfold Region.before
    rw [← Array.foldl_toList]
    rfl
  rw [e1] at hb ⊢
  exact before_list ops.toList [] #[] rfl (fun i o d h => by simp at h) i o d (by simpa using hi) hb
/-- nothing that is not listed lies ahead of what is ready. -/
theorem not_before {ops : Array Oper} {S : Nat → Prop} (hS : ∀ (j : Nat) o, S j → ops[j]? = some o → ∀ e ∈ o.after.toList, Region.binds .any e = true → S e.on)
    (hdec : ∀ (j : Nat) o, ops[j]? = some o → ∀ e ∈ o.after.toList, Region.binds .any e = true → e.on < j) : ∀ (n i : Nat) o, i ≤ n → ops[i]? = some o → (∀ e ∈ o.after.toList, Region.binds .any e = true → S e.on) → ∀ d, ¬ S d → ((Region.before ops).getD i 0).testBit d = false
  | 0, i, o, hn, hi, hr, d, hd => by
    obtain rfl : i = 0 := by omega
    cases hb : ((Region.before ops).getD 0 0).testBit d with
    | false => rfl
    | true =>
      obtain ⟨e, h1, h2, _⟩ := before_spec ops 0 o d hi hb
      exact absurd (hdec 0 o hi e h1 h2) (by omega)
  | n + 1, i, o, hn, hi, hr, d, hd => by
    cases hb : ((Region.before ops).getD i 0).testBit d with
    | false => rfl
    | true =>
      obtain ⟨e, h1, h2, h3⟩ := before_spec ops i o d hi hb
      have hlt := hdec i o hi e h1 h2
      have hSe := hr e h1 h2
      rcases h3 with h3 | h3
      · exact absurd (h3 ▸ hSe) hd
      · have hlt' : e.on < ops.size := by have := (Array.getElem?_eq_some_iff.1 hi).1; omega
        have hoe := Array.getElem?_eq_getElem hlt'
        rw [not_before hS hdec n e.on _ (by omega) hoe (fun e' h4 h5 => hS e.on _ hSe hoe e' h4 h5) d hd] at h3
        cases h3
theorem before_lt {ops : Array Oper} (hdec : ∀ (j : Nat) o, ops[j]? = some o → ∀ e ∈ o.after.toList, Region.binds .any e = true → e.on < j) : ∀ (n i d : Nat), i ≤ n → i ≤ d → i < ops.size → ((Region.before ops).getD i 0).testBit d = false
  | n, i, d, hn, hd, hi => not_before (S := fun j => j < i) (fun j o hj ho e h1 h2 => by have := hdec j o ho e h1 h2; omega) hdec i i _ (Nat.le_refl _) (Array.getElem?_eq_getElem hi) (fun e h1 h2 => hdec i _ (Array.getElem?_eq_getElem hi) e h1 h2) d (by omega)
section
variable {P : Program} {σ : Type} {I : Port P σ} {Γ : Known} {S0 : Nat → Prop} {w0 : World} {e0 : Env} {ops : Array Oper} {β : Type} {k : St → T β} {b : Array Nat}
theorem run_evDraw {A : List (Nat × Nat)} {i : Nat} {o : Oper} {l : List Nat} {tmps : Tm} {H : Heap} {s : σ} (ho : ops[i]? = some o) : (evDraw P Γ ops b A (i :: l) ⟨tmps, H⟩ k).run I.step s = match valO Γ I ops (modeOf ops b A i) o tmps H s with
    | some r => (evDraw P Γ ops b A l ⟨putT tmps o.dst r.1, r.2.1⟩ k).run I.step r.2.2
    | none => none := by
  simp only [evDraw, ho]
  rw [evOper_bind, T.run_bind, run_evOper]
  cases valO Γ I ops (modeOf ops b A i) o tmps H s <;> rfl
/-- a state that stands for some frame and world. -/
def Alive (I : Port P σ) (st : St) (s : σ) : Prop := ∃ S0 w0 e0 e F a w, Cfg I S0 w0 e0 e st s F a w
theorem wp_exists {o : Oper} {K : Act → World → Prop} {a : Act} {w : World} (h : wpOper P ops (fun _ _ _ => False) o K a w) : ∃ a' w', K a' w' := by
  unfold wpOper at h
  split at h
  · unfold Oper.wp at h
    generalize (execOp a.eval o).run P w = r at h
    cases r with
    | ok n w' =>
      cases n <;> simp only [Oper.upon] at h <;> first
        | exact ⟨_, _, h⟩
        | (obtain ⟨en, w'', fr, hR, _⟩ := h []
           cases en <;> simp only at hR <;> first
            | exact ⟨_, _, hR⟩
            | exact hR.elim
            | (obtain ⟨_, _, h⟩ := hR; exact h.elim))
        | (obtain ⟨v, w'', hR, _⟩ := h default []; exact ⟨_, _, hR⟩)
        | exact h.elim
    | halt x w' => cases x <;> simp only [Oper.upon] at h
  · exact ⟨_, _, h⟩
theorem Alive.next (hΓ : ∀ f m, Γ f = some m → SoundF I f m) {pu : PM} {o : Oper} {tmps : Tm} {H : Heap} {s : σ} {r : V × Heap × σ} (h : Alive I ⟨tmps, H⟩ s) (hv : valO Γ I ops pu o tmps H s = some r) : Alive I ⟨putT tmps o.dst r.1, r.2.1⟩ r.2.2 := by
  obtain ⟨S0, w0, e0, e, F, a, w, C⟩ := h
  have hrun : (evOper P Γ ops pu o ⟨tmps, H⟩ T.ret).run I.step s = some ((⟨putT tmps o.dst r.1, r.2.1⟩ : St), r.2.2) := by rw [run_evOper, hv]; rfl
  obtain ⟨st', s', h1, _, h3⟩ := evOper_sound hΓ C hrun
  simp only [T.run, Option.some.injEq, Prod.mk.injEq] at h1
  obtain ⟨rfl, rfl⟩ := h1
  obtain ⟨a', w', e', F', C'⟩ := wp_exists (h3 (fun a' w' => ∃ e' F', Cfg I S0 w0 e0 e' ⟨putT tmps o.dst r.1, r.2.1⟩ r.2.2 F' a' w') _ fun e' F' a' w' C' => ⟨e', F', C'⟩)
  exact ⟨S0, w0, e0, e', F', a', w', C'⟩
theorem Alive.ptr {tmps : Tm} {H : Heap} {s : σ} (h : Alive I ⟨tmps, H⟩ s) : ∀ t b p, getT tmps t = some (.c (.ptr b p)) → b < H.length := by
  obtain ⟨S0, w0, e0, e, F, a, w, C⟩ := h
  intro t b p hb
  obtain ⟨rv, _, h2⟩ := C.rel.tmps t _ hb
  simp only [denV, den, Option.map_eq_some_iff] at h2
  obtain ⟨r, h3, _⟩ := h2
  have := C.rel.emb.len
  simp only at this
  rw [this]
  exact (List.getElem?_eq_some_iff.1 h3).1
/-- operations i and j (i ahead of j in the text) may be swapped. -/
def Swaps (ops : Array Oper) (b : Array Nat) (A : List (Nat × Nat)) (i j : Nat) : Prop := ∃ x y, ops[i]? = some x ∧ ops[j]? = some y ∧ swapOk ops x y = true ∧
  (kindO x.op = 3 → (kindO y.op = 1 ∨ kindO y.op = 2) → modeOf ops b A i = .pure ∨ ∃ q B, kindO y.op = 1 ∧ heldAddr ops y.op = some q ∧ modeOf ops b A i = .avoid B ∧ ∀ c, (q, c) ∈ A → c ∈ B) ∧
  (kindO y.op = 3 → (kindO x.op = 1 ∨ kindO x.op = 2) → modeOf ops b A j = .pure ∨ ∃ q B, kindO x.op = 1 ∧ heldAddr ops x.op = some q ∧ modeOf ops b A j = .avoid B ∧ ∀ c, (q, c) ∈ A → c ∈ B)
/-- what slots with addresses that loads look at hold, is listed. -/
def HeldA (ops : Array Oper) (A : List (Nat × Nat)) (tmps : Tm) : Prop := ∀ (i : Nat) o q, ops[i]? = some o → heldAddr ops o.op = some q → ∀ b p, getT tmps q = some (.c (.ptr b p)) → (q, b) ∈ A
theorem heldAddr_eq {o : Op} {q : Nat} (h : heldAddr ops o = some q) : (∃ ty, o = .load ty (.tmp q)) ∧ ∀ (i : Nat) x, ops[i]? = some x → x.dst ≠ some q := by
  unfold heldAddr at h
  split at h
  · rename_i ty q'
    split at h
    · rename_i hall
      cases h
      refine ⟨⟨ty, rfl⟩, fun i x hx => ?_⟩
      rw [List.all_eq_true] at hall
      have := hall x (by rw [Array.mem_toList_iff]; exact Array.mem_of_getElem? hx)
      simpa using this
    · cases h
  · cases h
theorem HeldA.put {A : List (Nat × Nat)} {tmps : Tm} (h : HeldA ops A tmps) {j : Nat} {o : Oper} (ho : ops[j]? = some o) (v : V) : HeldA ops A (putT tmps o.dst v) := by
  intro i x q hx hq b p hg
  refine h i x q hx hq b p ?_
  have hne := (heldAddr_eq hq).2 j o ho
  cases hd : o.dst with
  | none => rw [hd] at hg; exact hg
  | some d =>
    rw [hd] at hg hne
    have : q ≠ d := fun hh => hne (by rw [hh])
    simp only [putT, getT_setT_ne _ _ this] at hg
    exact hg
theorem HeldA.avoids {A : List (Nat × Nat)} {tmps : Tm} (h : HeldA ops A tmps) {i : Nat} {x : Oper} (hx : ops[i]? = some x) {pu : PM} (hp : pu = .pure ∨ ∃ q B, kindO x.op = 1 ∧ heldAddr ops x.op = some q ∧ pu = .avoid B ∧ ∀ c, (q, c) ∈ A → c ∈ B) : pu = .pure ∨ Avoids tmps pu x := by
  rcases hp with hp | ⟨q, B, h1, h2, h3, h4⟩
  · exact .inl hp
  · refine .inr ⟨h1, B, h3, fun ty t b p hop hg => h4 b ?_⟩
    obtain ⟨⟨ty', h5⟩, _⟩ := heldAddr_eq h2
    rw [h5] at hop
    cases hop
    exact h i x q hx h2 b p hg
theorem draw_front (hΓ : ∀ f m, Γ f = some m → SoundF I f m) {A : List (Nat × Nat)} {j : Nat} {r : β × σ} {l2 : List Nat} : ∀ (l1 : List Nat) (tmps : Tm) (H : Heap) (s : σ), (∀ i ∈ l1, Swaps ops b A i j) → HeldA ops A tmps → Alive I ⟨tmps, H⟩ s →
    (evDraw P Γ ops b A (l1 ++ j :: l2) ⟨tmps, H⟩ k).run I.step s = some r → (evDraw P Γ ops b A (j :: (l1 ++ l2)) ⟨tmps, H⟩ k).run I.step s = some r
  | [], tmps, H, s, hs, hA, ha, h => h
  | i :: l1, tmps, H, s, hs, hA, ha, h => by
    obtain ⟨x, y, hx, hy, hok, hp1, hp2⟩ := hs i (by simp)
    rw [List.cons_append, run_evDraw hx] at h
    split at h
    · rename_i rx hrx
      have ih := draw_front hΓ l1 _ _ _ (fun i' hi' => hs i' (by simp [hi'])) (hA.put hx _) (ha.next hΓ hrx) h
      rw [run_evDraw hy] at ih
      split at ih
      · rename_i ry hry
        simp only [swapOk, Bool.and_eq_true] at hok
        obtain ⟨a1, a2, a3⟩ := Oper.apart_spec hok.2
        rw [valO_put (fun d hd => a1 d hd)] at hry
        obtain ⟨H1, s1, g1, g2⟩ := swap_val (vx := rx.1) (vy := ry.1) (Hx := rx.2.1) (Hy := ry.2.1) (sx := rx.2.2) (sy := ry.2.2) hok.1 hrx hry (fun k3 k12 => hA.avoids hy (hp1 k3 k12)) (fun k3 k12 => hA.avoids hx (hp2 k3 k12)) ha.ptr
        rw [run_evDraw hy, g1]
        simp only
        rw [List.cons_append, run_evDraw hx, valO_put (fun d hd => a3 d hd), g2]
        simp only
        rw [putT_comm _ _ _ (fun d hd he => a2 d he hd)] 
        exact ih
      · cases ih
    · cases h

theorem zip_mem {ops : Array Oper} {i : Nat} {o : Oper} (h : ops[i]? = some o) : (o, i) ∈ ops.toList.zipIdx := by
  rw [List.mem_zipIdx_iff_getElem?]
  simpa using h
theorem region_dec {ops : Array Oper} (hok : regionOk ops b = true) : ∀ (j : Nat) o, ops[j]? = some o → ∀ e ∈ o.after.toList, Region.binds .any e = true → e.on < j := by
  intro j o ho e he hb
  unfold regionOk at hok
  simp only [Bool.and_eq_true, List.all_eq_true] at hok
  have h1 := hok.1 (o, j) (zip_mem ho)
  simp only [Array.all_eq_true_iff_forall_mem] at h1
  have h2 := h1 e (by simpa using he)
  simp only [hb, Bool.not_true, Bool.false_or, decide_eq_true_eq] at h2
  exact h2
theorem region_swap {ops : Array Oper} (hok : regionOk ops b = true) {i j : Nat} {x y : Oper} (hx : ops[i]? = some x) (hy : ops[j]? = some y) (hij : i < j) (hb : (b.getD j 0).testBit i = false) : swapOk ops x y = true := by
  unfold regionOk at hok
  simp only [Bool.and_eq_true, List.all_eq_true] at hok
  have h1 := hok.2 (y, j) (zip_mem hy) (x, i) (zip_mem hx)
  simp only [hij, decide_true, Bool.not_true, Bool.false_or, hb] at h1
  exact h1
theorem mode_of {b : Array Nat} {A : List (Nat × Nat)} {i j : Nat} {x y : Oper} (hx : ops[i]? = some x) (hy : ops[j]? = some y) (k3 : kindO x.op = 3) (k12 : kindO y.op = 1 ∨ kindO y.op = 2) (hne : j ≠ i) (ho : ordered b j i = false) :
    modeOf ops b A i = .pure ∨ ∃ q B, kindO y.op = 1 ∧ heldAddr ops y.op = some q ∧ modeOf ops b A i = .avoid B ∧ ∀ c, (q, c) ∈ A → c ∈ B := by
  unfold modeOf
  rw [hx]
  simp only [k3, beq_self_eq_true, if_true]
  split
  · exact .inl rfl
  · rename_i hany
    simp only [Bool.not_eq_true, List.any_eq_false] at hany
    have hy' := hany (y, j) (zip_mem hy)
    have hji : (j != i) = true := by simpa using hne
    simp only [ho, hji, Bool.not_false, Bool.true_and] at hy'
    have n2 : ¬ kindO y.op = 2 := fun h2 => by rw [h2] at hy'; simp at hy'
    have hk1 : kindO y.op = 1 := k12.resolve_right n2
    have hsome : (heldAddr ops y.op).isNone = false := by
      cases hh : (heldAddr ops y.op).isNone with
      | false => rfl
      | true => rw [hk1, hh] at hy'; simp at hy'
    cases hq : heldAddr ops y.op with
    | none => rw [hq] at hsome; simp at hsome
    | some q =>
      have hmem : q ∈ besides ops b i := by
        unfold besides
        rw [List.mem_filterMap]
        refine ⟨(y, j), zip_mem hy, ?_⟩
        simp [ho, hne, hk1, hq]
      right
      split
      · rename_i hb; rw [hb] at hmem; cases hmem
      · rename_i q0 l hb
        refine ⟨q, _, hk1, rfl, rfl, fun c hc => ?_⟩
        rw [List.mem_map]
        refine ⟨(q, c), ?_, rfl⟩
        rw [List.mem_filter]
        refine ⟨hc, ?_⟩
        rw [← hb]
        simpa using hmem
theorem heldA_begin (tmps : Tm) : HeldA ops (avoidA ops tmps) tmps := by
  intro i o q hx hq b p hg
  unfold avoidA
  rw [List.mem_filterMap]
  exact ⟨o, by rw [Array.mem_toList_iff]; exact Array.mem_of_getElem? hx, by simp only [hq, hg]⟩
theorem draw_any (hΓ : ∀ f m, Γ f = some m → SoundF I f m) {A : List (Nat × Nat)} (hok : regionOk ops (Region.before ops) = true) {r : β × σ} {Q : Exit → Act → World → Prop} (hQ : ∀ e' st' s' F' a' w', (k st').run I.step s' = some r → Cfg I S0 w0 e0 e' st' s' F' a' w' → Q .normal a' w') :
    ∀ (n : Nat) (L : List Nat) (listed : Array Bool) (e : Env) (st : St) (s : σ) (F : Nat → Prop) (a : Act) (w : World), L.length = n → listed.size = ops.size → (∀ i, i < ops.size → (i ∈ L ↔ listed[i]? = some false)) → (∀ i ∈ L, i < ops.size) → L.Pairwise (· < ·) →
      (∀ (j : Nat) o, listed[j]? = some true → ops[j]? = some o → ∀ e ∈ o.after.toList, Region.binds .any e = true → listed[e.on]? = some true) →
      HeldA ops A st.tmps → Cfg I S0 w0 e0 e st s F a w → (evDraw P Γ ops (Region.before ops) A L st k).run I.step s = some r → wpAny P .any ops Q n listed a w
  | 0, L, listed, e, st, s, F, a, w, hn, hsz, hL, hlt, hp, hcl, hA, C, h => by
    obtain rfl := List.length_eq_zero_iff.1 hn
    refine ⟨?_, hQ e st s F a w h C⟩
    unfold Region.ready
    rw [List.filter_eq_nil_iff]
    intro i hi
    have hi' : i < ops.size := by simpa using hi
    have : ¬ listed[i]? = some false := fun h => by have := (hL i hi').2 h; cases this
    have hget : listed[i]? = some listed[i] := Array.getElem?_eq_getElem (by omega)
    rw [hget] at this
    have ht : listed[i] = true := by
      cases hh : listed[i] with
      | true => rfl
      | false => rw [hh] at this; exact absurd rfl this
    simp [Array.getD_eq_getD_getElem?, hget, ht]
  | n + 1, L, listed, e, st, s, F, a, w, hn, hsz, hL, hlt, hp, hcl, hA, C, h => by
    have hdec := region_dec hok
    have isT : ∀ i, i < ops.size → i ∉ L → listed[i]? = some true := by
      intro i hi hni
      have h1 : ¬ listed[i]? = some false := fun h => hni ((hL i hi).2 h)
      have hget : listed[i]? = some listed[i] := Array.getElem?_eq_getElem (by omega)
      rw [hget] at h1 ⊢
      cases hh : listed[i] with
      | true => rfl
      | false => rw [hh] at h1; exact absurd rfl h1
    refine ⟨fun hr => ?_, fun i hi => ?_⟩
    · exfalso
      cases L with
      | nil => simp at hn
      | cons i0 L' =>
        have h0 := hlt i0 (by simp)
        have hmem : i0 ∈ Region.ready .any ops listed := by
          unfold Region.ready
          rw [List.mem_filter]
          refine ⟨by simpa using h0, ?_⟩
          have hf := (hL i0 h0).1 (by simp)
          have ho := Array.getElem?_eq_getElem h0
          rw [ho]
          simp only [Array.getD_eq_getD_getElem?, hf, Option.getD_some, Bool.not_false, Bool.true_and, Option.map_some, Array.all_eq_true_iff_forall_mem]
          intro e he
          by_cases hb : Region.binds .any e = true
          · have hlt' := hdec i0 _ ho e (by simpa using he) hb
            have : e.on ∉ i0 :: L' := by
              intro hm
              rcases List.mem_cons.1 hm with hm | hm
              · omega
              · have := (List.pairwise_cons.1 hp).1 e.on hm; omega
            rw [isT e.on (by omega) this]
            simp
          · simp [hb]
        rw [hr] at hmem
        cases hmem
    · unfold Region.ready at hi
      rw [List.mem_filter] at hi
      obtain ⟨hi1, hi2⟩ := hi
      have hi1 : i < ops.size := by simpa using hi1
      have ho := Array.getElem?_eq_getElem hi1
      rw [ho] at hi2
      simp only [Bool.and_eq_true, Option.map_some, Option.getD_some, Array.all_eq_true_iff_forall_mem] at hi2
      have hget : listed[i]? = some listed[i] := Array.getElem?_eq_getElem (by omega)
      have hfalse : listed[i]? = some false := by
        have := hi2.1
        rw [Array.getD_eq_getD_getElem?, hget] at this
        rw [hget]
        simpa using this
      have hiL := (hL i hi1).2 hfalse
      have hdeps : ∀ e ∈ (ops[i]).after.toList, Region.binds .any e = true → listed[e.on]? = some true := by
        intro e he hb
        have := hi2.2 e (by simpa using he)
        simp only [hb, Bool.not_true, Bool.false_or, Array.getD_eq_getD_getElem?] at this
        cases hh : listed[e.on]? with
        | none => rw [hh] at this; simp at this
        | some t => rw [hh] at this; simp at this; rw [this]
      obtain ⟨l1, l2, rfl⟩ := List.append_of_mem hiL
      have hpw := List.pairwise_append.1 hp
      have hpc := List.pairwise_cons.1 hpw.2.1
      have hswap : ∀ d ∈ l1, Swaps ops (Region.before ops) A d i := by
        intro d hd
        have hdi : d < i := hpw.2.2 d hd i (by simp)
        have hds := hlt d (by simp [hd])
        have hod := Array.getElem?_eq_getElem hds
        have hdf := (hL d hds).1 (by simp [hd])
        have hnb : ((Region.before ops).getD i 0).testBit d = false := not_before (S := fun j => listed[j]? = some true) hcl hdec i i _ (Nat.le_refl _) ho hdeps d (by rw [hdf]; simp)
        have hnb2 : ((Region.before ops).getD d 0).testBit i = false := before_lt hdec d d i (Nat.le_refl _) (by omega) hds
        refine ⟨_, _, hod, ho, region_swap hok hod ho hdi hnb, fun k3 k12 => ?_, fun k3 k12 => ?_⟩
        · exact mode_of hod ho k3 k12 (by omega) (by simp only [ordered, hnb, hnb2, Bool.or_self])
        · exact mode_of ho hod k3 k12 (by omega) (by simp only [ordered, hnb, hnb2, Bool.or_self])
      obtain ⟨tmps, H⟩ := st
      have hfront := draw_front hΓ l1 tmps H s hswap hA ⟨S0, w0, e0, e, F, a, w, C⟩ h
      simp only [evDraw, ho] at hfront
      obtain ⟨st', s', g1, g2, g3⟩ := evOper_sound hΓ C hfront
      have hA' : HeldA ops A st'.tmps := by
        rw [run_evOper] at g2
        rw [Option.map_eq_some_iff] at g2
        obtain ⟨rr, _, hrr⟩ := g2
        cases hrr
        exact hA.put ho _
      have key := g3 (wpAny P .any ops Q n (listed.setIfInBounds i true)) Q fun e' F' a' w' C' => by
        have hset : ∀ j, (listed.setIfInBounds i true)[j]? = if i = j then some true else listed[j]? := by
          intro j
          rw [Array.getElem?_setIfInBounds]
          split
          · rename_i hij; rw [if_pos (by omega)]
          · rfl
        refine draw_any hΓ hok hQ n (l1 ++ l2) _ e' st' s' F' a' w' (by simp only [List.length_append, List.length_cons] at hn ⊢; omega) (by simp [hsz]) (fun j hj => ?_) (fun j hj => hlt j (by rcases List.mem_append.1 hj with h | h <;> simp [h])) ?_ (fun j o hj hoj e he hb => ?_) hA' C' g1
        · rw [hset]
          by_cases hij : i = j
          · subst hij
            rw [if_pos rfl]
            constructor
            · intro hm
              rcases List.mem_append.1 hm with hm | hm
              · have := hpw.2.2 i hm i (by simp); omega
              · have := hpc.1 i hm; omega
            · intro hm; cases hm
          · rw [if_neg hij, ← hL j hj]
            simp only [List.mem_append, List.mem_cons]
            constructor
            · rintro (hm | hm)
              · exact .inl hm
              · exact .inr (.inr hm)
            · rintro (hm | hm | hm)
              · exact .inl hm
              · exact absurd hm.symm hij
              · exact .inr hm
        · rw [List.pairwise_append]
          exact ⟨hpw.1, hpc.2, fun x hx y hy => hpw.2.2 x hx y (by simp [hy])⟩
        · rw [hset] at hj ⊢
          split
          · rfl
          · split at hj
            · rename_i hij
              subst hij
              rw [ho] at hoj
              cases hoj
              exact hdeps e he hb
            · exact hcl j o hj hoj e he hb
      unfold wpOper at key
      unfold wpOp
      rw [ho]
      simp only
      split
      · rename_i hw; rw [if_pos hw] at key; exact .inl key
      · rename_i hw; rw [if_neg hw] at key; exact key
theorem evDraw_sound (hΓ : ∀ f m, Γ f = some m → SoundF I f m) (hm : P.follows .mixedOrders = true) (hok : regionOk ops (Region.before ops) = true) {r : β × σ} {Q : Exit → Act → World → Prop} (hQ : ∀ e' st' s' F' a' w', (k st').run I.step s' = some r → Cfg I S0 w0 e0 e' st' s' F' a' w' → Q .normal a' w') {id : Nat}
    {e : Env} {st : St} {s : σ} {F : Nat → Prop} {a : Act} {w : World} (C : Cfg I S0 w0 e0 e st s F a { w with drawn := w.drawn + 1 }) (h : (evDraw P Γ ops (Region.before ops) (avoidA ops st.tmps) (List.range ops.size) st k).run I.step s = some r) : (Code.region id ops true).wp P Q a w := by
  refine wp_region_any hm (draw_any hΓ hok hQ ops.size (List.range ops.size) _ e st s F a _ (by simp) (by simp) (fun i hi => ?_) (fun i hi => by simpa using hi) List.pairwise_lt_range (fun j o hj => ?_) (heldA_begin _) C h)
  · simp [hi]
  · rw [Array.getElem?_replicate] at hj
    split at hj <;> simp at hj
end
end Go.Proofs.YtaegelbaghaooaaGreat.Lx
