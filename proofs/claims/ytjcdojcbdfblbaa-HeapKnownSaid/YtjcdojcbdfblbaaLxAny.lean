/- The local executor: a region that draws its order, whole. -/
import Derived.Test.YtjcdojcbdfblbaaLxSwap
namespace Go.Proofs.Ytjcdojcbdfblbaa.Lx
open Go
/-! ### what lies ahead of what -/
def maskOf (acc : Array Nat) (o : Oper) : Nat := o.after.foldl (fun s e => if Region.binds .any e then s ||| 2 ^ e.on ||| acc.getD e.on 0 else s) 0
theorem fold_bit (acc : Array Nat) (d : Nat) : ∀ (l : List Edge) (m : Nat), (l.foldl (fun s e => if Region.binds .any e then s ||| 2 ^ e.on ||| acc.getD e.on 0 else s) m).testBit d = true → m.testBit d = true ∨ ∃ e ∈ l, Region.binds .any e = true ∧ (e.on = d ∨ (acc.getD e.on 0).testBit d = true)
  | [], m, h => .inl h
  | e :: l, m, h => by
    rw [List.foldl_cons] at h
    rcases fold_bit acc d l _ h with h | ⟨e', h1, h2⟩
    · by_cases hb : Region.binds .any e = true
      · rw [if_pos hb] at h
        simp only [Nat.testBit_or, Bool.or_eq_true, Nat.testBit_two_pow, decide_eq_true_eq] at h
        rcases h with (h | h) | h
        · exact .inl h
        · exact .inr ⟨e, by simp, hb, .inl h⟩
        · exact .inr ⟨e, by simp, hb, .inr h⟩
      · rw [if_neg hb] at h
        exact .inl h
    · exact .inr ⟨e', by simp [h1], h2⟩
theorem before_list : ∀ (l p : List Oper) (acc : Array Nat), acc.size = p.length → (∀ (i : Nat) o d, p[i]? = some o → (acc.getD i 0).testBit d = true → ∃ e ∈ o.after.toList, Region.binds .any e = true ∧ (e.on = d ∨ (acc.getD e.on 0).testBit d = true)) →
    ∀ (i : Nat) o d, (p ++ l)[i]? = some o → ((l.foldl (fun acc o => acc.push (maskOf acc o)) acc).getD i 0).testBit d = true →
      ∃ e ∈ o.after.toList, Region.binds .any e = true ∧ (e.on = d ∨ ((l.foldl (fun acc o => acc.push (maskOf acc o)) acc).getD e.on 0).testBit d = true)
  | [], p, acc, hs, h, i, o, d, hi, hb => h i o d (by simpa using hi) hb
  | x :: l, p, acc, hs, h, i, o, d, hi, hb => by
    rw [List.foldl_cons] at hb ⊢
    refine before_list l (p ++ [x]) (acc.push (maskOf acc x)) (by simp [hs]) (fun i o d hi hb => ?_) i o d (by simpa using hi) hb
    have old : ∀ j, j < acc.size → (acc.push (maskOf acc x)).getD j 0 = acc.getD j 0 := by
      intro j hj
      simp only [Array.getD_eq_getD_getElem?, Array.getElem?_push, if_neg (Nat.ne_of_lt hj)]
    have keep : ∀ j d, (acc.getD j 0).testBit d = true → ((acc.push (maskOf acc x)).getD j 0).testBit d = true := by
      intro j d hj
      by_cases hlt : j < acc.size
      · rw [old j hlt]; exact hj
      · rw [Array.getD_eq_getD_getElem?, Array.getElem?_eq_none (by omega)] at hj
        simp at hj
    by_cases hlt : i < p.length
    · rw [List.getElem?_append_left hlt] at hi
      rw [old i (by omega)] at hb
      obtain ⟨e, h1, h2, h3⟩ := h i o d hi hb
      exact ⟨e, h1, h2, h3.imp id (keep _ _)⟩
    · have hi' : i = p.length := by
        have := (List.getElem?_eq_some_iff.1 hi).1
        simp at this
        omega
      subst hi'
      simp at hi
      subst hi
      have e1 : (acc.push (maskOf acc x)).getD p.length 0 = maskOf acc x := by
        rw [← hs]
        simp [Array.getD_eq_getD_getElem?]
      rw [e1] at hb
      unfold maskOf at hb
      rw [← Array.foldl_toList] at hb
      rcases fold_bit acc d _ _ hb with hb | ⟨e, h1, h2, h3⟩
      · simp at hb
      · exact ⟨e, h1, h2, h3.imp id (keep _ _)⟩
theorem before_spec (ops : Array Oper) (i : Nat) (o : Oper) (d : Nat) (hi : ops[i]? = some o) (hb : ((Region.before ops).getD i 0).testBit d = true) :
    ∃ e ∈ o.after.toList, Region.binds .any e = true ∧ (e.on = d ∨ ((Region.before ops).getD e.on 0).testBit d = true) := by
  have e1 : Region.before ops = ops.toList.foldl (fun acc o => acc.push (maskOf acc o)) #[] := by
    unfold Region.before
    rw [← Array.foldl_toList]
    rfl
  rw [e1] at hb ⊢
  exact before_list ops.toList [] #[] rfl (fun i o d h => by simp at h) i o d (by simpa using hi) hb
/-- nothing that is not listed lies ahead of what is ready. -/
theorem not_before {ops : Array Oper} {S : Nat → Prop} (hS : ∀ (j : Nat) o, S j → ops[j]? = some o → ∀ e ∈ o.after.toList, Region.binds .any e = true → S e.on)
    (hdec : ∀ (j : Nat) o, ops[j]? = some o → ∀ e ∈ o.after.toList, Region.binds .any e = true → e.on < j) : ∀ (n i : Nat) o, i ≤ n → ops[i]? = some o → (∀ e ∈ o.after.toList, Region.binds .any e = true → S e.on) → ∀ d, ¬ S d → ((Region.before ops).getD i 0).testBit d = false
  | 0, i, o, hn, hi, hr, d, hd => by
    obtain rfl : i = 0 := by omega
    cases hb : ((Region.before ops).getD 0 0).testBit d with
    | false => rfl
    | true =>
      obtain ⟨e, h1, h2, _⟩ := before_spec ops 0 o d hi hb
      exact absurd (hdec 0 o hi e h1 h2) (by omega)
  | n + 1, i, o, hn, hi, hr, d, hd => by
    cases hb : ((Region.before ops).getD i 0).testBit d with
    | false => rfl
    | true =>
      obtain ⟨e, h1, h2, h3⟩ := before_spec ops i o d hi hb
      have hlt := hdec i o hi e h1 h2
      have hSe := hr e h1 h2
      rcases h3 with h3 | h3
      · exact absurd (h3 ▸ hSe) hd
      · have hlt' : e.on < ops.size := by have := (Array.getElem?_eq_some_iff.1 hi).1; omega
        have hoe := Array.getElem?_eq_getElem hlt'
        rw [not_before hS hdec n e.on _ (by omega) hoe (fun e' h4 h5 => hS e.on _ hSe hoe e' h4 h5) d hd] at h3
        cases h3
theorem before_lt {ops : Array Oper} (hdec : ∀ (j : Nat) o, ops[j]? = some o → ∀ e ∈ o.after.toList, Region.binds .any e = true → e.on < j) : ∀ (n i d : Nat), i ≤ n → i ≤ d → i < ops.size → ((Region.before ops).getD i 0).testBit d = false
  | n, i, d, hn, hd, hi => not_before (S := fun j => j < i) (fun j o hj ho e h1 h2 => by have := hdec j o ho e h1 h2; omega) hdec i i _ (Nat.le_refl _) (Array.getElem?_eq_getElem hi) (fun e h1 h2 => hdec i _ (Array.getElem?_eq_getElem hi) e h1 h2) d (by omega)
section
variable {P : Program} {σ : Type} {I : Port P σ} {Γ : Known} {S0 : Bool → Nat → Prop} {w0 : World} {e0 : Env} {ops : Array Oper} {β : Type} {k : St → T β} {b : Array Nat} {D : List Nat}
theorem run_evDraw {A : List (Nat × Nat)} {i : Nat} {o : Oper} {l : List Nat} {tmps : Tm} {H : Heap} {s : σ} (ho : ops[i]? = some o) : (evDraw P Γ ops b D A (i :: l) ⟨tmps, H⟩ k).run I.step s = match valO Γ I ops (modeOf ops b D A i) o tmps H s with
    | some r => (evDraw P Γ ops b D A l ⟨putT tmps o.dst r.1, r.2.1⟩ k).run I.step r.2.2
    | none => none := by
  simp only [evDraw, ho]
  rw [evOper_bind, T.run_bind, run_evOper]
  cases valO Γ I ops (modeOf ops b D A i) o tmps H s <;> rfl
/-- a state that stands for some frame and world. -/
def Alive (I : Port P σ) (st : St) (s : σ) : Prop := ∃ S0 w0 e0 e F a w, Cfg I S0 w0 e0 e st s F a w
theorem wp_exists {o : Oper} {K : Act → World → Prop} {a : Act} {w : World} (h : wpOper P ops (fun _ _ _ => False) o K a w) : ∃ a' w', K a' w' := by
  unfold wpOper at h
  split at h
  · unfold Oper.wp at h
    generalize (execOp a.eval o).run P w = r at h
    cases r with
    | ok n w' =>
      cases n <;> simp only [Oper.upon] at h <;> first
        | exact ⟨_, _, h⟩
        | (obtain ⟨en, w'', fr, hR, _⟩ := h []
           cases en <;> simp only at hR <;> first
            | exact ⟨_, _, hR⟩
            | exact hR.elim
            | (obtain ⟨_, _, h⟩ := hR; exact h.elim))
        | (obtain ⟨v, w'', hR, _⟩ := h default []; exact ⟨_, _, hR⟩)
        | exact h.elim
    | halt x w' => cases x <;> simp only [Oper.upon] at h
  · exact ⟨_, _, h⟩
theorem Alive.next (hΓ : ∀ f m, Γ f = some m → SoundF I f m) {pu : PM} {o : Oper} {tmps : Tm} {H : Heap} {s : σ} {r : V × Heap × σ} (h : Alive I ⟨tmps, H⟩ s) (hv : valO Γ I ops pu o tmps H s = some r) : Alive I ⟨putT tmps o.dst r.1, r.2.1⟩ r.2.2 := by
  obtain ⟨S0, w0, e0, e, F, a, w, C⟩ := h
  have hrun : (evOper P Γ ops pu o ⟨tmps, H⟩ T.ret).run I.step s = some ((⟨putT tmps o.dst r.1, r.2.1⟩ : St), r.2.2) := by rw [run_evOper, hv]; rfl
  obtain ⟨st', s', h1, _, h3⟩ := evOper_sound hΓ C hrun
  simp only [T.run, Option.some.injEq, Prod.mk.injEq] at h1
  obtain ⟨rfl, rfl⟩ := h1
  obtain ⟨a', w', e', F', C'⟩ := wp_exists (h3 (fun a' w' => ∃ e' F', Cfg I S0 w0 e0 e' ⟨putT tmps o.dst r.1, r.2.1⟩ r.2.2 F' a' w') _ fun e' F' a' w' C' => ⟨e', F', C'⟩)
  exact ⟨S0, w0, e0, e', F', a', w', C'⟩
mutual
theorem den_ids {pv : Value} {e : Env} : ∀ (c : C) (v : Value), den pv e c = some v → ∀ b ∈ idsC c, b < e.length
  | .bool _, v, h, b, hb | .int _ _, v, h, b, hb | .nilp, v, h, b, hb | .nils, v, h, b, hb | .nilf, v, h, b, hb | .nili, v, h, b, hb | .nilm, v, h, b, hb | .port, v, h, b, hb => by simp [idsC] at hb
  | .ptr c o, v, h, b, hb => by
    simp only [idsC, List.mem_singleton] at hb; subst hb
    simp only [den, Option.map_eq_some_iff] at h; obtain ⟨r, h1, _⟩ := h
    exact (List.getElem?_eq_some_iff.1 h1).1
  | .sl c o n m, v, h, b, hb => by
    simp only [idsC, List.mem_singleton] at hb; subst hb
    simp only [den, Option.map_eq_some_iff] at h; obtain ⟨r, h1, _⟩ := h
    exact (List.getElem?_eq_some_iff.1 h1).1
  | .slg c o n, v, h, b, hb => by
    simp only [idsC, List.mem_singleton] at hb; subst hb
    simp only [den, Option.bind_eq_some_iff] at h; obtain ⟨r, h1, _⟩ := h
    exact (List.getElem?_eq_some_iff.1 h1).1
  | .pr c o i n f, v, h, b, hb => by
    simp only [idsC, List.mem_singleton] at hb; subst hb
    simp only [den, Option.map_eq_some_iff] at h; obtain ⟨r, h1, _⟩ := h
    exact (List.getElem?_eq_some_iff.1 h1).1
  | .slw c o z n m, v, h, b, hb => by
    simp only [idsC, List.mem_singleton] at hb; subst hb
    simp only [den, Option.map_eq_some_iff] at h; obtain ⟨r, h1, _⟩ := h
    exact (List.getElem?_eq_some_iff.1 h1).1
  | .slr c n, v, h, b, hb => by
    simp only [idsC, List.mem_singleton] at hb; subst hb
    simp only [den, Option.bind_eq_some_iff] at h; obtain ⟨r, h1, _⟩ := h
    exact (List.getElem?_eq_some_iff.1 h1).1
  | .slv c z o n, v, h, b, hb => by
    simp only [idsC, List.mem_singleton] at hb; subst hb
    simp only [den, Option.bind_eq_some_iff] at h; obtain ⟨r, h1, _⟩ := h
    exact (List.getElem?_eq_some_iff.1 h1).1
  | .mp c, v, h, b, hb => by
    simp only [idsC, List.mem_singleton] at hb; subst hb
    simp only [den, Option.map_eq_some_iff] at h; obtain ⟨r, h1, _⟩ := h
    exact (List.getElem?_eq_some_iff.1 h1).1
  | .fn f caps, v, h, b, hb => by
    simp only [den, Option.map_eq_some_iff] at h; obtain ⟨vs, h1, _⟩ := h
    exact denL_ids caps vs h1 b (by simpa [idsC] using hb)
  | .meth s c, v, h, b, hb => by
    simp only [den, Option.map_eq_some_iff] at h; obtain ⟨u, h1, _⟩ := h
    exact den_ids c u h1 b (by simpa [idsC] using hb)
  | .ifc t c, v, h, b, hb => by
    simp only [den, Option.map_eq_some_iff] at h; obtain ⟨u, h1, _⟩ := h
    exact den_ids c u h1 b (by simpa [idsC] using hb)
theorem denL_ids {pv : Value} {e : Env} : ∀ (l : List C) (vs : List Value), denL pv e l = some vs → ∀ b ∈ idsCs l, b < e.length
  | [], vs, h, b, hb => by simp [idsCs] at hb
  | c :: l, vs, h, b, hb => by
    simp only [denL] at h
    split at h
    · rename_i v hv
      split at h
      · rename_i us hu
        simp only [idsCs, List.mem_append] at hb
        rcases hb with hb | hb
        · exact den_ids c v hv b hb
        · exact denL_ids l us hu b hb
      · cases h
    · cases h
end
theorem denV1_ids {pv : Value} {e : Env} (x : V1) (v : Value) (h : denV1 pv e x = some v) : ∀ b ∈ idsV1 x, b < e.length := by
  cases x with
  | c a => exact den_ids a v h
  | agg l => simp only [denV1, Option.map_eq_some_iff] at h; obtain ⟨vs, h1, _⟩ := h; exact denL_ids l vs h1
theorem denV_ids {pv : Value} {e : Env} (x : V) (v : Value) (h : denV pv e x = some v) : ∀ b ∈ idsV x, b < e.length := by
  cases x with
  | c a => exact den_ids a v h
  | agg l => simp only [denV, Option.map_eq_some_iff] at h; obtain ⟨vs, h1, _⟩ := h; exact denL_ids l vs h1
  | tup l =>
    simp only [denV, Option.map_eq_some_iff] at h
    obtain ⟨vs, h1, _⟩ := h
    intro b hb
    simp only [idsV, List.mem_flatMap] at hb
    obtain ⟨y, hy, hb⟩ := hb
    obtain ⟨i, hi⟩ := List.getElem?_of_mem hy
    obtain ⟨z, h2, _⟩ := allSome_get _ _ _ h1 i y hi
    exact denV1_ids y z h2 b hb
theorem Alive.ptr {tmps : Tm} {H : Heap} {s : σ} (h : Alive I ⟨tmps, H⟩ s) : ∀ t b (p : Nat), ptrB (getT tmps t) = some b → b < H.length := by
  obtain ⟨S0, w0, e0, e, F, a, w, C⟩ := h
  intro t b p hb
  have hl := C.rel.emb.len
  simp only at hl
  have main : ∀ v, getT tmps t = some v → b ∈ idsV v → b < H.length := by
    intro v hv hm
    obtain ⟨rv, _, h2⟩ := C.rel.tmps t v hv
    rw [hl]; exact denV_ids v rv h2 b hm
  unfold ptrB at hb
  split at hb
  · rename_i c o hv; cases hb; exact main _ hv (by simp [idsV, idsC])
  · rename_i c o i n f hv; cases hb; exact main _ hv (by simp [idsV, idsC])
  · cases hb
theorem Alive.closed {tmps : Tm} {H : Heap} {s : σ} (h : Alive I ⟨tmps, H⟩ s) : Closed tmps H := by
  obtain ⟨S0, w0, e0, e, F, a, w, C⟩ := h
  have hl := C.rel.emb.len
  simp only at hl
  refine ⟨fun t v hv b hb => ?_, fun i k hk b hb => ?_⟩
  · obtain ⟨rv, _, h2⟩ := C.rel.tmps t v hv
    rw [hl]; exact denV_ids v rv h2 b hb
  · obtain ⟨r, cs, _, hd, _⟩ := C.rel.emb.lies i k hk
    have hok := C.rel.emb.ok i k hk
    cases ht : k.tab with
    | none =>
      rw [Blk.real_none ht] at hd
      rw [hl]; exact denL_ids k.cells cs hd b hb
    | some t => rw [hok t ht] at hb; simp [idsCs] at hb
/-- a way of touching blocks that keeps off what an operation looks at or makes. -/
def Off (ops : Array Oper) (A : List (Nat × Nat)) (pu : PM) (y : Oper) : Prop := pu = .pure ∨ (∃ q B, kindO y.op = 1 ∧ heldAddr ops y.op = some q ∧ (pu = .avoid B ∨ pu = .keep B) ∧ ∀ c, (q, c) ∈ A → c ∈ B) ∨ (kindO y.op = 2 ∧ ∃ B, pu = .keep B)
/-- operations i and j (i ahead of j in the text) may be swapped. -/
def Swaps (ops : Array Oper) (b : Array Nat) (D : List Nat) (A : List (Nat × Nat)) (i j : Nat) : Prop := ∃ x y, ops[i]? = some x ∧ ops[j]? = some y ∧ swapOk ops x y = true ∧
  (kindO x.op = 3 → (kindO y.op = 1 ∨ kindO y.op = 2) → Off ops A (modeOf ops b D A i) y) ∧
  (kindO y.op = 3 → (kindO x.op = 1 ∨ kindO x.op = 2) → Off ops A (modeOf ops b D A j) x) ∧
  (kindO x.op = 1 → kindO y.op = 5 → ∃ q q', heldAddr ops x.op = some q ∧ heldAddr ops y.op = some q' ∧ ∀ c c', (q, c) ∈ A → (q', c') ∈ A → c ≠ c') ∧
  (kindO x.op = 6 → kindO y.op = 1 → modeOf ops b D A i = .fresh) ∧ (kindO y.op = 6 → kindO x.op = 1 → modeOf ops b D A j = .fresh)
/-- what slots with addresses that loads look at hold, or come from, is listed. -/
def HeldA (ops : Array Oper) (A : List (Nat × Nat)) (tmps : Tm) : Prop := ∀ (i : Nat) o q l c, ops[i]? = some o → heldAddr ops o.op = some q → chainA ops 6 q = some l → c ∈ l → ∀ b, blkB (getT tmps c) = some b → (q, b) ∈ A
theorem blkB_of {v : Option V} {b : Nat} (h : ptrB v = some b) : blkB v = some b := by
  unfold ptrB at h
  split at h
  · cases h; rfl
  · cases h; rfl
  · cases h
theorem chain_head {ops : Array Oper} : ∀ (n q : Nat) (l : List Nat), chainA ops n q = some l → q ∈ l
  | 0, q, l, h => by cases h
  | n + 1, q, l, h => by
    unfold chainA at h
    split at h
    · cases h; simp
    · split at h
      · simp only [Option.map_eq_some_iff] at h; obtain ⟨l', _, rfl⟩ := h; simp
      · simp only [Option.map_eq_some_iff] at h; obtain ⟨l', _, rfl⟩ := h; simp
      · simp only [Option.map_eq_some_iff] at h; obtain ⟨l', _, rfl⟩ := h; simp
      · simp only [Option.map_eq_some_iff] at h; obtain ⟨l', _, rfl⟩ := h; simp
      · cases h
    · cases h
/-- an operation whose result lies where slot x points to. -/
def RootOp (o : Op) (x : Nat) : Prop := (∃ t f, o = .fieldAddr t (.tmp x) f) ∨ (∃ t ix, o = .indexAddr t (.tmp x) ix) ∨ o = .move (.tmp x) ∨ o = .nilCheck (.tmp x)
/-- what is written of a chain comes from the chain's next slot. -/
theorem chain_step {ops : Array Oper} {j : Nat} {o : Oper} {c : Nat} (ho : ops[j]? = some o) (hd : o.dst = some c) : ∀ (n q : Nat) (l : List Nat), chainA ops n q = some l → c ∈ l → ∃ x ∈ l, RootOp o.op x
  | 0, q, l, h, hc => by cases h
  | n + 1, q, l, h, hc => by
    have hmem : c = q → o ∈ ops.toList.filter fun o => o.dst == some q := by
      rintro rfl
      rw [List.mem_filter]
      exact ⟨by rw [Array.mem_toList_iff]; exact Array.mem_of_getElem? ho, by simp [hd]⟩
    unfold chainA at h
    split at h
    · rename_i hf
      cases h
      simp only [List.mem_singleton] at hc
      have := hmem hc
      rw [hf] at this
      cases this
    · rename_i o' hf
      have main : ∀ x, (chainA ops n x).map (fun l => q :: l) = some l → (o = o' → RootOp o.op x) → ∃ x ∈ l, RootOp o.op x := by
        intro x hm hop
        simp only [Option.map_eq_some_iff] at hm
        obtain ⟨l', h1, rfl⟩ := hm
        rcases List.mem_cons.1 hc with hq | hc'
        · have := hmem hq
          rw [hf, List.mem_singleton] at this
          exact ⟨x, List.mem_cons_of_mem _ (chain_head n x l' h1), hop this⟩
        · obtain ⟨y, h2, h3⟩ := chain_step ho hd n x l' h1 hc'
          exact ⟨y, List.mem_cons_of_mem _ h2, h3⟩
      split at h
      · rename_i t x f hop
        exact main x h fun he => .inl ⟨t, f, by rw [he, hop]⟩
      · rename_i t x ix hop
        exact main x h fun he => .inr (.inl ⟨t, ix, by rw [he, hop]⟩)
      · rename_i x hop
        exact main x h fun he => .inr (.inr (.inl (by rw [he, hop])))
      · rename_i x hop
        exact main x h fun he => .inr (.inr (.inr (by rw [he, hop])))
      · cases h
    · cases h
/-- an address of a part or an element lies in the block of the whole. -/
theorem ev_root {P : Program} {o : Op} {x : Nat} {tmps : Tm} {H : Heap} {q : Stp} (ho : RootOp o x) (h : evStep P o (evalO tmps) H = some q) :
    ∃ g v, q = .val g v H ∧ ∀ b, blkB (some v) = some b → blkB (getT tmps x) = some b := by
  rcases ho with ⟨t, f, rfl⟩ | ⟨t, ix, rfl⟩ | rfl | rfl
  rotate_right 2
  · simp only [evStep, Option.map_eq_some_iff] at h
    obtain ⟨v, h1, rfl⟩ := h
    refine ⟨_, _, rfl, fun b hb => ?_⟩
    have e1 : evalO tmps (.tmp x) = getT tmps x := rfl
    rw [← e1, h1]; exact hb
  · have e1 : evalO tmps (.tmp x) = getT tmps x := rfl
    simp only [evStep, e1] at h
    split at h
    · cases h; exact ⟨_, _, rfl, fun b hb => by cases hb⟩
    · cases h; exact ⟨_, _, rfl, fun b hb => by cases hb⟩
    · cases h; exact ⟨_, _, rfl, fun b hb => by cases hb⟩
    · split at h
      · split at h
        · cases h; exact ⟨_, _, rfl, fun b hb => by cases hb⟩
        · cases h
      · cases h
    · rename_i v _ _ _ _ hx
      cases h
      exact ⟨_, _, rfl, fun b hb => by rw [hx]; exact hb⟩
    · cases h
  · simp only [evStep, evalO] at h
    split at h
    · rename_i fs b o _ hx
      split at h
      · split at h
        · split at h
          · cases h
          · cases h
            refine ⟨_, _, rfl, fun b' hb => ?_⟩
            rw [hx]; exact hb
        · cases h
      · cases h
    · rename_i fs b off i m o _ hx
      split at h
      · split at h
        · split at h
          · cases h
          · cases h
            refine ⟨_, _, rfl, fun b' hb => ?_⟩
            rw [hx]; exact hb
        · cases h
      · cases h
    · cases h
  · simp only [evStep] at h
    have e1 : evalO tmps (.tmp x) = getT tmps x := rfl
    rw [e1] at h
    split at h
    all_goals first
      | cases h; done
      | (rename_i hx _
         simp only [Option.map_eq_some_iff] at h
         obtain ⟨n, _, rfl⟩ := h
         refine ⟨_, _, rfl, fun b' hb => ?_⟩
         rw [hx]; exact hb)
      | (rename_i hx _
         split at h
         · cases h
           refine ⟨_, _, rfl, fun b' hb => ?_⟩
           rw [hx]; exact hb
         · cases h)
theorem val_root {pu : PM} {o : Oper} {x : Nat} {tmps : Tm} {H : Heap} {s : σ} {r : V × Heap × σ} (ho : RootOp o.op x) (h : valO Γ I ops pu o tmps H s = some r) :
    ∀ b, blkB (some r.1) = some b → blkB (getT tmps x) = some b := by
  have main : doneV Γ I pu H s (evStep P o.op (evalO tmps) H) = some r → ∀ b, blkB (some r.1) = some b → blkB (getT tmps x) = some b := by
    intro h
    cases hq : evStep P o.op (evalO tmps) H with
    | none => rw [hq] at h; cases h
    | some q =>
      obtain ⟨g, v, rfl, hv⟩ := ev_root ho hq
      rw [hq] at h
      simp only [doneV] at h
      split at h
      · cases h; exact hv
      · cases h
  unfold valO at h
  split at h
  · exact main h
  · split at h
    · cases h
    · split at h
      · split at h
        · exact main h
        · cases h; intro b hb; cases hb
      · cases h; intro b hb; cases hb
      · cases h
theorem HeldA.ptr {A : List (Nat × Nat)} {tmps : Tm} (h : HeldA ops A tmps) {i : Nat} {x : Oper} {q b : Nat} (hx : ops[i]? = some x) (hq : heldAddr ops x.op = some q) (hb : ptrB (getT tmps q) = some b) : (q, b) ∈ A := by
  have hs : (chainA ops 6 q).isSome = true := by
    unfold heldAddr at hq
    split at hq
    · split at hq
      · rename_i hh; cases hq; exact hh
      · cases hq
    · split at hq
      · rename_i hh; cases hq; exact hh
      · cases hq
    · cases hq
  obtain ⟨l, hl⟩ := Option.isSome_iff_exists.1 hs
  exact h i x q l q hx hq hl (chain_head _ _ _ hl) b (blkB_of hb)
theorem heldAddr_eq {o : Op} {q : Nat} (h : heldAddr ops o = some q) : (∃ ty, o = .load ty (.tmp q)) ∨ ∃ ty x, o = .store ty (.tmp q) x := by
  unfold heldAddr at h
  split at h
  · rename_i ty q'
    split at h
    · cases h
      exact .inl ⟨ty, rfl⟩
    · cases h
  · rename_i ty q' x
    split at h
    · cases h
      exact .inr ⟨ty, x, rfl⟩
    · cases h
  · cases h
theorem HeldA.put {A : List (Nat × Nat)} {tmps : Tm} (h : HeldA ops A tmps) {j : Nat} {o : Oper} {pu : PM} {H : Heap} {s : σ} {r : V × Heap × σ} (ho : ops[j]? = some o) (hv : valO Γ I ops pu o tmps H s = some r) : HeldA ops A (putT tmps o.dst r.1) := by
  intro i x q l c hx hq hl hc b hb
  cases hd : o.dst with
  | none => rw [hd] at hb; exact h i x q l c hx hq hl hc b hb
  | some d =>
    rw [hd] at hb
    simp only [putT] at hb
    by_cases hcd : c = d
    · subst hcd
      obtain ⟨y, hy, hop⟩ := chain_step ho hd 6 q l hl hc
      cases hg : getT (setT tmps c r.1) c with
      | none => rw [hg] at hb; cases hb
      | some u =>
        obtain ⟨_, rfl⟩ := getT_setT_eq hg
        rw [hg] at hb
        exact h i x q l y hx hq hl hy b (val_root hop hv b hb)
    · rw [getT_setT_ne _ _ hcd] at hb
      exact h i x q l c hx hq hl hc b hb
theorem HeldA.avoids {A : List (Nat × Nat)} {tmps : Tm} (h : HeldA ops A tmps) {i : Nat} {x : Oper} (hx : ops[i]? = some x) {pu : PM} (hp : Off ops A pu x) : pu = .pure ∨ Avoids tmps pu x ∨ (kindO x.op = 2 ∧ ∃ B, pu = .keep B) := by
  rcases hp with hp | ⟨q, B, h1, h2, h3, h4⟩ | hp
  · exact .inl hp
  · refine .inr (.inl ⟨h1, B, h3, fun ty t b p hop hg => h4 b ?_⟩)
    obtain ⟨ty', h5⟩ | ⟨ty', y', h5⟩ := heldAddr_eq h2
    · rw [h5] at hop
      cases hop
      exact h.ptr hx h2 hg
    · rw [h5] at hop; cases hop
  · exact .inr (.inr hp)
theorem HeldA.diff {A : List (Nat × Nat)} {tmps : Tm} (h : HeldA ops A tmps) {i j : Nat} {x y : Oper} (hx : ops[i]? = some x) (hy : ops[j]? = some y) (hd : kindO x.op = 1 → kindO y.op = 5 → ∃ q q', heldAddr ops x.op = some q ∧ heldAddr ops y.op = some q' ∧ ∀ c c', (q, c) ∈ A → (q', c') ∈ A → c ≠ c') :
    kindO x.op = 1 → kindO y.op = 5 → ∀ tx t tz z q b (p : Nat) c, x.op = .load tx (.tmp t) → y.op = .store tz (.tmp z) q → ptrB (getT tmps t) = some b → ptrB (getT tmps z) = some c → b ≠ c := by
  intro k1 k5 tx t tz z w b p c hox hoy hb hc
  obtain ⟨q, q', h1, h2, h3⟩ := hd k1 k5
  obtain ⟨ty, h5⟩ | ⟨ty, u, h5⟩ := heldAddr_eq h1
  · rw [h5] at hox; cases hox
    obtain ⟨ty', h6⟩ | ⟨ty', u, h6⟩ := heldAddr_eq h2
    · rw [h6] at hoy; cases hoy
    · rw [h6] at hoy; cases hoy
      exact h3 b c (h.ptr hx h1 hb) (h.ptr hy h2 hc)
  · rw [h5] at hox; cases hox
theorem draw_front (hΓ : ∀ f m, Γ f = some m → SoundF I f m) {A : List (Nat × Nat)} {j : Nat} {r : β × σ} {l2 : List Nat} : ∀ (l1 : List Nat) (tmps : Tm) (H : Heap) (s : σ), (∀ i ∈ l1, Swaps ops b D A i j) → HeldA ops A tmps → Alive I ⟨tmps, H⟩ s →
    (evDraw P Γ ops b D A (l1 ++ j :: l2) ⟨tmps, H⟩ k).run I.step s = some r → (evDraw P Γ ops b D A (j :: (l1 ++ l2)) ⟨tmps, H⟩ k).run I.step s = some r
  | [], tmps, H, s, hs, hA, ha, h => h
  | i :: l1, tmps, H, s, hs, hA, ha, h => by
    obtain ⟨x, y, hx, hy, hok, hp1, hp2, hp3, hp4, hp5⟩ := hs i (by simp)
    rw [List.cons_append, run_evDraw hx] at h
    split at h
    · rename_i rx hrx
      have ih := draw_front hΓ l1 _ _ _ (fun i' hi' => hs i' (by simp [hi'])) (hA.put hx hrx) (ha.next hΓ hrx) h
      rw [run_evDraw hy] at ih
      split at ih
      · rename_i ry hry
        simp only [swapOk, Bool.and_eq_true] at hok
        obtain ⟨a1, a2, a3⟩ := Oper.apart_spec hok.2
        rw [valO_put (fun d hd => a1 d hd)] at hry
        obtain ⟨H1, s1, g1, g2⟩ := swap_val (vx := rx.1) (vy := ry.1) (Hx := rx.2.1) (Hy := ry.2.1) (sx := rx.2.2) (sy := ry.2.2) hok.1 hrx hry (fun k3 k12 => hA.avoids hy (hp1 k3 k12)) (fun k3 k12 => hA.avoids hx (hp2 k3 k12)) ha.ptr ha.closed (hA.diff hx hy hp3) hp4 hp5
        rw [run_evDraw hy, g1]
        simp only
        rw [List.cons_append, run_evDraw hx, valO_put (fun d hd => a3 d hd), g2]
        simp only
        rw [putT_comm _ _ _ (fun d hd he => a2 d he hd)] 
        exact ih
      · cases ih
    · cases h

theorem zip_mem {ops : Array Oper} {i : Nat} {o : Oper} (h : ops[i]? = some o) : (o, i) ∈ ops.toList.zipIdx := by
  rw [List.mem_zipIdx_iff_getElem?]
  simpa using h
theorem region_dec {ops : Array Oper} (hok : regionOkD ops b D = true) : ∀ (j : Nat) o, ops[j]? = some o → ∀ e ∈ o.after.toList, Region.binds .any e = true → e.on < j := by
  intro j o ho e he hb
  unfold regionOkD at hok
  simp only [Bool.and_eq_true, List.all_eq_true] at hok
  have h1 := hok.1 (o, j) (zip_mem ho)
  simp only [Array.all_eq_true_iff_forall_mem] at h1
  have h2 := h1 e (by simpa using he)
  simp only [hb, Bool.not_true, Bool.false_or, decide_eq_true_eq] at h2
  exact h2
theorem region_swap {ops : Array Oper} (hok : regionOkD ops b D = true) {i j : Nat} {x y : Oper} (hx : ops[i]? = some x) (hy : ops[j]? = some y) (hij : i < j) (hb : (b.getD j 0).testBit i = false) (hi : i ∉ D) (hj : j ∉ D) : swapOk ops x y = true := by
  unfold regionOkD at hok
  simp only [Bool.and_eq_true, List.all_eq_true] at hok
  have h1 := hok.2 (y, j) (zip_mem hy) (x, i) (zip_mem hx)
  have c1 : D.contains i = false := by simpa using hi
  have c2 : D.contains j = false := by simpa using hj
  simp only [hij, decide_true, Bool.not_true, Bool.false_or, hb, c1, c2] at h1
  exact h1
theorem region_D {ops : Array Oper} (D : List Nat) (hok : regionOk ops b = true) : regionOkD ops b D = true := by
  unfold regionOk at hok
  unfold regionOkD
  simp only [Bool.and_eq_true, List.all_eq_true] at hok ⊢
  refine ⟨hok.1, fun p hp q hq => ?_⟩
  have := hok.2 p hp q hq
  simp only [Bool.or_eq_true] at this ⊢
  rcases this with (h | h) | h
  · exact .inl (.inl (.inl (.inl h)))
  · exact .inl (.inr h)
  · exact .inr h
theorem mode_fresh {b : Array Nat} {D : List Nat} {A : List (Nat × Nat)} {i j : Nat} {x y : Oper} (hx : ops[i]? = some x) (hy : ops[j]? = some y) (k6 : kindO x.op = 6) (k1 : kindO y.op = 1) (hne : j ≠ i) (ho : ordered b j i = false) : modeOf ops b D A i = .fresh := by
  unfold modeOf
  rw [hx]
  have n3 : (kindO x.op == 3) = false := by rw [k6]; rfl
  have e6 : (kindO x.op == 6) = true := by rw [k6]; rfl
  simp only [n3, e6, Bool.false_eq_true, if_false, if_true]
  rw [if_pos]
  rw [List.any_eq_true]
  exact ⟨(y, j), zip_mem hy, by simp [ho, hne, k1]⟩
theorem mode_of {b : Array Nat} {D : List Nat} {A : List (Nat × Nat)} {i j : Nat} {x y : Oper} (hx : ops[i]? = some x) (hy : ops[j]? = some y) (k3 : kindO x.op = 3) (k12 : kindO y.op = 1 ∨ kindO y.op = 2) (hne : j ≠ i) (ho : ordered b j i = false) (hD : j ∉ D) :
    Off ops A (modeOf ops b D A i) y := by
  unfold modeOf
  rw [hx]
  simp only [k3, beq_self_eq_true, if_true]
  split
  · exact .inl rfl
  · rename_i hany
    simp only [Bool.not_eq_true, List.any_eq_false] at hany
    have hy' := hany (y, j) (zip_mem hy)
    have hji : (j != i) = true := by simpa using hne
    simp only [ho, hji, Bool.not_false, Bool.true_and] at hy'
    have held : kindO y.op = 1 → ∃ q, heldAddr ops y.op = some q ∧ q ∈ besides ops b i := by
      intro hk1
      cases hq : heldAddr ops y.op with
      | none => rw [hk1, hq] at hy'; simp at hy'
      | some q =>
        refine ⟨q, rfl, ?_⟩
        unfold besides
        rw [List.mem_filterMap]
        refine ⟨(y, j), zip_mem hy, ?_⟩
        simp [ho, hne, hk1, hq]
    split
    · rcases k12 with hk1 | hk2
      · obtain ⟨q, hq, hmem⟩ := held hk1
        refine .inr (.inl ⟨q, _, hk1, hq, .inr rfl, fun c hc => ?_⟩)
        rw [List.mem_map]
        refine ⟨(q, c), ?_, rfl⟩
        rw [List.mem_filter]
        refine ⟨hc, ?_⟩
        simpa using hmem
      · exact .inr (.inr ⟨hk2, _, rfl⟩)
    · rename_i hno
      simp only [Bool.not_eq_true, List.any_eq_false] at hno
      have hy2 := hno (y, j) (zip_mem hy)
      simp only [ho, hji, Bool.not_false, Bool.true_and] at hy2
      have n2 : ¬ kindO y.op = 2 := fun h2 => by rw [h2] at hy2; simp [hD] at hy2
      have hk1 : kindO y.op = 1 := k12.resolve_right n2
      obtain ⟨q, hq, hmem⟩ := held hk1
      split
      · rename_i hb; rw [hb] at hmem; cases hmem
      · rename_i q0 l hb
        refine .inr (.inl ⟨q, _, hk1, hq, .inl rfl, fun c hc => ?_⟩)
        rw [List.mem_map]
        refine ⟨(q, c), ?_, rfl⟩
        rw [List.mem_filter]
        refine ⟨hc, ?_⟩
        rw [← hb]
        simpa using hmem
theorem diff_of {b : Array Nat} {A : List (Nat × Nat)} (hd : diffOk ops b A = true) {i j : Nat} {x y : Oper} (hx : ops[i]? = some x) (hy : ops[j]? = some y) (hij : i < j) (hb : (b.getD j 0).testBit i = false) :
    kindO x.op = 1 → kindO y.op = 5 → ∃ q q', heldAddr ops x.op = some q ∧ heldAddr ops y.op = some q' ∧ ∀ c c', (q, c) ∈ A → (q', c') ∈ A → c ≠ c' := by
  intro k1 k5
  unfold diffOk at hd
  simp only [List.all_eq_true] at hd
  have h1 := hd (y, j) (zip_mem hy)
  simp only [k5, beq_self_eq_true, Bool.not_true, Bool.false_or, List.all_eq_true] at h1
  have h2 := h1 (x, i) (zip_mem hx)
  simp only [hij, decide_true, Bool.not_true, Bool.false_or, hb, k1, beq_self_eq_true] at h2
  split at h2
  · rename_i q q' hq hq'
    refine ⟨q, q', hq, hq', fun c c' hc hc' => ?_⟩
    simp only [List.all_eq_true] at h2
    have h3 := h2 (q, c) hc (q', c') hc'
    simpa using h3
  · cases h2
theorem heldA_begin (tmps : Tm) : HeldA ops (avoidA ops tmps) tmps := by
  intro i o q l c hx hq hl hc b hb
  unfold avoidA
  rw [List.mem_flatMap]
  refine ⟨o, by rw [Array.mem_toList_iff]; exact Array.mem_of_getElem? hx, ?_⟩
  simp only [hq, hl, List.mem_filterMap]
  exact ⟨c, hc, by rw [hb]⟩

/-! ### new blocks that are made late: in the world they may stand ahead -/
theorem newOp_spec {o : Oper} (h : newOp P o = true) : o.guard = none ∧ (∃ d, o.dst = some d) ∧ ((∃ t, o.op = .alloc t) ∨ ∃ t len ps, o.op = .buildSlice t len ps) ∧ kindO o.op = 2 := by
  unfold newOp at h
  split at h
  · rename_i d hg hd
    refine ⟨hg, ⟨d, hd⟩, ?_⟩
    split at h
    · rename_i t hop
      exact ⟨.inl ⟨t, hop⟩, by rw [hop]; rfl⟩
    · rename_i t len ps hop
      exact ⟨.inr ⟨t, len, ps, hop⟩, by rw [hop]; rfl⟩
    · cases h
  · cases h
/-- the late ones. -/
structure LateD (P : Program) (ops : Array Oper) (D : List Nat) : Prop where
  op : ∀ d ∈ D, ∃ o, ops[d]? = some o ∧ newOp P o = true
  dep : ∀ d ∈ D, ∀ c ∈ D, ((Region.before ops).getD d 0).testBit c = false
  dst : ∀ d ∈ D, ∀ i o o' dd, i ≠ d → ops[i]? = some o → ops[d]? = some o' → o'.dst = some dd → o.dst ≠ some dd
/-- p may stand ahead of q in the row. -/
def FitP (ops : Array Oper) (b : Array Nat) (D : List Nat) (A : List (Nat × Nat)) (p q : Nat) : Prop :=
  (b.getD p 0).testBit q = false ∧ ((b.getD q 0).testBit p = true ∨ Swaps ops b D A p q ∨
    (q ∈ D ∧ (∃ x y, ops[p]? = some x ∧ ops[q]? = some y ∧ x.apart ops y = true) ∧ ∀ i, i < ops.size → (b.getD i 0).testBit q = true → (b.getD i 0).testBit p = true))
theorem FitP.apart {A : List (Nat × Nat)} {p q : Nat} (h : FitP ops b D A p q) (hb : (b.getD q 0).testBit p = false) {x y : Oper} (hx : ops[p]? = some x) (hy : ops[q]? = some y) : (∀ d, x.dst = some d → d ∉ y.looksAt ops) ∧ ∀ d, y.dst = some d → d ∉ x.looksAt ops := by
  rcases h.2 with h1 | ⟨x', y', h1, h2, h3, _⟩ | ⟨_, ⟨x', y', h1, h2, h3⟩, _⟩
  · rw [hb] at h1; cases h1
  · rw [hx] at h1; rw [hy] at h2; cases h1; cases h2
    simp only [swapOk, Bool.and_eq_true] at h3
    exact ⟨(Oper.apart_spec h3.2).1, (Oper.apart_spec h3.2).2.2⟩
  · rw [hx] at h1; rw [hy] at h2; cases h1; cases h2
    exact ⟨(Oper.apart_spec h3).1, (Oper.apart_spec h3).2.2⟩
theorem Emb.found {pv : Value} {e : Env} {H : Heap} {w : World} (E : Emb pv e H w) {kb : Blk} {vs : List Value} {x : Nat} (ht : kb.tab = none) (hgn : kb.grown = false) (hd : denL pv e kb.cells = some vs) (cap : Nat) (hx : w.heap[x]? = some (.cells vs.toArray kb.elem (0, 0))) (hn : ¬ Own false e H x) :
    Emb pv (e ++ [(x, cap)]) (newB H kb) w := by
  obtain ⟨cs, t, g, tb⟩ := kb
  simp only at ht hgn hd hx
  subst ht hgn
  have hxt : Ext e (e ++ [(x, cap)]) := ⟨_, rfl⟩
  have hlen := E.len
  have hsplit : ∀ i k, blkAt (newB H ⟨cs, t, false, none⟩) i = some k → (i = H.length ∧ k = ⟨cs, t, false, none⟩) ∨ (blkAt H i = some k ∧ i < H.length) := by
    intro i k h
    rw [blkAt_new] at h
    split at h
    · cases h; exact .inl ⟨‹_›, rfl⟩
    · refine .inr ⟨h, ?_⟩
      rw [blkAt_eq] at h
      by_cases hi : i < H.length
      · exact hi
      · rw [List.getElem?_eq_none (by omega)] at h; simp at h
  refine ⟨by simp [newB, hlen], fun i k hk => ?_, fun i j k k' r r' hk hk' hr hr' he v1 v2 => ?_, fun i k hk => ?_⟩
  rotate_right
  · rcases hsplit i k hk with ⟨_, rfl⟩ | ⟨h, _⟩
    · intro t ht; cases ht
    · exact E.ok i k h
  · rcases hsplit i k hk with ⟨rfl, rfl⟩ | ⟨hk, hi⟩
    · exact ⟨(x, cap), vs, by simp [hlen], denL_ext hxt _ _ hd, Lies.mk (tl := []) rfl (by simpa using hx) (fun _ => rfl) (fun h => by cases h)⟩
    · obtain ⟨r, cs', hr, hd', hw⟩ := E.lies i k hk
      exact ⟨r, cs', hxt.get hr, denL_ext hxt _ _ hd', hw⟩
  · have old : ∀ i k r, blkAt H i = some k → k.virt = false → i < H.length → (e ++ [(x, cap)])[i]? = some r → e[i]? = some r ∧ r.1 ≠ x := by
      intro i k r hk hv hi hr
      rw [List.getElem?_append_left (by omega)] at hr
      exact ⟨hr, fun hh => hn (hh ▸ own_any hk hr hv)⟩
    have new : ∀ r, (e ++ [(x, cap)])[H.length]? = some r → r.1 = x := by
      intro r hr
      rw [hlen, List.getElem?_append_right (by omega)] at hr
      simp at hr
      simp [← hr]
    rcases hsplit i k hk with ⟨rfl, rfl⟩ | ⟨hk, hi⟩ <;> rcases hsplit j k' hk' with ⟨rfl, rfl⟩ | ⟨hk', hj⟩
    · exact .inl rfl
    · exact absurd (he.symm.trans (new r hr)) (old j k' r' hk' v2 hj hr').2
    · exact absurd (he.trans (new r' hr')) (old i k r hk v1 hi hr).2
    · exact E.alone i j k k' r r' hk hk' (old i k r hk v1 hi hr).1 (old j k' r' hk' v2 hj hr').1 he v1 v2
theorem own_found {pv : Value} {e : Env} {H : Heap} {w : World} (E : Emb pv e H w) {k : Blk} {cap x y : Nat} {q : Bool} (h : Own q (e ++ [(y, cap)]) (newB H k) x) : Own q e H x ∨ x = y := by
  obtain ⟨i, k', r, h1, h2, h3, hv, h4⟩ := h
  rw [blkAt_new] at h1
  split at h1
  · rename_i hi
    right
    rw [hi, E.len, List.getElem?_append_right (by omega)] at h2
    simp at h2
    rw [← h3, ← h2]
  · left
    have : i < H.length := by
      rw [blkAt_eq] at h1
      by_cases hi : i < H.length
      · exact hi
      · rw [List.getElem?_eq_none (by omega)] at h1; simp at h1
    rw [List.getElem?_append_left (by rw [← E.len]; exact this)] at h2
    exact ⟨i, k', r, h1, h2, h3, hv, h4⟩
/-- a new block is not told. -/
theorem Emb.unnew {pv : Value} {e : Env} {H : Heap} {w w' : World} {kb : Blk} {r : Nat × Nat} (E : Emb pv e H w) (E' : Emb pv (e ++ [r]) (newB H kb) w') : Emb pv e H w' := by
  have hlen := E.len
  have hold : ∀ i k, blkAt H i = some k → i < H.length ∧ blkAt (newB H kb) i = some k := by
    intro i k h
    have hi := blkAt_lt h
    exact ⟨hi, by rw [blkAt_newB hi]; exact h⟩
  refine ⟨hlen, fun i k hk => ?_, E.alone, E.ok⟩
  obtain ⟨hi, hk'⟩ := hold i k hk
  obtain ⟨r1, cs, h1, h2, _⟩ := E.lies i k hk
  obtain ⟨r2, cs2, g1, g2, g3⟩ := E'.lies i k hk'
  rw [List.getElem?_append_left (by omega), h1] at g1
  cases g1
  rw [denL_ext ⟨[r], rfl⟩ _ _ h2] at g2
  cases g2
  exact ⟨_, _, h1, h2, g3⟩
/-- a new block stands in the world (at x), and is not told yet. -/
structure Waits (I : Port P σ) (Γ : Known) (ops : Array Oper) (w0 : World) (e : Env) (st : St) (F : Nat → Prop) (a : Act) (w : World) (d x : Nat) : Prop where
  at_ : ∃ (o : Oper) (dd : Nat) (f : Nat → V) (kb : Blk) (rvf : Nat → Value) (vs : List Value), ops[d]? = some o ∧ o.dst = some dd ∧ kb.tab = none ∧ kb.grown = false ∧ (∀ pu H s, valO Γ I ops pu o st.tmps H s = some (f H.length, newB H kb, s)) ∧ (∀ e x c, denV I.pv (e ++ [(x, c)]) (f e.length) = some (rvf x)) ∧ denL I.pv e kb.cells = some vs ∧
    (dd < a.tmps.size → a.tmps[dd]? = some (rvf x)) ∧ w.heap[x]? = some (.cells vs.toArray kb.elem (0, 0))
  own : ¬ Own false e st.heap x
  port : ¬ F x
  new : w0.heap.size ≤ x
theorem zeroT_den {t : TypeId} {z : V} {cs : List C} (hz : zeroT P t = some z) (hc : z.cells = some cs) (hp : One I.pv) : ∃ rv, (∀ w, (zeroValue t).run P w = .ok rv w) ∧ ∀ e, denL I.pv e cs = some rv.cells.toList := by
  obtain ⟨v, h1, h2⟩ := zeroT_run hz I.pv []
  refine ⟨v, h1, fun e => ?_⟩
  obtain ⟨v', h3, h4⟩ := zeroT_run hz I.pv e
  have hw : ∃ w : World, True := ⟨default, trivial⟩
  obtain ⟨w, _⟩ := hw
  have := (h1 w).symm.trans (h3 w)
  cases this
  exact denV_cells hp h4 hc
/-- the row of what is still to be told: what is not done (U), and new blocks that wait. -/
structure LRow (I : Port P σ) (Γ : Known) (ops : Array Oper) (D : List Nat) (A : List (Nat × Nat)) (S0 : Bool → Nat → Prop) (w0 : World) (e0 : Env) (U L : List Nat) (X : Nat → Nat) (e : Env) (st : St) (s : σ) (F : Nat → Prop) (a : Act) (w : World) : Prop where
  cfg : Cfg I S0 w0 e0 e st s F a w
  lt : ∀ i ∈ L, i < ops.size
  nd : L.Nodup
  fit : L.Pairwise (FitP ops (Region.before ops) D A)
  inn : ∀ i ∈ U, i ∈ L
  waits : ∀ i ∈ L, i ∉ U → i ∈ D ∧ Waits I Γ ops w0 e st F a w i (X i)
  inj : ∀ i ∈ L, ∀ j ∈ L, i ∉ U → j ∉ U → X i = X j → i = j
  free : ∀ i ∈ L, i ∈ D → ∀ o d, ops[i]? = some o → o.dst = some d → getT st.tmps d = none
  held : HeldA ops A st.tmps
/-- one that waits is told. -/
theorem LRow.told (hD : LateD P ops D) {A : List (Nat × Nat)} {U l1 l2 : List Nat} {X : Nat → Nat} {d : Nat} {e : Env} {st : St} {s : σ} {F : Nat → Prop} {a : Act} {w : World} {r : β × σ}
    (R : LRow I Γ ops D A S0 w0 e0 U (l1 ++ d :: l2) X e st s F a w) (hdU : d ∉ U) (h : (evDraw P Γ ops (Region.before ops) D A (d :: (l1 ++ l2)) st k).run I.step s = some r) :
    ∃ e' st', LRow I Γ ops D A S0 w0 e0 U (l1 ++ l2) X e' st' s F a w ∧ (evDraw P Γ ops (Region.before ops) D A (l1 ++ l2) st' k).run I.step s = some r := by
  have hdL : d ∈ l1 ++ d :: l2 := by simp
  obtain ⟨hdD, W⟩ := R.waits d hdL hdU
  obtain ⟨o, dd, f, kb, rvf, vs, ho, hdst, ht, hg, hval0, hf, hden, htmp, hblk⟩ := W.at_
  obtain ⟨tmps, H⟩ := st
  have hsub : ∀ i ∈ l1 ++ l2, i ∈ l1 ++ d :: l2 := by
    intro i hi
    rcases List.mem_append.1 hi with h | h <;> simp [h]
  have hnd : d ∉ l1 ++ l2 := by
    have := R.nd
    rw [List.nodup_append] at this
    obtain ⟨_, h2, h3⟩ := this
    rw [List.nodup_cons] at h2
    intro hm
    rcases List.mem_append.1 hm with hm | hm
    · exact h3 d hm d (by simp) rfl
    · exact h2.1 hm
  rw [run_evDraw ho] at h
  have hval := hval0 (modeOf ops (Region.before ops) D A d) H s
  have hheld := HeldA.put (tmps := tmps) R.held ho hval
  rw [hval] at h
  simp only at h
  have E := R.cfg.rel.emb
  refine ⟨e ++ [(X d, 0)], ⟨putT tmps o.dst (f H.length), newB H kb⟩, ⟨⟨⟨E.found ht hg hden 0 hblk W.own, ?_, ?_, R.cfg.rel.defers⟩, R.cfg.rep, ?_, R.cfg.keeps, ?_, R.cfg.ext.trans ⟨_, rfl⟩⟩, fun i hi => R.lt i (hsub i hi), ?_, ?_, fun i hi => ?_, fun i hi hu => ?_, fun i hi j hj => R.inj i (hsub i hi) j (hsub j hj), fun i hi hiD o' d' ho' hd' => ?_, hheld⟩, h⟩
  · rw [putT_length]; exact R.cfg.rel.len
  · intro t' v hv
    simp only [hdst, putT] at hv
    by_cases ht : t' = dd
    · subst ht
      obtain ⟨hlt, rfl⟩ := getT_setT_eq hv
      exact ⟨_, htmp (Nat.lt_of_lt_of_le hlt R.cfg.rel.len), by rw [E.len]; exact hf e (X d) 0⟩
    · rw [getT_setT_ne _ _ ht] at hv
      obtain ⟨rv', h1, h2⟩ := R.cfg.rel.tmps t' v hv
      exact ⟨rv', h1, denV_ext ⟨_, rfl⟩ _ _ h2⟩
  · intro b hb
    rcases own_found E hb with hb | rfl
    · exact R.cfg.disj b hb
    · exact W.port
  · intro q b hb
    rcases hb with hb | hb
    · rcases own_found E hb with hb | rfl
      · exact R.cfg.mine _ b (.inl hb)
      · exact .inr W.new
    · exact R.cfg.mine _ b (.inr hb)
  · have := R.nd
    exact List.Nodup.sublist (List.Sublist.append_left (List.sublist_cons_self d l2) l1) this
  · exact List.Pairwise.sublist (List.Sublist.append_left (List.sublist_cons_self d l2) l1) R.fit
  · have := R.inn i hi
    simp only [List.mem_append, List.mem_cons] at this ⊢
    rcases this with h | rfl | h
    · exact .inl h
    · exact absurd hi hdU
    · exact .inr h
  · obtain ⟨h1, Wi⟩ := R.waits i (hsub i hi) hu
    refine ⟨h1, ?_, fun hown => ?_, Wi.port, Wi.new⟩
    · obtain ⟨oi, di, fi, kbi, rvfi, vsi, q1, q2, q3, q4, q5, q6, q7, q8, q9⟩ := Wi.at_
      refine ⟨oi, di, fi, kbi, rvfi, vsi, q1, q2, q3, q4, fun pu H2 s2 => ?_, q6, denL_ext ⟨_, rfl⟩ _ _ q7, q8, q9⟩
      rw [valO_put]
      · exact q5 pu H2 s2
      · rcases List.mem_append.1 hi with hm | hm
        · exact (((List.pairwise_append.1 R.fit).2.2 i hm d (by simp)).apart (hD.dep d hdD i h1) q1 ho).2
        · exact (((List.pairwise_cons.1 (List.pairwise_append.1 R.fit).2.1).1 i hm).apart (hD.dep i h1 d hdD) ho q1).1
    · rcases own_found E hown with hb | hb
      · exact Wi.own hb
      · have := R.inj i (hsub i hi) d hdL hu hdU hb
        subst this
        exact hnd hi
  · have h1 := R.free i (hsub i hi) hiD o' d' ho' hd'
    have hne : d' ≠ dd := by
      rintro rfl
      exact hD.dst d hdD i o' o d' (fun hh => hnd (hh ▸ hi)) ho' ho hdst hd'
    simp only [hdst, putT, getT_setT_ne _ _ hne]
    exact h1
/-- those that an operation needs, are told. -/
theorem LRow.settle (hΓ : ∀ f m, Γ f = some m → SoundF I f m) (hD : LateD P ops D) {A : List (Nat × Nat)} {U : List Nat} {X : Nat → Nat} {i : Nat} {s : σ} {F : Nat → Prop} {a : Act} {w : World} {r : β × σ}
    (hiU : i ∈ U) (hiD : i ∉ D) (hready : ∀ c ∈ U, ((Region.before ops).getD i 0).testBit c = false) (hw : ∀ j, j < ops.size → j ∉ U → ∀ c ∈ U, ((Region.before ops).getD j 0).testBit c = false) : ∀ (n : Nat) (L : List Nat) (e : Env) (st : St), L.length = n → LRow I Γ ops D A S0 w0 e0 U L X e st s F a w → (evDraw P Γ ops (Region.before ops) D A L st k).run I.step s = some r →
      ∃ l1 l2 e' st', LRow I Γ ops D A S0 w0 e0 U (l1 ++ i :: l2) X e' st' s F a w ∧ (evDraw P Γ ops (Region.before ops) D A (l1 ++ i :: l2) st' k).run I.step s = some r ∧ ∀ c ∈ l1, ((Region.before ops).getD i 0).testBit c = false
  | 0, L, e, st, hn, R, h => by
    obtain rfl := List.length_eq_zero_iff.1 hn
    have := R.inn i hiU
    cases this
  | n + 1, L, e, st, hn, R, h => by
    obtain ⟨l1, l2, rfl⟩ := List.append_of_mem (R.inn i hiU)
    by_cases hall : ∀ c ∈ l1, ((Region.before ops).getD i 0).testBit c = false
    · exact ⟨l1, l2, e, st, R, h, hall⟩
    · obtain ⟨m1, d, m2, rfl, hb, hm1⟩ : ∃ m1 d m2, l1 = m1 ++ d :: m2 ∧ ((Region.before ops).getD i 0).testBit d = true ∧ ∀ c ∈ m1, ((Region.before ops).getD i 0).testBit c = false := by
        clear h R hn
        induction l1 with
        | nil => exact absurd (fun c hc => by cases hc) hall
        | cons x l ih =>
          by_cases hx : ((Region.before ops).getD i 0).testBit x = true
          · exact ⟨[], x, l, rfl, hx, fun c hc => by cases hc⟩
          · have hx : ((Region.before ops).getD i 0).testBit x = false := by simpa using hx
            obtain ⟨m1, d, m2, h1, h2, h3⟩ := ih fun hh => hall fun c hc => by
              rcases List.mem_cons.1 hc with rfl | hc
              · exact hx
              · exact hh c hc
            refine ⟨x :: m1, d, m2, by rw [h1]; rfl, h2, fun c hc => ?_⟩
            rcases List.mem_cons.1 hc with rfl | hc
            · exact hx
            · exact h3 c hc
      have hdU : d ∉ U := fun hu => by have := hready d hu; rw [hb] at this; cases this
      have hdL : d ∈ (m1 ++ d :: m2) ++ i :: l2 := by simp
      obtain ⟨hdD, W⟩ := R.waits d hdL hdU
      have e1 : (m1 ++ d :: m2) ++ i :: l2 = m1 ++ d :: (m2 ++ i :: l2) := by simp
      rw [e1] at R h
      have hsw : ∀ c ∈ m1, Swaps ops (Region.before ops) D A c d := by
        intro c hc
        have hf := (List.pairwise_append.1 R.fit).2.2 c hc d (by simp)
        have hb0 : ((Region.before ops).getD d 0).testBit c = false := by
          by_cases hcU : c ∈ U
          · exact hw d (R.lt d (by simp)) hdU c hcU
          · exact hD.dep d hdD c (R.waits c (by simp [hc]) hcU).1
        rcases hf.2 with h1 | h1 | ⟨_, _, h1⟩
        · rw [hb0] at h1; cases h1
        · exact h1
        · have := h1 i (R.lt i (R.inn i hiU)) hb
          rw [hm1 c hc] at this; cases this
      obtain ⟨tmps, H⟩ := st
      have hfr := draw_front hΓ m1 tmps H s hsw R.held ⟨S0, w0, e0, e, F, a, w, R.cfg⟩ h
      obtain ⟨e', st', R', h'⟩ := R.told hD hdU hfr
      have hl : (m1 ++ (m2 ++ i :: l2)).length = n := by
        simp only [List.length_append, List.length_cons] at hn ⊢; omega
      exact LRow.settle hΓ hD hiU hiD hready hw n _ e' st' hl R' h'
/-- all that wait are told. -/
theorem LRow.fin (hΓ : ∀ f m, Γ f = some m → SoundF I f m) (hD : LateD P ops D) {A : List (Nat × Nat)} {X : Nat → Nat} {s : σ} {F : Nat → Prop} {a : Act} {w : World} {r : β × σ} : ∀ (L : List Nat) (e : Env) (st : St), LRow I Γ ops D A S0 w0 e0 [] L X e st s F a w → (evDraw P Γ ops (Region.before ops) D A L st k).run I.step s = some r →
      ∃ e' st', Cfg I S0 w0 e0 e' st' s F a w ∧ (k st').run I.step s = some r
  | [], e, st, R, h => ⟨e, st, R.cfg, h⟩
  | d :: L, e, st, R, h => by
    obtain ⟨e', st', R', h'⟩ := LRow.told (l1 := []) hD R (by simp) h
    exact LRow.fin hΓ hD L e' st' R' h'
theorem Cfg.rebase {e : Env} {st : St} {s : σ} {F : Nat → Prop} {a : Act} {w : World} (C : Cfg I S0 w0 e0 e st s F a w) : Cfg I (fun q b => Own q e st.heap b ∨ F b) w e e st s F a w :=
  ⟨C.rel, C.rep, C.disj, Keeps.refl _ w, fun q b hb => .inl hb, Ext.refl e⟩
theorem Cfg.compose {e e' : Env} {st st' : St} {s s' : σ} {F F' : Nat → Prop} {a a' : Act} {w w' : World} (C : Cfg I S0 w0 e0 e st s F a w) (C' : Cfg I (fun q b => Own q e st.heap b ∨ F b) w e e' st' s' F' a' w') : Cfg I S0 w0 e0 e' st' s' F' a' w' := by
  refine ⟨C'.rel, C'.rep, C'.disj, C.keeps.trans C'.keeps fun b hb => C.mine _ b hb, fun q b hb => ?_, C.ext.trans C'.ext⟩
  rcases C'.mine _ b hb with h | h
  · exact C.mine _ b h
  · right
    have := C.keeps.size
    omega
theorem least {p : Nat → Prop} {n : Nat} (h : p n) : ∃ m, p m ∧ ∀ j, j < m → ¬ p j := by
  induction n using Nat.strongRecOn with
  | _ n ih =>
    by_cases hh : ∃ m, m < n ∧ p m
    · obtain ⟨m, h1, h2⟩ := hh
      exact ih m h1 h2
    · exact ⟨n, h, fun j hj hp => hh ⟨j, hj, hp⟩⟩
/-- an operation of the row is done some time. -/
theorem draw_at {A : List (Nat × Nat)} {d : Nat} {o : Oper} (ho : ops[d]? = some o) {r : β × σ} {l2 : List Nat} : ∀ (l1 : List Nat) (tmps : Tm) (H : Heap) (s : σ), (∀ c ∈ l1, ∀ x, ops[c]? = some x → ∀ d', x.dst = some d' → d' ∉ o.looksAt ops) →
    (evDraw P Γ ops b D A (l1 ++ d :: l2) ⟨tmps, H⟩ k).run I.step s = some r → ∃ pu H' s' rr, valO Γ I ops pu o tmps H' s' = some rr
  | [], tmps, H, s, hc, h => by
    rw [List.nil_append, run_evDraw ho] at h
    split at h
    · exact ⟨_, _, _, _, ‹_›⟩
    · cases h
  | c :: l1, tmps, H, s, hc, h => by
    cases hx : ops[c]? with
    | none => rw [List.cons_append] at h; simp only [evDraw, hx, T.run] at h; cases h
    | some x =>
      rw [List.cons_append, run_evDraw hx] at h
      split at h
      · obtain ⟨pu, H', s', rr, hrr⟩ := draw_at ho l1 _ _ _ (fun c' hc' => hc c' (by simp [hc'])) h
        rw [valO_put (hc c (by simp) x hx)] at hrr
        exact ⟨pu, H', s', rr, hrr⟩
      · cases h
theorem draw_late (hΓ : ∀ f m, Γ f = some m → SoundF I f m) {A : List (Nat × Nat)} (hdec : ∀ (j : Nat) o, ops[j]? = some o → ∀ e ∈ o.after.toList, Region.binds .any e = true → e.on < j) (hD : LateD P ops D) {r : β × σ} {Q : Exit → Act → World → Prop} (hQ : ∀ e' st' s' F' a' w', (k st').run I.step s' = some r → Cfg I S0 w0 e0 e' st' s' F' a' w' → Q .normal a' w') :
    ∀ (n : Nat) (U L : List Nat) (X : Nat → Nat) (listed : Array Bool) (e : Env) (st : St) (s : σ) (F : Nat → Prop) (a : Act) (w : World), U.length = n → U.Nodup → listed.size = ops.size → (∀ i, i < ops.size → (i ∈ U ↔ listed[i]? = some false)) →
      (∀ (j : Nat) o, listed[j]? = some true → ops[j]? = some o → ∀ e ∈ o.after.toList, Region.binds .any e = true → listed[e.on]? = some true) →
      LRow I Γ ops D A S0 w0 e0 U L X e st s F a w → (evDraw P Γ ops (Region.before ops) D A L st k).run I.step s = some r → wpAny P .any ops Q n listed a w
  | 0, U, L, X, listed, e, st, s, F, a, w, hn, hnd, hsz, hU, hcl, R, h => by
    obtain rfl := List.length_eq_zero_iff.1 hn
    obtain ⟨e', st', C', h'⟩ := R.fin hΓ hD L e st h
    refine ⟨?_, hQ e' st' s F a w h' C'⟩
    unfold Region.ready
    rw [List.filter_eq_nil_iff]
    intro i hi
    have hi' : i < ops.size := by simpa using hi
    have : ¬ listed[i]? = some false := fun h => by have := (hU i hi').2 h; cases this
    have hget : listed[i]? = some listed[i] := Array.getElem?_eq_getElem (by omega)
    rw [hget] at this
    have ht : listed[i] = true := by
      cases hh : listed[i] with
      | true => rfl
      | false => rw [hh] at this; exact absurd rfl this
    simp [Array.getD_eq_getD_getElem?, hget, ht]
  | n + 1, U, L, X, listed, e, st, s, F, a, w, hn, hnd, hsz, hU, hcl, R, h => by
    have hlt : ∀ i ∈ U, i < ops.size := fun i hi => R.lt i (R.inn i hi)
    have isT : ∀ i, i < ops.size → i ∉ U → listed[i]? = some true := by
      intro i hi hni
      have h1 : ¬ listed[i]? = some false := fun h => hni ((hU i hi).2 h)
      have hget : listed[i]? = some listed[i] := Array.getElem?_eq_getElem (by omega)
      rw [hget] at h1 ⊢
      cases hh : listed[i] with
      | true => rfl
      | false => rw [hh] at h1; exact absurd rfl h1
    refine ⟨fun hr => ?_, fun i hi => ?_⟩
    · exfalso
      cases hU0 : U with
      | nil => rw [hU0] at hn; simp at hn
      | cons i1 U' =>
        obtain ⟨i0, hi0, hmin⟩ := least (p := fun i => i ∈ U) (n := i1) (by rw [hU0]; simp)
        have h0 := hlt i0 hi0
        have hmem : i0 ∈ Region.ready .any ops listed := by
          unfold Region.ready
          rw [List.mem_filter]
          refine ⟨by simpa using h0, ?_⟩
          have hf := (hU i0 h0).1 hi0
          have ho := Array.getElem?_eq_getElem h0
          rw [ho]
          simp only [Array.getD_eq_getD_getElem?, hf, Option.getD_some, Bool.not_false, Bool.true_and, Option.map_some, Array.all_eq_true_iff_forall_mem]
          intro e he
          by_cases hb : Region.binds .any e = true
          · have hlt' := hdec i0 _ ho e (by simpa using he) hb
            rw [isT e.on (by omega) (hmin e.on hlt')]
            simp
          · simp [hb]
        rw [hr] at hmem
        cases hmem
    · unfold Region.ready at hi
      rw [List.mem_filter] at hi
      obtain ⟨hi1, hi2⟩ := hi
      have hi1 : i < ops.size := by simpa using hi1
      have ho := Array.getElem?_eq_getElem hi1
      rw [ho] at hi2
      simp only [Bool.and_eq_true, Option.map_some, Option.getD_some, Array.all_eq_true_iff_forall_mem] at hi2
      have hget : listed[i]? = some listed[i] := Array.getElem?_eq_getElem (by omega)
      have hfalse : listed[i]? = some false := by
        have := hi2.1
        rw [Array.getD_eq_getD_getElem?, hget] at this
        rw [hget]
        simpa using this
      have hiU := (hU i hi1).2 hfalse
      have hdeps : ∀ e ∈ (ops[i]).after.toList, Region.binds .any e = true → listed[e.on]? = some true := by
        intro e he hb
        have := hi2.2 e (by simpa using he)
        simp only [hb, Bool.not_true, Bool.false_or, Array.getD_eq_getD_getElem?] at this
        cases hh : listed[e.on]? with
        | none => rw [hh] at this; simp at this
        | some t => rw [hh] at this; simp at this; rw [this]
      have hset : ∀ j, (listed.setIfInBounds i true)[j]? = if i = j then some true else listed[j]? := by
        intro j
        rw [Array.getElem?_setIfInBounds]
        split
        · rename_i hij; rw [if_pos (by omega)]
        · rfl
      have hn' : (U.erase i).length = n := by rw [List.length_erase_of_mem hiU]; omega
      have hnd' : (U.erase i).Nodup := hnd.erase i
      have hmemE : ∀ j, j ∈ U.erase i ↔ j ≠ i ∧ j ∈ U := fun j => hnd.mem_erase_iff
      have hsz' : (listed.setIfInBounds i true).size = ops.size := by simp [hsz]
      have hU' : ∀ j, j < ops.size → (j ∈ U.erase i ↔ (listed.setIfInBounds i true)[j]? = some false) := by
        intro j hj
        rw [hset, hmemE]
        by_cases hij : i = j
        · subst hij; simp
        · rw [if_neg hij, ← hU j hj]
          exact ⟨fun h => h.2, fun h => ⟨fun hh => hij hh.symm, h⟩⟩
      have hcl' : ∀ (j : Nat) o, (listed.setIfInBounds i true)[j]? = some true → ops[j]? = some o → ∀ e ∈ o.after.toList, Region.binds .any e = true → (listed.setIfInBounds i true)[e.on]? = some true := by
        intro j o hj hoj e he hb
        rw [hset] at hj ⊢
        split
        · rfl
        · split at hj
          · rename_i hij
            subst hij
            rw [ho] at hoj
            cases hoj
            exact hdeps e he hb
          · exact hcl j o hj hoj e he hb
      by_cases hiD : i ∈ D
      · -- a new block: it stands, and waits
        obtain ⟨o, ho2, hnew⟩ := hD.op i hiD
        rw [ho] at ho2; cases ho2
        obtain ⟨hg, ⟨dd, hdst⟩, hop, _⟩ := newOp_spec hnew
        have E := R.cfg.rel.emb
        have C := R.cfg
        have hslot : getT st.tmps dd = none := R.free i (R.inn i hiU) hiD _ _ ho hdst
        obtain ⟨tmps, H⟩ := st
        obtain ⟨l1, l2, hL⟩ := List.append_of_mem (R.inn i hiU)
        have hready : ∀ c ∈ U, ((Region.before ops).getD i 0).testBit c = false := by
          intro c hc
          refine not_before (S := fun j => listed[j]? = some true) hcl hdec i i _ (Nat.le_refl _) ho hdeps c ?_
          have := (hU c (hlt c hc)).1 hc
          rw [this]; simp
        have hnone : ∀ c ∈ L, ((Region.before ops).getD i 0).testBit c = false := by
          intro c hc
          by_cases hcU : c ∈ U
          · exact hready c hcU
          · exact hD.dep i hiD c (R.waits c hc hcU).1
        have hat : ∃ pu H' s' rr, valO Γ I ops pu (ops[i]) tmps H' s' = some rr := by
          rw [hL] at h
          have hfit := R.fit
          rw [hL] at hfit
          exact draw_at ho l1 tmps H s (fun c hc x hx => (((List.pairwise_append.1 hfit).2.2 c hc i (by simp)).apart (hnone c (by rw [hL]; simp [hc])) hx ho).1) h
        obtain ⟨f, kb, rvf, ht, hgn, hev, hf, hcs⟩ : ∃ (f : Nat → V) (kb : Blk) (rvf : Nat → Value), kb.tab = none ∧ kb.grown = false ∧ (∀ H2, evStep P (ops[i]).op (evalO tmps) H2 = some (.val true (f H2.length) (newB H2 kb))) ∧ (∀ pv e x c, denV pv (e ++ [(x, c)]) (f e.length) = some (rvf x)) ∧ ∀ pv e (ra : Operand → Value), One pv → Says pv e (evalO tmps) ra → ∃ vs, denL pv e kb.cells = some vs := by
          obtain ⟨pu, H', s', rr, hrr⟩ := hat
          simp only [valO, hg] at hrr
          cases hq : evStep P (ops[i]).op (evalO tmps) H' with
          | none => rw [hq] at hrr; cases hrr
          | some q => exact new_val hop hq
        have hval : ∀ pu H2 s2, valO Γ I ops pu (ops[i]) tmps H2 s2 = some (f H2.length, newB H2 kb, s2) := by
          intro pu H2 s2
          simp only [valO, hg, hev]
          exact done_new pu H2 kb s2
        obtain ⟨vs, hvs⟩ := hcs I.pv e a.eval I.one C.rel.says
        obtain ⟨nx, w', e', rv, h1, h2, h3, h4, h5, h6, h7⟩ := step_val I (o := ops[i]) C.rel.says E (hev H)
        obtain ⟨xs, rfl⟩ := h3
        obtain ⟨⟨x, cp⟩, rfl⟩ : ∃ r, xs = [r] := by
          have hl := h5.len
          rw [newB_length, List.length_append, E.len] at hl
          match xs, hl with
          | [r], _ => exact ⟨r, rfl⟩
          | [], hl => simp at hl
          | _ :: _ :: _, hl => simp at hl
        obtain rfl : rv = rvf x := by
          have := hf I.pv e x cp
          rw [← E.len, h4] at this
          exact Option.some.inj this
        have hkb : blkAt (newB H kb) H.length = some kb := by rw [blkAt_new, if_pos rfl]
        have hrx : (e ++ [(x, cp)])[H.length]? = some (x, cp) := by rw [E.len]; simp
        obtain ⟨r1, cs, tl, q1, q2, q3, q4, _⟩ := h5.row H.length kb hkb (Blk.win_none ht) (Blk.virt_none ht) (Blk.mapped_none ht)
        rw [hrx] at q1; cases q1
        rw [Blk.real_none ht, denL_ext ⟨_, rfl⟩ _ _ hvs] at q2; cases q2
        rw [q4 hgn, List.append_nil] at q3
        have hxn : w.heap.size ≤ x := by
          rcases h7 false x ⟨H.length, kb, (x, cp), hkb, hrx, rfl, Blk.virt_none ht, fun h => by cases h⟩ with ho' | ho'
          · obtain ⟨i2, k2, r2, g1, g2, g3, g4, _⟩ := ho'
            have hi2 : i2 < H.length := blkAt_lt g1
            rcases h5.alone i2 H.length k2 kb r2 (x, cp) (by rw [blkAt_newB hi2]; exact g1) hkb (by rw [List.getElem?_append_left (by rw [← E.len]; exact hi2)]; exact g2) hrx g3 g4 (Blk.virt_none ht) with h8 | ⟨_, h8⟩
            · omega
            · rw [Blk.win_none ht] at h8; cases h8
          · exact ho'
        have hsame : ∀ b, b < w.heap.size → ¬ Own true e H b → w'.heap[b]? = w.heap[b]? := h6.block
        have R' : LRow I Γ ops D A S0 w0 e0 (U.erase i) L (fun j => if j = i then x else X j) e ⟨tmps, H⟩ s F (a.put (some dd) (rvf x)) w' := by
          have hsz0 := C.keeps.size
          have hput : ∀ t', t' ≠ dd → (a.put (some dd) (rvf x)).tmps[t']? = a.tmps[t']? := by
            intro t' ht'
            simp only [Act.put]
            rw [Array.getElem?_setIfInBounds_ne (fun hh => ht' hh.symm)]
          have hXlt : ∀ j ∈ L, j ∉ U → X j < w.heap.size := by
            intro j hj hju
            obtain ⟨_, W⟩ := R.waits j hj hju
            obtain ⟨_, _, _, _, _, _, _, _, _, _, _, _, _, _, hb⟩ := W.at_
            exact (Array.getElem?_eq_some_iff.1 hb).1
          have hcase : ∀ j, j ∉ U.erase i → j = i ∨ j ∉ U := by
            intro j hj
            by_cases hji : j = i
            · exact .inl hji
            · exact .inr fun hu => hj ((hmemE j).2 ⟨hji, hu⟩)
          refine ⟨⟨⟨E.unnew h5, ?_, fun t' v hv => ?_, C.rel.defers⟩, I.stable C.rep fun b hb => hsame b (I.lt C.rep b hb) fun ho' => C.disj b ho'.weak hb, C.disj, C.keeps.trans h6 fun b hb => C.mine true b (.inl hb), C.mine, C.ext⟩, R.lt, R.nd, R.fit, fun j hj => R.inn j ((hmemE j).1 hj).2, fun j hj hju => ?_, fun j hj j' hj' hju hju' he => ?_, R.free, R.held⟩
          · rw [put_size]; exact C.rel.len
          · have : t' ≠ dd := fun hh => by rw [hh, hslot] at hv; cases hv
            rw [hput t' this]
            exact C.rel.tmps t' v hv
          · rcases hcase j hju with rfl | hju
            · refine ⟨hiD, ⟨_, dd, f, kb, rvf, vs, ho, hdst, ht, hgn, hval, fun e x c => hf I.pv e x c, hvs, ?_, ?_⟩, ?_, ?_, ?_⟩
              · intro hd2
                rw [put_size] at hd2
                simp only [Act.put, if_true]
                rw [Array.getElem?_setIfInBounds_self_of_lt hd2]
              · rw [if_pos rfl]; exact q3
              · rw [if_pos rfl]; intro hb; have := E.own_lt hb; omega
              · rw [if_pos rfl]; intro hb; have := I.lt C.rep _ hb; omega
              · rw [if_pos rfl]; omega
            · obtain ⟨hjD, W⟩ := R.waits j hj hju
              have hji : j ≠ i := fun hh => hju (hh ▸ hiU)
              obtain ⟨o, d', f', kb', rvf', vs', p1, p2, p3, p4, p5, p6, p7, p8, p9⟩ := W.at_
              rw [if_neg hji]
              have hdne : d' ≠ dd := by
                rintro rfl
                exact hD.dst i hiD j o _ d' hji p1 ho hdst p2
              refine ⟨hjD, ⟨o, d', f', kb', rvf', vs', p1, p2, p3, p4, p5, p6, p7, (fun hh => by rw [hput d' hdne]; rw [put_size] at hh; exact p8 hh), ?_⟩, W.own, W.port, W.new⟩
              rw [hsame _ (hXlt j hj hju) fun ho' => W.own ho'.weak]; exact p9
          · have lo : ∀ q, q ∉ U → q ≠ i := fun q hq hh => hq (hh ▸ hiU)
            rcases hcase j hju with hj1 | hj1 <;> rcases hcase j' hju' with hj2 | hj2
            · rw [hj1, hj2]
            · rw [if_pos hj1, if_neg (lo j' hj2)] at he
              have := hXlt j' hj' hj2; omega
            · rw [if_pos hj2, if_neg (lo j hj1)] at he
              have := hXlt j hj hj1; omega
            · rw [if_neg (lo j hj1), if_neg (lo j' hj2)] at he
              exact R.inj j hj j' hj' hj1 hj2 he
        have key := draw_late hΓ hdec hD hQ n (U.erase i) L _ _ e ⟨tmps, H⟩ s F _ _ hn' hnd' hsz' hU' hcl' R' h
        unfold wpOp
        rw [ho]
        simp only
        rw [if_pos (by simp [Region.wanted, hg])]
        left
        unfold Oper.wp
        rw [h1]
        rcases h2 with rfl | ⟨rfl, hu⟩
        · simp only [Oper.upon, hdst]
          exact key
        · rw [hu] at key
          simp only [Oper.upon, hdst]
          exact key
      · -- another one: those that it needs are told
        have hready : ∀ c ∈ U, ((Region.before ops).getD i 0).testBit c = false := by
          intro c hc
          refine not_before (S := fun j => listed[j]? = some true) hcl hdec i i _ (Nat.le_refl _) ho hdeps c ?_
          have := (hU c (hlt c hc)).1 hc
          rw [this]; simp
        have hw : ∀ j, j < ops.size → j ∉ U → ∀ c ∈ U, ((Region.before ops).getD j 0).testBit c = false := by
          intro j hj hju c hc
          refine not_before (S := fun j => listed[j]? = some true) hcl hdec j j _ (Nat.le_refl _) (Array.getElem?_eq_getElem hj) (fun e he hb => hcl j _ (isT j hj hju) (Array.getElem?_eq_getElem hj) e he hb) c ?_
          have := (hU c (hlt c hc)).1 hc
          rw [this]; simp
        obtain ⟨l1, l2, e1, st1, R1, h1, hl1⟩ := R.settle hΓ hD hiU hiD hready hw L.length L e st rfl h
        have hpw := List.pairwise_append.1 R1.fit
        have hpc := List.pairwise_cons.1 hpw.2.1
        have hswap : ∀ c ∈ l1, Swaps ops (Region.before ops) D A c i := by
          intro c hc
          rcases (hpw.2.2 c hc i (by simp)).2 with g | g | ⟨g, _⟩
          · rw [hl1 c hc] at g; cases g
          · exact g
          · exact absurd g hiD
        obtain ⟨tmps, H⟩ := st1
        have hfront := draw_front hΓ l1 tmps H s hswap R1.held ⟨S0, w0, e0, e1, F, a, w, R1.cfg⟩ h1
        simp only [evDraw, ho] at hfront
        obtain ⟨st', s', g1, g2, g3⟩ := evOper_soundP hΓ R1.cfg.rebase hfront
        obtain ⟨pu', H', s1', rr, hrv, hst'⟩ : ∃ pu H s, ∃ rr : V × Heap × σ, valO Γ I ops pu (ops[i]) tmps H s = some rr ∧ st'.tmps = putT tmps (ops[i]).dst rr.1 := by
          rw [run_evOper] at g2
          rw [Option.map_eq_some_iff] at g2
          obtain ⟨rr, hrr', hrr⟩ := g2
          cases hrr
          exact ⟨_, _, _, _, hrr', rfl⟩
        have hniL : i ∉ l1 ++ l2 := by
          have := R1.nd
          rw [List.nodup_append] at this
          obtain ⟨_, h2, h3⟩ := this
          rw [List.nodup_cons] at h2
          intro hm
          rcases List.mem_append.1 hm with hm | hm
          · exact h3 i hm i (by simp) rfl
          · exact h2.1 hm
        have hsub : ∀ j ∈ l1 ++ l2, j ∈ l1 ++ i :: l2 := by
          intro j hj
          rcases List.mem_append.1 hj with h | h <;> simp [h]
        have hdne : ∀ j ∈ l1 ++ l2, j ∈ D → ∀ o d, ops[j]? = some o → o.dst = some d → (ops[i]).dst ≠ some d := by
          intro j hj hjD o d hoj hd hdi
          exact hD.dst j hjD i _ o d (fun hh => hniL (hh ▸ hj)) ho hoj hd hdi
        have key := g3 (wpAny P .any ops Q n (listed.setIfInBounds i true)) Q fun e' F' a' w' ha' C' => by
          obtain ⟨rv, ha'⟩ := ha'
          have hnew : ∀ j ∈ l1 ++ l2, j ∉ U.erase i → j ∉ U := by
            intro j hj hju hu
            exact hju ((hmemE j).2 ⟨fun hh => hniL (hh ▸ hj), hu⟩)
          refine draw_late hΓ hdec hD hQ n (U.erase i) (l1 ++ l2) X _ e' st' s' F' a' w' hn' hnd' hsz' hU' hcl' ⟨R1.cfg.compose C', fun j hj => R1.lt j (hsub j hj), ?_, ?_, fun j hj => ?_, fun j hj hju => ?_, fun j hj j' hj' hju hju' he => R1.inj j (hsub j hj) j' (hsub j' hj') (hnew j hj hju) (hnew j' hj' hju') he, fun j hj hjD o d hoj hd => ?_, ?_⟩ g1
          · exact List.Nodup.sublist (List.Sublist.append_left (List.sublist_cons_self i l2) l1) R1.nd
          · exact List.Pairwise.sublist (List.Sublist.append_left (List.sublist_cons_self i l2) l1) R1.fit
          · obtain ⟨hji, hu⟩ := (hmemE j).1 hj
            have := R1.inn j hu
            simp only [List.mem_append, List.mem_cons] at this ⊢
            rcases this with h | h | h
            · exact .inl h
            · exact absurd h hji
            · exact .inr h
          · obtain ⟨hjD, W⟩ := R1.waits j (hsub j hj) (hnew j hj hju)
            obtain ⟨o, d, f, kb, rvf, vs, q1, q4, q2, q3, q5, q6, q7, q8, q9⟩ := W.at_
            have hlt9 := (Array.getElem?_eq_some_iff.1 q9).1
            have hnS : ∀ q, ¬ (Own q e1 H (X j) ∨ F (X j)) := fun q hh => hh.elim (fun h => W.own h.weak) W.port
            refine ⟨hjD, ⟨o, d, f, kb, rvf, vs, q1, q4, q2, q3, ?_, q6, denL_ext C'.ext _ _ q7, ?_, by rw [C'.keeps.block _ hlt9 (hnS true)]; exact q9⟩, fun hb => ?_, fun hb => ?_, W.new⟩
            · intro pu H2 s2
              rw [hst', valO_put]
              · exact q5 pu H2 s2
              · rcases List.mem_append.1 hj with hm | hm
                · exact ((hpw.2.2 j hm i (by simp)).apart (hl1 j hm) q1 ho).2
                · exact ((hpc.1 j hm).apart (hw j (R1.lt j (hsub j hj)) (hnew j hj hju) i hiU) ho q1).1
            · have hne := hdne j hj hjD o d q1 q4
              intro hh
              rw [ha'] at hh ⊢
              rw [put_size] at hh
              cases hdi : (ops[i]).dst with
              | none => exact q8 hh
              | some di =>
                rw [hdi] at hne
                simp only [Act.put]
                rw [Array.getElem?_setIfInBounds_ne (fun hh => hne (by rw [hh]))]
                exact q8 hh
            · rcases C'.mine _ _ (.inl hb) with h | h
              · exact hnS _ h
              · omega
            · rcases C'.mine true _ (.inr hb) with h | h
              · exact hnS _ h
              · omega
          · have q1 := R1.free j (hsub j hj) hjD o d hoj hd
            have hne := hdne j hj hjD o d hoj hd
            rw [hst']
            cases hdi : (ops[i]).dst with
            | none => exact q1
            | some di =>
              rw [hdi] at hne
              have : d ≠ di := fun hh => hne (by rw [hh])
              simp only [putT, getT_setT_ne _ _ this]
              exact q1
          · rw [hst']; exact R1.held.put ho hrv
        unfold wpOper at key
        unfold wpOp
        rw [ho]
        simp only
        split
        · rename_i hw; rw [if_pos hw] at key; exact .inl key
        · rename_i hw; rw [if_neg hw] at key; exact key
/-- the text's order. -/
theorem fit_range {A : List (Nat × Nat)} (hok : regionOkD ops (Region.before ops) D = true) (hdo : diffOk ops (Region.before ops) A = true) {p q : Nat} (hp : p < ops.size) (hq : q < ops.size) (hpq : p < q) (hpD : p ∉ D) (hqD : q ∉ D) : FitP ops (Region.before ops) D A p q := by
  have hdec := region_dec hok
  have hnb := before_lt hdec p p q (Nat.le_refl _) (by omega) hp
  refine ⟨hnb, ?_⟩
  cases hb : ((Region.before ops).getD q 0).testBit p with
  | true => exact .inl rfl
  | false =>
    have hop := Array.getElem?_eq_getElem hp
    have hoq := Array.getElem?_eq_getElem hq
    refine .inr (.inl ⟨_, _, hop, hoq, region_swap hok hop hoq hpq hb hpD hqD, fun k3 k12 => ?_, fun k3 k12 => ?_, diff_of hdo hop hoq hpq hb, fun k6 k1 => ?_, fun k6 k1 => ?_⟩)
    · exact mode_of hop hoq k3 k12 (by omega) (by simp only [ordered, hnb, hb, Bool.or_self]) hqD
    · exact mode_of hoq hop k3 k12 (by omega) (by simp only [ordered, hnb, hb, Bool.or_self]) hpD
    · exact mode_fresh hop hoq k6 k1 (by omega) (by simp only [ordered, hnb, hb, Bool.or_self])
    · exact mode_fresh hoq hop k6 k1 (by omega) (by simp only [ordered, hnb, hb, Bool.or_self])
theorem evDraw_sound (hΓ : ∀ f m, Γ f = some m → SoundF I f m) (hm : P.follows .mixedOrders = true) (hok : regionOk ops (Region.before ops) = true) {id : Nat} {st : St} (hdo : diffOk ops (Region.before ops) (avoidA ops st.tmps) = true) {r : β × σ} {Q : Exit → Act → World → Prop} (hQ : ∀ e' st' s' F' a' w', (k st').run I.step s' = some r → Cfg I S0 w0 e0 e' st' s' F' a' w' → Q .normal a' w')
    {e : Env} {s : σ} {F : Nat → Prop} {a : Act} {w : World} (C : Cfg I S0 w0 e0 e st s F a { w with drawn := w.drawn + 1 }) (h : (evDraw P Γ ops (Region.before ops) [] (avoidA ops st.tmps) (List.range ops.size) st k).run I.step s = some r) : (Code.region id ops true).wp P Q a w := by
  have hok := region_D [] hok
  refine wp_region_any hm (draw_late (D := []) hΓ (region_dec hok) ⟨(fun d hd => by cases hd), (fun d hd => by cases hd), fun d hd => by cases hd⟩ hQ ops.size (List.range ops.size) (List.range ops.size) (fun _ => 0) _ e st s F a _ (by simp) List.nodup_range (by simp) (fun i hi => ?_) (fun j o hj => ?_) ⟨C, fun i hi => by simpa using hi, List.nodup_range, ?_, fun i hi => hi, fun i hi hn => absurd hi hn, fun i hi j hj hn => absurd hi hn, (fun i hi hd => by cases hd), heldA_begin _⟩ h)
  · simp [hi]
  · rw [Array.getElem?_replicate] at hj
    split at hj <;> simp at hj
  · refine List.Pairwise.imp_of_mem (fun {p q} hp hq hpq => ?_) (List.pairwise_lt_range (n := ops.size))
    exact fit_range hok hdo (by simpa using hp) (by simpa using hq) hpq (by simp) (by simp)
theorem allPairs_pw {f : Nat → Nat → Bool} : ∀ {l : List Nat}, allPairs f l = true → l.Pairwise (fun p q => f p q = true)
  | [], _ => List.Pairwise.nil
  | x :: l, h => by
    simp only [allPairs, Bool.and_eq_true, List.all_eq_true] at h
    exact List.Pairwise.cons h.1 (allPairs_pw h.2)
theorem getS_keepS_bit (m : Nat) : ∀ (d i : Nat) (s : Sl) (t : Nat) (v : V), getS d (keepS m d i s) t = some v → m.testBit (i + t) = true
  | 0, i, s, t, v, h => by
    cases s with
    | leaf w =>
      simp only [keepS] at h
      cases hb : m.testBit i with
      | true =>
        rw [hb] at h
        simp only [cond_true, getS] at h
        cases ht : Nat.beq t 0 with
        | true => rw [Nat.eq_of_beq_eq_true ht]; simpa using hb
        | false => rw [ht] at h; cases h
      | false => rw [hb] at h; simp [getS] at h
    | tip => simp [keepS, getS] at h
    | node l r => simp [keepS, getS] at h
  | d + 1, i, s, t, v, h => by
    cases s with
    | node l r =>
      simp only [keepS] at h
      rw [getS_mkN] at h
      simp only [getS] at h
      cases hb : Nat.blt t (2 ^ d) with
      | true => rw [hb] at h; exact getS_keepS_bit m d i l t v h
      | false =>
        rw [hb] at h
        have := getS_keepS_bit m d _ r _ v h
        rw [blt_eq, decide_eq_false_iff_not] at hb
        rw [show i + t = i + 2 ^ d + (t - 2 ^ d) by omega]
        exact this
    | tip => simp [keepS, getS] at h
    | leaf w => simp [keepS, getS] at h
theorem drop_bits (ops : Array Oper) (t : Nat) : ∀ (D : List Nat) (m : Nat), (m.testBit t = true ∨ ∃ d ∈ D, (ops[d]?).bind (·.dst) = some t) → (D.foldl (fun m d => match (ops[d]?).bind (·.dst) with | some t => m ||| (1 <<< t) | none => m) m).testBit t = true
  | [], m, h => by
    rcases h with h | ⟨d, hd, _⟩
    · exact h
    · cases hd
  | d :: D, m, h => by
    rw [List.foldl_cons]
    refine drop_bits ops t D _ ?_
    rcases h with h | ⟨d', hd, hh⟩
    · left
      split
      · rw [Nat.testBit_or, h]; rfl
      · exact h
    · rcases List.mem_cons.1 hd with rfl | hd
      · left
        rw [hh]
        simp only [Nat.testBit_or, Nat.one_shiftLeft, Nat.testBit_two_pow_self, Bool.or_true]
      · exact .inr ⟨d', hd, hh⟩
theorem forgetT_get {ops : Array Oper} {D : List Nat} {l : Tm} {t : Nat} {v : V} (h : getT (forgetT ops D l) t = some v) : getT l t = some v ∧ ∀ d ∈ D, (ops[d]?).bind (·.dst) ≠ some t := by
  obtain ⟨h1, h2⟩ := getT_some h
  simp only [forgetT] at h1 h2
  refine ⟨?_, fun d hd hh => ?_⟩
  · unfold getT
    rw [blt_eq]
    simp only [h1, decide_true, cond_true]
    exact getS_keepS _ _ _ _ _ _ h2
  · have h3 := getS_keepS_bit _ _ _ _ _ _ h2
    rw [Nat.zero_add] at h3
    simp only [minus', Nat.testBit_xor, Nat.testBit_and] at h3
    generalize (1 <<< 512 - 1).testBit t = q at h3
    generalize hz : Nat.testBit (List.foldl _ 0 D) t = z at h3
    have hz1 : z = true := hz.symm.trans (drop_bits ops t D 0 (.inr ⟨d, hd, hh⟩))
    subst hz1
    cases q <;> cases h3
theorem late_fit {A : List (Nat × Nat)} (hok : regionOkD ops (Region.before ops) D = true) (hdo : diffOk ops (Region.before ops) A = true) (hD : LateD P ops D) {p q : Nat} (hp : p < ops.size) (hq : q < ops.size) (h : fitB ops (Region.before ops) D p q = true) : FitP ops (Region.before ops) D A p q := by
  have hop := Array.getElem?_eq_getElem hp
  have hoq := Array.getElem?_eq_getElem hq
  unfold fitB at h
  simp only [Bool.and_eq_true, Bool.not_eq_true', Bool.or_eq_true, hop, hoq] at h
  refine ⟨h.1.2, ?_⟩
  rcases h.2 with h2 | h2
  · exact .inl h2
  · rcases h2 with ⟨⟨hqD, hap⟩, hall⟩ | h2
    · have hqD : q ∈ D := by simpa using hqD
      refine .inr (.inr ⟨hqD, ⟨_, _, hop, hoq, hap⟩, fun i his hi => ?_⟩)
      simp only [List.all_eq_true, Bool.or_eq_true, Bool.not_eq_true'] at hall
      rcases hall i (by simpa using his) with h3 | h3
      · rw [hi] at h3; cases h3
      · exact h3
    · have kindD : ∀ d ∈ D, ∀ o, ops[d]? = some o → kindO o.op = 2 := by
        intro d hd o ho
        obtain ⟨o', ho', hb⟩ := hD.op d hd
        rw [ho] at ho'; cases ho'
        exact (newOp_spec hb).2.2.2
      split at h2
      · rename_i hpq
        simp only [Bool.and_eq_true, bne_iff_ne, ne_eq] at h2
        obtain ⟨⟨n1, n2⟩, h3⟩ := h2
        refine .inr (.inl ⟨_, _, hop, hoq, h3, fun k3 => absurd k3 n1, fun k3 => absurd k3 n2, fun k1 k5 => ?_, fun k6 k1 => ?_, fun k6 k1 => ?_⟩)
        all_goals
          simp only [Bool.or_eq_true] at hpq
          rcases hpq with hh | hh
          · have := kindD p (by simpa using hh) _ hop
            omega
          · have := kindD q (by simpa using hh) _ hoq
            omega
      · rename_i hpq
        simp only [Bool.or_eq_false_iff] at hpq
        exact (fit_range hok hdo hp hq (by simpa using h2) (by simpa using hpq.1) (by simpa using hpq.2)).2
theorem evLate_sound (hΓ : ∀ f m, Γ f = some m → SoundF I f m) (hm : P.follows .mixedOrders = true) (hok : regionOkD ops (Region.before ops) D = true) {id : Nat} {st : St} {L : List Nat} (hdo : diffOk ops (Region.before ops) (avoidA ops (forgetT ops D st.tmps)) = true) (hl : lateOk P ops (Region.before ops) D L = true) {r : β × σ} {Q : Exit → Act → World → Prop} (hQ : ∀ e' st' s' F' a' w', (k st').run I.step s' = some r → Cfg I S0 w0 e0 e' st' s' F' a' w' → Q .normal a' w')
    {e : Env} {s : σ} {F : Nat → Prop} {a : Act} {w : World} (C : Cfg I S0 w0 e0 e st s F a { w with drawn := w.drawn + 1 }) (h : (evDraw P Γ ops (Region.before ops) D (avoidA ops (forgetT ops D st.tmps)) L ⟨forgetT ops D st.tmps, st.heap⟩ k).run I.step s = some r) : (Code.region id ops true).wp P Q a w := by
  unfold lateOk at hl
  simp only [Bool.and_eq_true, List.all_eq_true, beq_iff_eq] at hl
  obtain ⟨⟨⟨hlen, hall⟩, hpw⟩, hbare⟩ := hl
  have hD : LateD P ops D := by
    refine ⟨fun d hd => ?_, fun d hd c hc => ?_, fun d hd i o o' dd hne ho ho' hdd hdo => ?_⟩
    · have := (hbare d hd).1
      split at this
      · exact ⟨_, ‹_›, (Bool.and_eq_true _ _ ▸ this).1⟩
      · cases this
    · have := (hbare d hd).2 c hc
      simpa using this
    · have := (hbare d hd).1
      rw [ho'] at this
      simp only [Bool.and_eq_true, List.all_eq_true] at this
      have h1 := this.2 (o, i) (zip_mem ho)
      simp only [Bool.or_eq_true, beq_iff_eq, bne_iff_ne, ne_eq] at h1
      rcases h1 with h1 | h1
      · exact hne h1
      · exact h1 (hdo.trans hdd.symm)
  have hmem : ∀ i, i < ops.size → i ∈ L := fun i hi => by
    have := hall i (by simpa using hi)
    simpa using this
  have hlt : ∀ i ∈ L, i < ops.size := fun i hi => by simpa using hlen i hi
  have hpp := allPairs_pw hpw
  have hnd : L.Nodup := by
    refine List.Pairwise.imp (fun {p q} h => ?_) hpp
    unfold fitB at h
    simp only [Bool.and_eq_true, bne_iff_ne, ne_eq] at h
    exact h.1.1
  have C2 : Cfg I S0 w0 e0 e ⟨forgetT ops D st.tmps, st.heap⟩ s F a { w with drawn := w.drawn + 1 } :=
    ⟨⟨C.rel.emb, C.rel.len, fun t v hv => C.rel.tmps t v (forgetT_get hv).1, C.rel.defers⟩, C.rep, C.disj, C.keeps, C.mine, C.ext⟩
  refine wp_region_any hm (draw_late hΓ (region_dec hok) hD hQ ops.size (List.range ops.size) L (fun _ => 0) _ e ⟨forgetT ops D st.tmps, st.heap⟩ s F a _ (by simp) List.nodup_range (by simp) (fun i hi => ?_) (fun j o hj => ?_) ⟨C2, hlt, hnd, ?_, fun i hi => hmem i (by simpa using hi), fun i hi hn => absurd (by simpa using hlt i hi) hn, fun i hi j hj hn => absurd (by simpa using hlt i hi) hn, fun i hi hd o dd ho hdst => ?_, heldA_begin _⟩ h)
  · simp [hi]
  · rw [Array.getElem?_replicate] at hj
    split at hj <;> simp at hj
  · refine List.Pairwise.imp_of_mem (fun {p q} hp hq hpq => ?_) hpp
    exact late_fit hok hdo hD (hlt p hp) (hlt q hq) hpq
  · cases hg : getT (forgetT ops D st.tmps) dd with
    | none => rfl
    | some v =>
      have := (forgetT_get hg).2 i hd
      rw [ho] at this
      exact absurd hdst this
end
end Go.Proofs.Ytjcdojcbdfblbaa.Lx
