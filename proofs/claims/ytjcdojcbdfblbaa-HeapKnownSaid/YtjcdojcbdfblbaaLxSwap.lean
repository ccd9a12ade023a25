/- The local executor: two operations that are not ordered may be done in either order. -/
import Derived.Test.YtjcdojcbdfblbaaLxDraw
namespace Go.Proofs.Ytjcdojcbdfblbaa.Lx
open Go
section
variable {P : Program} {σ : Type} {I : Port P σ} {Γ : Known} {S0 : Bool → Nat → Prop} {w0 : World} {e0 : Env} {ops : Array Oper}
theorem evalO_put {tmps : Tm} {dst : Option Tmp} {v : V} {x : Operand} (h : ∀ d, dst = some d → x ≠ .tmp d) : evalO (putT tmps dst v) x = evalO tmps x := by
  cases dst with
  | none => rfl
  | some d =>
    cases x with
    | tmp t =>
      have hne : t ≠ d := fun hh => h d rfl (by rw [hh])
      simp only [evalO, putT, getT_setT_ne _ _ hne]
    | _ => rfl
theorem valO_put {pu : PM} {o : Oper} {tmps : Tm} {dst : Option Tmp} {v : V} {H : Heap} {s : σ} (h : ∀ d, dst = some d → d ∉ o.looksAt ops) : valO Γ I ops pu o (putT tmps dst v) H s = valO Γ I ops pu o tmps H s := by
  have e1 : evStep P o.op (evalO (putT tmps dst v)) H = evStep P o.op (evalO tmps) H := evStep_congr fun x hx => evalO_put fun d hd hxd => by
    subst hxd
    refine h d hd ?_
    simp only [Oper.looksAt, List.mem_append, List.mem_filterMap]
    exact .inl ⟨.tmp d, by simpa using hx, rfl⟩
  unfold valO
  rw [e1]
  cases hg : o.guard with
  | none => rfl
  | some jw =>
    obtain ⟨j, want⟩ := jw
    simp only
    cases hsl : (ops[j]?).bind (·.dst) with
    | none => rfl
    | some sl =>
      simp only
      have : getT (putT tmps dst v) sl = getT tmps sl := by
        cases dst with
        | none => rfl
        | some d =>
          have hne : sl ≠ d := by
            rintro rfl
            refine h sl rfl ?_
            simp only [Oper.looksAt, List.mem_append, hg, hsl]
            exact .inr (by simp)
          simp only [putT, getT_setT_ne _ _ hne]
      rw [this]
/-- whether an operation is skipped hangs on slots alone. -/
theorem valO_cases (pu : PM) (o : Oper) (tmps : Tm) : (∀ H s, valO Γ I ops pu o tmps H s = doneV Γ I pu H s (evStep P o.op (evalO tmps) H)) ∨ (∀ H s, valO Γ I ops pu o tmps H s = some (.undef, H, s)) ∨ (∀ H s, valO Γ I ops pu o tmps H s = none) := by
  unfold valO
  cases o.guard with
  | none => exact .inl fun _ _ => rfl
  | some jw =>
    obtain ⟨j, want⟩ := jw
    simp only
    cases (ops[j]?).bind (·.dst) with
    | none => exact .inr (.inr fun _ _ => rfl)
    | some sl =>
      simp only
      cases getT tmps sl with
      | none => exact .inr (.inr fun _ _ => rfl)
      | some v =>
        cases v with
        | agg l => exact .inr (.inr fun _ _ => rfl)
        | tup l => cases l <;> first | exact .inr (.inl fun _ _ => rfl) | exact .inr (.inr fun _ _ => rfl)
        | c x =>
          cases x with
          | bool b =>
            by_cases h : b = want
            · subst h; exact .inl fun _ _ => if_pos rfl
            · exact .inr (.inl fun _ _ => if_neg h)
          | _ => exact .inr (.inr fun _ _ => rfl)
variable {pu : PM} {o : Oper} {tmps : Tm} {H H' : Heap} {s s' : σ} {v : V}
theorem done_ok {g : Bool} {u : V} {H0 : Heap} (h : doneV Γ I pu H s (some (.val g u H0)) = some (v, H', s')) : g = true ∧ u = v ∧ H0 = H' ∧ s = s' ∧ okV pu H H0 = true := by
  simp only [doneV] at h
  split at h
  · rename_i hg
    simp only [Option.some.injEq, Prod.mk.injEq] at h
    simp only [Bool.and_eq_true] at hg
    exact ⟨hg.2, h.1, h.2.1, h.2.2, hg.1⟩
  · cases h
theorem done_same {u : V} (pu : PM) (H : Heap) (s : σ) : doneV Γ I pu H s (some (.val true u H)) = some (u, H, s) := by
  simp only [doneV, okV_refl, Bool.and_self, if_true]
theorem done_new {u : V} (pu : PM) (H : Heap) (k : Blk) (s : σ) : doneV Γ I pu H s (some (.val true u (newB H k))) = some (u, newB H k, s) := by
  simp only [doneV, okV_new, Bool.and_self, if_true]
/-- an operation that leaves all as it is. -/
def Idle (Γ : Known) (I : Port P σ) (ops : Array Oper) (pu : PM) (o : Oper) (tmps : Tm) (v : V) : Prop := ∀ H s, valO Γ I ops pu o tmps H s = some (v, H, s)
theorem beh0 (hk : kindO o.op = 0) (h : valO Γ I ops pu o tmps H s = some (v, H', s')) : H' = H ∧ s' = s ∧ Idle Γ I ops pu o tmps v := by
  rcases valO_cases (Γ := Γ) (I := I) (ops := ops) pu o tmps with hc | hc | hc
  · rw [hc] at h
    cases hq : evStep P o.op (evalO tmps) H with
    | none => rw [hq] at h; cases h
    | some q =>
      obtain ⟨g, u, rfl, h2⟩ := kind0_val hk hq
      rw [hq] at h
      obtain ⟨rfl, rfl, rfl, rfl, _⟩ := done_ok h
      exact ⟨rfl, rfl, fun H2 s2 => by rw [hc, h2]; exact done_same pu H2 s2⟩
  · rw [hc] at h
    cases h
    exact ⟨rfl, rfl, hc⟩
  · rw [hc] at h; cases h
theorem ptrB_const (c : Value) : ptrB (constV c) = none := by
  unfold constV
  split
  · cases allSome constC _ <;> rfl
  · split <;> rfl
  · unfold constC; split <;> rfl
theorem beh1 (hk : kindO o.op = 1) (h : valO Γ I ops pu o tmps H s = some (v, H', s')) : H' = H ∧ s' = s ∧ (Idle Γ I ops pu o tmps v ∨ ∃ b, (∃ (t p : Nat), (∃ ty, o.op = .load ty (.tmp t)) ∧ ptrB (getT tmps t) = some b) ∧ ∀ H2 s2, blkAt H2 b = blkAt H b → valO Γ I ops pu o tmps H2 s2 = some (v, H2, s2)) := by
  have hld : ∃ ty a, o.op = .load ty a := by
    cases hop : o.op with
    | load ty a => exact ⟨ty, a, rfl⟩
    | store ty a x => cases a <;> simp [kindO, hop] at hk
    | lookup ty a x ok => cases a <;> simp [kindO, hop] at hk
    | call c => obtain ⟨callee, as, ats⟩ := c; cases callee <;> simp [kindO, hop] at hk; split at hk <;> simp at hk
    | _ => simp [kindO, hop] at hk
  obtain ⟨ty, ad, hld⟩ := hld
  rcases valO_cases (Γ := Γ) (I := I) (ops := ops) pu o tmps with hc | hc | hc
  · rw [hc] at h
    cases hq : evStep P o.op (evalO tmps) H with
    | none => rw [hq] at h; cases h
    | some q =>
      obtain ⟨g, u, b, rfl, hb, ⟨x, hx, hxp⟩, h2⟩ := kind1_val hk hq
      rw [hq] at h
      obtain ⟨rfl, rfl, rfl, rfl, _⟩ := done_ok h
      refine ⟨rfl, rfl, .inr ⟨b, ?_, fun H2 s2 hb2 => by rw [hc, h2 H2 hb2]; exact done_same pu H2 s2⟩⟩
      have hxa : x = ad := by rw [hld] at hx; simpa [Op.operands] using hx
      cases x with
      | tmp t => exact ⟨t, 0, ⟨ty, by rw [hld, ← hxa]⟩, hxp⟩
      | const c =>
        simp only [evalO, ptrB_const] at hxp
        cases hxp
      | global g => simp [evalO, ptrB] at hxp
      | func f => simp [evalO, ptrB] at hxp
  · rw [hc] at h
    cases h
    exact ⟨rfl, rfl, .inl hc⟩
  · rw [hc] at h; cases h
theorem beh7 (hk : kindO o.op = 7) (h : valO Γ I ops pu o tmps H s = some (v, H', s')) : H' = H ∧ s' = s ∧ (Idle Γ I ops pu o tmps v ∨ ∃ b, (∃ t, getT tmps t = some (.c (.mp b))) ∧ ∀ H2 s2, blkAt H2 b = blkAt H b → valO Γ I ops pu o tmps H2 s2 = some (v, H2, s2)) := by
  have hld : ∃ ty t x ok, o.op = .lookup ty (.tmp t) x ok := by
    cases hop : o.op with
    | lookup ty a x ok => cases a <;> first | exact ⟨ty, _, x, ok, rfl⟩ | (simp [kindO, hop] at hk)
    | store ty a x => cases a <;> simp [kindO, hop] at hk
    | call c => obtain ⟨callee, as, ats⟩ := c; cases callee <;> simp [kindO, hop] at hk; split at hk <;> simp at hk
    | _ => simp [kindO, hop] at hk
  obtain ⟨ty, t, x, ok, hld⟩ := hld
  rcases valO_cases (Γ := Γ) (I := I) (ops := ops) pu o tmps with hc | hc | hc
  · rw [hc] at h
    cases hq : evStep P o.op (evalO tmps) H with
    | none => rw [hq] at h; cases h
    | some q =>
      rw [hld] at hq
      obtain ⟨g, u, b, rfl, hb, h2⟩ := kind7_val hq
      rw [hld, hq] at h
      obtain ⟨rfl, rfl, rfl, rfl, _⟩ := done_ok h
      exact ⟨rfl, rfl, .inr ⟨b, ⟨t, hb⟩, fun H2 s2 hb2 => by rw [hc, hld, h2 H2 hb2]; exact done_same pu H2 s2⟩⟩
  · rw [hc] at h
    cases h
    exact ⟨rfl, rfl, .inl hc⟩
  · rw [hc] at h; cases h
theorem beh2 (hk : kindO o.op = 2) (h : valO Γ I ops pu o tmps H s = some (v, H', s')) : s' = s ∧ ((H' = H ∧ Idle Γ I ops pu o tmps v) ∨ ∃ k, H' = newB H k ∧ ∀ H2 s2, H2.length = H.length → valO Γ I ops pu o tmps H2 s2 = some (v, newB H2 k, s2)) := by
  rcases valO_cases (Γ := Γ) (I := I) (ops := ops) pu o tmps with hc | hc | hc
  · rw [hc] at h
    cases hq : evStep P o.op (evalO tmps) H with
    | none => rw [hq] at h; cases h
    | some q =>
      obtain ⟨u, k, rfl, h2⟩ := kind2_val hk hq
      rw [hq] at h
      obtain ⟨_, rfl, rfl, rfl, _⟩ := done_ok h
      exact ⟨rfl, .inr ⟨k, rfl, fun H2 s2 hl => by rw [hc, h2 H2 hl]; exact done_new pu H2 k s2⟩⟩
  · rw [hc] at h
    cases h
    exact ⟨rfl, .inl ⟨rfl, hc⟩⟩
  · rw [hc] at h; cases h
theorem beh3 (hk : kindO o.op = 3) (h : valO Γ I ops .pure o tmps H s = some (v, H', s')) : H' = H ∧ ∀ H2, valO Γ I ops .pure o tmps H2 s = some (v, H2, s') := by
  rcases valO_cases (Γ := Γ) (I := I) (ops := ops) .pure o tmps with hc | hc | hc
  · rw [hc] at h
    cases hq : evStep P o.op (evalO tmps) H with
    | none => rw [hq] at h; cases h
    | some q =>
      obtain ⟨h1, h2⟩ := kind3_val hk hq
      rw [hq] at h
      cases q with
      | val g u H0 => exact absurd rfl (h1 g u H0)
      | port p =>
        simp only [doneV] at h
        cases hs : I.step p s with
        | none => rw [hs] at h; cases h
        | some vs =>
          rw [hs] at h
          cases h
          exact ⟨rfl, fun H2 => by rw [hc, h2 H2]; simp only [doneV, hs]⟩
      | call f args =>
        simp only [doneV] at h
        cases ht : evPure Γ f args with
        | none => rw [ht] at h; cases h
        | some S =>
          rw [ht] at h
          simp only at h
          cases hr : S.t.run I.step s with
          | none => rw [hr] at h; cases h
          | some r =>
            rw [hr] at h
            simp only at h
            cases hf : S.f r.1 with
            | none => rw [hf] at h; cases h
            | some q =>
              rw [hf] at h
              cases h
              exact ⟨rfl, fun H2 => by rw [hc, h2 H2]; simp only [doneV, ht, hr, hf]⟩
  · rw [hc] at h
    cases h
    exact ⟨rfl, fun H2 => hc H2 s⟩
  · rw [hc] at h; cases h
theorem setBs_keeps : ∀ (l : List Nat) (xs : List (Option Blk)) (H : Heap) (b : Nat), b ∉ l → blkAt (setBs H l xs) b = blkAt H b
  | [], xs, H, b, h => by cases xs <;> rfl
  | c :: l, [], H, b, h => rfl
  | c :: l, x :: xs, H, b, h => by
    rw [setBs, setBs_keeps l xs _ b (fun hh => h (by simp [hh])), setB_eq, blkAt_eq, blkAt_eq, List.getElem?_set_ne (fun hh => h (by simp [hh]))]
theorem evCall_keeps {f : FuncId} {args : List V} {S : Sum} {x : S.α} {q : V × Heap} {l : List Nat} {b : Nat} (h : evCall Γ f args H = some S) (hf : S.f x = some q) (hr : reach H 1000 (args.flatMap idsV) [] = some l) (hb : b ∉ l) (hlt : b < H.length) : blkAt q.2 b = blkAt H b := by
  unfold evCall at h
  split at h
  · cases h
  · rw [hr] at h
    simp only at h
    split at h
    · split at h
      · cases h
      · cases h
        simp only at hf
        split at hf
        · cases hf
        · split at hf
          · split at hf
            · cases hf
              simp only
              rw [blkAt_eq, List.getElem?_append_left (by rw [setBs_length]; exact hlt), ← blkAt_eq, setBs_keeps _ _ _ _ hb]
            · cases hf
          · cases hf
    · cases h
/-! ### calls that leave no further blocks, beside a new block -/
/-- all numbers of blocks that slots and blocks hold are there. -/
def Closed (tmps : Tm) (H : Heap) : Prop := (∀ t v, getT tmps t = some v → ∀ b ∈ idsV v, b < H.length) ∧ ∀ i k, blkAt H i = some k → ∀ b ∈ idsCs k.cells, b < H.length
theorem blkAt_lt {H : Heap} {b : Nat} {k : Blk} (h : blkAt H b = some k) : b < H.length := (List.getElem?_eq_some_iff.1 (blkAt_some.1 h)).1
theorem reach_newB {H : Heap} {k : Blk} (hc : ∀ i kk, blkAt H i = some kk → ∀ b ∈ idsCs kk.cells, b < H.length) : ∀ (n : Nat) (todo acc : List Nat), (∀ b ∈ todo, b < H.length) → reach (newB H k) n todo acc = reach H n todo acc
  | n, [], acc, h => by cases n <;> rfl
  | 0, b :: todo, acc, h => rfl
  | n + 1, b :: todo, acc, h => by
    simp only [reach]
    have hb := h b (by simp)
    have hlt : blkAt (newB H k) b = blkAt H b := by rw [blkAt_new, if_neg (by omega)]
    rw [hlt]
    split
    · exact reach_newB hc n todo acc fun x hx => h x (by simp [hx])
    · split
      · rename_i kk hk
        refine reach_newB hc n _ _ fun x hx => ?_
        rcases List.mem_append.1 hx with hx | hx
        · exact hc b kk hk x hx
        · exact h x (by simp [hx])
      · rfl
theorem setBs_newB (k : Blk) : ∀ (l : List Nat) (xs : List (Option Blk)) (H : Heap), (∀ b ∈ l, b < H.length) → setBs (newB H k) l xs = newB (setBs H l xs) k
  | [], xs, H, h => by cases xs <;> rfl
  | c :: l, [], H, h => rfl
  | c :: l, x :: xs, H, h => by
    simp only [setBs]
    have hb := h c (by simp)
    have : setB (newB H k) c x = newB (setB H c x) k := by
      rw [setB_eq, setB_eq, newB, newB, List.set_append_left _ _ hb]
    rw [this]
    exact setBs_newB k l xs _ fun b hb => by rw [setB_eq, List.length_set]; exact h b (by simp [hb])
theorem setBs_len (l : List Nat) (xs : List (Option Blk)) (H : Heap) : (setBs H l xs).length = H.length := setBs_length ..
theorem callK_new {A : List Nat} {f : FuncId} {args : List V} {k : Blk} (hc : ∀ i kk, blkAt H i = some kk → ∀ b ∈ idsCs kk.cells, b < H.length) (ha : ∀ b ∈ args.flatMap idsV, b < H.length) :
    evCallK Γ A f args (newB H k) = (evCallK Γ A f args H).map fun S => ⟨S.α, S.t, fun a => (S.f a).map fun q => (q.1, newB q.2 k), S.b, S.hb⟩ := by
  unfold evCallK
  cases Γ f with
  | none => rfl
  | some m =>
    simp only
    rw [reach_newB hc _ _ _ ha]
    cases hl : reach H 1000 (args.flatMap idsV) [] with
    | none => rfl
    | some l =>
      simp only
      obtain ⟨_, hk, _⟩ := reach_ok H _ _ [] l hl (by simp) (by simp)
      have hlt : ∀ b ∈ l, b < H.length := fun b hb => by obtain ⟨kk, h⟩ := hk b hb; exact blkAt_lt h
      have e1 : allSome (fun b => renB (idx l) (blkAt (newB H k) b)) l = allSome (fun b => renB (idx l) (blkAt H b)) l := by
        have : ∀ q : List Nat, (∀ b ∈ q, b < H.length) → allSome (fun b => renB (idx l) (blkAt (newB H k) b)) q = allSome (fun b => renB (idx l) (blkAt H b)) q := by
          intro q
          induction q with
          | nil => intro _; rfl
          | cons x q ih =>
            intro h
            have hx := h x (by simp)
            simp only [allSome, ih fun b hb => h b (by simp [hb])]
            rw [blkAt_new, if_neg (by omega)]
        exact this l hlt
      rw [e1]
      cases A.all fun b => !(l.contains b) with
      | false => rfl
      | true =>
        simp only
        cases allSome (renV (idx l)) args with
        | none => rfl
        | some args' =>
          cases allSome (fun b => renB (idx l) (blkAt H b)) l with
          | none => rfl
          | some H0 =>
            simp only
            cases m args' H0 with
            | none => rfl
            | some S =>
              simp only [Option.map_some, Option.some.injEq, Sum.mk.injEq, heq_eq_eq, true_and, and_true]
              funext a
              cases S.f a with
              | none => rfl
              | some r =>
                simp only
                cases renV (fun i => l[i]?) r.1 with
                | none => rfl
                | some v =>
                  cases allSome (renB fun i => l[i]?) r.2 with
                  | none => rfl
                  | some H1 =>
                    simp only
                    split
                    · simp only [Option.map_some, setBs_newB k l H1 H hlt]
                    · rfl
theorem callK_len {A : List Nat} {f : FuncId} {args : List V} {S : Sum} {x : S.α} {q : V × Heap} (h : evCallK Γ A f args H = some S) (hf : S.f x = some q) : q.2.length = H.length ∧ ∀ b ∈ A, blkAt q.2 b = blkAt H b := by
  unfold evCallK at h
  split at h
  · cases h
  · split at h
    · cases h
    · rename_i l hl
      split at h
      · cases h
      · rename_i hA
        split at h
        · split at h
          · cases h
          · cases h
            simp only at hf
            split at hf
            · cases hf
            · split at hf
              · split at hf
                · cases hf
                  refine ⟨setBs_len .., fun b hb => setBs_keeps _ _ _ _ fun hm => ?_⟩
                  rw [List.all_eq_true] at hA
                  have := hA b hb
                  rw [List.contains_iff_mem.2 hm] at this
                  cases this
                · cases hf
              · cases hf
        · cases h
theorem idsV_const {x : Value} {v : V} (h : constV x = some v) : idsV v = [] := by
  have hc : ∀ {x : Value} {c : C}, constC x = some c → idsC c = [] := by
    intro x c h
    unfold constC at h
    split at h <;> cases h <;> rfl
  have hcs : ∀ (l : List Value) (r : List C), allSome constC l = some r → idsCs r = [] := by
    intro l
    induction l with
    | nil => intro r h; simp only [allSome, Option.some.injEq] at h; subst h; rfl
    | cons a l ih =>
      intro r h
      simp only [allSome] at h
      split at h
      · rename_i y hy
        split at h
        · rename_i ys hys
          cases h
          simp only [idsCs, hc hy, ih ys hys, List.append_nil]
        · cases h
      · cases h
  unfold constV at h
  split at h
  · rw [Option.map_eq_some_iff] at h; obtain ⟨r, h1, rfl⟩ := h; exact hcs _ _ h1
  · split at h
    · cases h; rfl
    · cases h
  · rw [Option.map_eq_some_iff] at h; obtain ⟨r, h1, rfl⟩ := h; exact hc h1
theorem evalO_ids {tmps : Tm} {H : Heap} (hc : ∀ t v, getT tmps t = some v → ∀ b ∈ idsV v, b < H.length) {x : Operand} {v : V} (h : evalO tmps x = some v) : ∀ b ∈ idsV v, b < H.length := by
  cases x with
  | tmp t => exact hc t v h
  | const c => rw [idsV_const h]; intro b hb; cases hb
  | global g => simp [evalO] at h
  | func f => simp only [evalO, Option.some.injEq] at h; subst h; intro b hb; simp [idsV, idsC, idsCs] at hb
theorem allSome_ids {tmps : Tm} {H : Heap} (hc : ∀ t v, getT tmps t = some v → ∀ b ∈ idsV v, b < H.length) : ∀ (l : List Operand) (vs : List V), allSome (evalO tmps) l = some vs → ∀ b ∈ vs.flatMap idsV, b < H.length
  | [], vs, h, b, hb => by simp only [allSome, Option.some.injEq] at h; subst h; simp at hb
  | x :: l, vs, h, b, hb => by
    simp only [allSome] at h
    split at h
    · rename_i y hy
      split at h
      · rename_i ys hys
        cases h
        simp only [List.flatMap_cons, List.mem_append] at hb
        rcases hb with hb | hb
        · exact evalO_ids hc hy b hb
        · exact allSome_ids hc l ys hys b hb
      · cases h
    · cases h
theorem caps_ids : ∀ caps : List C, (caps.map V.c).flatMap idsV = idsCs caps
  | [] => rfl
  | c :: l => by simp only [List.map_cons, List.flatMap_cons, caps_ids l, idsV, idsCs]
theorem call_ids {tmps : Tm} {H H2 : Heap} (hc : ∀ t v, getT tmps t = some v → ∀ b ∈ idsV v, b < H.length) {op : Op} (hk : kindO op = 3) {f : FuncId} {args : List V} (h : evStep P op (evalO tmps) H2 = some (.call f args)) : ∀ b ∈ args.flatMap idsV, b < H.length := by
  cases op <;> simp [kindO] at hk
  case lookup t a x ok => cases a <;> simp at hk
  case call c =>
    obtain ⟨callee, as, ats⟩ := c
    cases callee with
    | builtin b => simp at hk; split at hk <;> simp at hk
    | invoke r n =>
      simp only [evStep] at h
      (repeat' (split at h)) <;> first
        | cases h
        | (rw [Option.map_eq_some_iff] at h; obtain ⟨_, _, h2⟩ := h; cases h2)
    | value g =>
      simp only [evStep] at h
      split at h
      · rename_i vs hvs
        split at h
        · rename_i f' caps hf
          cases h
          intro b hb
          rw [List.flatMap_append, List.mem_append, caps_ids] at hb
          rcases hb with hb | hb
          · exact allSome_ids hc _ _ hvs b hb
          · exact evalO_ids hc hf b (by simpa [idsV, idsC] using hb)
        · rw [Option.map_eq_some_iff] at h; obtain ⟨_, _, h2⟩ := h; cases h2
        · cases h
      · cases h
  case store t a x => cases a <;> simp at hk
/-- such a call, beside a new block. -/
theorem behK {B : List Nat} (hk : kindO o.op = 3) (hcl : Closed tmps H) (kk : Blk) : valO Γ I ops (.keep B) o tmps (newB H kk) s = (valO Γ I ops (.keep B) o tmps H s).map fun r => (r.1, newB r.2.1 kk, r.2.2) := by
  rcases valO_cases (Γ := Γ) (I := I) (ops := ops) (.keep B) o tmps with hc | hc | hc
  · rw [hc, hc]
    cases hq : evStep P o.op (evalO tmps) H with
    | none =>
      cases hq2 : evStep P o.op (evalO tmps) (newB H kk) with
      | none => rfl
      | some q => have := (kind3_val hk hq2).2 H; rw [hq] at this; cases this
    | some q =>
      obtain ⟨h1, h2⟩ := kind3_val hk hq
      rw [h2]
      cases q with
      | val g u H0 => exact absurd rfl (h1 g u H0)
      | port p =>
        simp only [doneV]
        cases I.step p s <;> rfl
      | call f args =>
        simp only [doneV]
        rw [callK_new hcl.2 (call_ids hcl.1 hk hq)]
        cases evCallK Γ B f args H with
        | none => rfl
        | some S =>
          simp only [Option.map_some]
          cases S.t.run I.step s with
          | none => rfl
          | some r =>
            simp only
            cases S.f r.1 <;> rfl
  · rw [hc, hc]; rfl
  · rw [hc, hc]; rfl
theorem behK_len {B : List Nat} (hk : kindO o.op = 3) (h : valO Γ I ops (.keep B) o tmps H s = some (v, H', s')) : H'.length = H.length ∧ ∀ b ∈ B, blkAt H' b = blkAt H b := by
  rcases valO_cases (Γ := Γ) (I := I) (ops := ops) (.keep B) o tmps with hc | hc | hc
  · rw [hc] at h
    cases hq : evStep P o.op (evalO tmps) H with
    | none => rw [hq] at h; cases h
    | some q =>
      obtain ⟨h1, h2⟩ := kind3_val hk hq
      rw [hq] at h
      cases q with
      | val g u H0 => exact absurd rfl (h1 g u H0)
      | port p =>
        simp only [doneV] at h
        cases hs : I.step p s with
        | none => rw [hs] at h; cases h
        | some vs => rw [hs] at h; cases h; exact ⟨rfl, fun _ _ => rfl⟩
      | call f args =>
        simp only [doneV] at h
        cases ht : evCallK Γ B f args H with
        | none => rw [ht] at h; cases h
        | some S =>
          rw [ht] at h
          simp only at h
          cases hr : S.t.run I.step s with
          | none => rw [hr] at h; cases h
          | some r =>
            rw [hr] at h
            simp only at h
            cases hf : S.f r.1 with
            | none => rw [hf] at h; cases h
            | some q =>
              rw [hf] at h
              cases h
              exact callK_len ht hf
  · rw [hc] at h; cases h; exact ⟨rfl, fun _ _ => rfl⟩
  · rw [hc] at h; cases h
/-- a store at a slot's address. -/
theorem beh5 (hk : kindO o.op = 5) (h : valO Γ I ops pu o tmps H s = some (v, H', s')) : s' = s ∧ ((H' = H ∧ Idle Γ I ops pu o tmps v) ∨ ∃ b kn, (∃ t, (∃ ty x, o.op = .store ty (.tmp t) x) ∧ ptrB (getT tmps t) = some b) ∧ H' = setB H b (some kn)) := by
  have hst : ∃ ty t x, o.op = .store ty (.tmp t) x := by
    cases hop : o.op with
    | store ty a x => cases a <;> first | exact ⟨ty, _, x, rfl⟩ | (simp [kindO, hop] at hk)
    | lookup ty a x ok => cases a <;> simp [kindO, hop] at hk
    | call c => obtain ⟨callee, as, ats⟩ := c; cases callee <;> simp [kindO, hop] at hk; try (split at hk <;> simp at hk)
    | _ => simp [kindO, hop] at hk
  obtain ⟨ty, t, x, hst⟩ := hst
  rcases valO_cases (Γ := Γ) (I := I) (ops := ops) pu o tmps with hc | hc | hc
  · rw [hc] at h
    cases hq : evStep P o.op (evalO tmps) H with
    | none => rw [hq] at h; cases h
    | some q =>
      rw [hq] at h
      rw [hst] at hq
      simp only [evStep, evalO] at hq
      split at hq
      · rename_i b p u ha hx
        split at hq
        · rename_i kb xs n hb hxs hn
          split at hq
          · split at hq
            · rename_i g kn hkn
              cases hq
              obtain ⟨_, rfl, rfl, rfl, _⟩ := done_ok h
              exact ⟨rfl, .inr ⟨b, kn, ⟨t, ⟨ty, x, hst⟩, by rw [ha]; rfl⟩, rfl⟩⟩
            · cases hq
          · cases hq
        · cases hq
      · rename_i b off i m f u ha hx
        split at hq
        · rename_i kb xs n hb hxs hn
          split at hq
          · split at hq
            · rename_i g kn hkn
              cases hq
              obtain ⟨_, rfl, rfl, rfl, _⟩ := done_ok h
              exact ⟨rfl, .inr ⟨b, kn, ⟨t, ⟨ty, x, hst⟩, by rw [ha]; rfl⟩, rfl⟩⟩
            · cases hq
          · cases hq
        · cases hq
      · cases hq
  · rw [hc] at h
    cases h
    exact ⟨rfl, .inl ⟨rfl, hc⟩⟩
  · rw [hc] at h; cases h
/-- a call that keeps off some blocks. -/
theorem behA {B : List Nat} (hk : kindO o.op = 3) (h : valO Γ I ops (.avoid B) o tmps H s = some (v, H', s')) : ∀ b ∈ B, blkAt H' b = blkAt H b := by
  intro b hb
  rcases valO_cases (Γ := Γ) (I := I) (ops := ops) (.avoid B) o tmps with hc | hc | hc
  · rw [hc] at h
    cases hq : evStep P o.op (evalO tmps) H with
    | none => rw [hq] at h; cases h
    | some q =>
      obtain ⟨h1, h2⟩ := kind3_val hk hq
      rw [hq] at h
      cases q with
      | val g u H0 => exact absurd rfl (h1 g u H0)
      | port p =>
        simp only [doneV] at h
        cases hs : I.step p s with
        | none => rw [hs] at h; cases h
        | some vs => rw [hs] at h; cases h; rfl
      | call f args =>
        simp only [doneV] at h
        split at h
        · rename_i hav
          unfold avoidsB at hav
          split at hav
          · rename_i l hl
            rw [List.all_eq_true] at hav
            have := hav b hb
            simp only [Bool.and_eq_true, Bool.not_eq_true', decide_eq_true_eq] at this
            obtain ⟨hnl, hlt⟩ := this
            have hnl' : b ∉ l := fun hm => by rw [List.contains_iff_mem.2 hm] at hnl; cases hnl
            unfold doneC at h
            cases ht : evCall Γ f args H with
            | none => rw [ht] at h; cases h
            | some S =>
              rw [ht] at h
              simp only at h
              cases hr : S.t.run I.step s with
              | none => rw [hr] at h; cases h
              | some r =>
                rw [hr] at h
                simp only at h
                cases hf : S.f r.1 with
                | none => rw [hf] at h; cases h
                | some q =>
                  rw [hf] at h
                  cases h
                  exact evCall_keeps ht hf hl hnl' hlt
          · cases hav
        · cases h
  · rw [hc] at h; cases h; rfl
  · rw [hc] at h; cases h
/-- a row that grows, and leaves all that was. -/
theorem beh6 (hk : kindO o.op = 6) (h : valO Γ I ops .fresh o tmps H s = some (v, H', s')) : s' = s ∧ ((H' = H ∧ Idle Γ I ops .fresh o tmps v) ∨ ∃ k, H' = newB H k) := by
  rcases valO_cases (Γ := Γ) (I := I) (ops := ops) .fresh o tmps with hc | hc | hc
  · rw [hc] at h
    cases hq : evStep P o.op (evalO tmps) H with
    | none => rw [hq] at h; cases h
    | some q =>
      obtain ⟨g, u, H0, rfl, h2⟩ := kind6_val hk hq
      rw [hq] at h
      obtain ⟨_, rfl, rfl, rfl, hs⟩ := done_ok h
      exact ⟨rfl, .inr (h2 hs)⟩
  · rw [hc] at h
    cases h
    exact ⟨rfl, .inl ⟨rfl, hc⟩⟩
  · rw [hc] at h; cases h
theorem newB_length (H : Heap) (k : Blk) : (newB H k).length = H.length + 1 := by simp [newB]
theorem blkAt_newB {H : Heap} {k : Blk} {b : Nat} (h : b < H.length) : blkAt (newB H k) b = blkAt H b := by
  rw [blkAt_new, if_neg (by omega)]
/-- a way of touching blocks that keeps off the block that a load looks at. -/
def Avoids (tmps : Tm) (pu : PM) (x : Oper) : Prop := kindO x.op = 1 ∧ ∃ B, (pu = .avoid B ∨ pu = .keep B) ∧ ∀ ty t b (p : Nat), x.op = .load ty (.tmp t) → ptrB (getT tmps t) = some b → b ∈ B
theorem swap_kinds {i j : Nat} (hk : swapKinds i j = true) (hi : ¬ i = 0) (hj : ¬ j = 0) : (i = 1 ∧ j = 1) ∨ (i = 1 ∧ j = 2) ∨ (i = 1 ∧ j = 3) ∨ (i = 2 ∧ j = 1) ∨ (i = 3 ∧ j = 1) ∨ (i = 2 ∧ j = 3) ∨ (i = 3 ∧ j = 2) ∨ (i = 1 ∧ j = 5) ∨ (i = 1 ∧ j = 6) ∨ (i = 6 ∧ j = 1) ∨ (i = 7 ∧ j = 1) ∨ (i = 7 ∧ j = 2) ∨ (i = 7 ∧ j = 7) ∨ (i = 1 ∧ j = 7) ∨ (i = 2 ∧ j = 7) := by
  simp only [swapKinds, Bool.or_eq_true, Bool.and_eq_true, beq_iff_eq, decide_eq_true_eq] at hk
  rcases hk with (((((((((h | h) | h) | h) | h) | h) | h) | h) | h) | h) | h
  · exact absurd h hi
  · exact absurd h hj
  · obtain ⟨rfl, h⟩ := h
    have : j = 1 ∨ j = 2 ∨ j = 3 := by omega
    rcases this with rfl | rfl | rfl <;> simp
  · obtain ⟨rfl, h⟩ := h
    have : i = 1 ∨ i = 2 ∨ i = 3 := by omega
    rcases this with rfl | rfl | rfl <;> simp
  rotate_right
  · obtain ⟨rfl, h | h⟩ := h <;> subst h <;> simp
  rotate_right
  · obtain ⟨rfl, (h | h) | h⟩ := h <;> subst h <;> simp
  all_goals
    obtain ⟨rfl, rfl⟩ := h
    simp
/-- two operations that may be swapped, the slots being what they are. -/
theorem swap_val {x y : Oper} {px py : PM} {vx vy : V} {Hx Hy : Heap} {sx sy : σ} (hk : swapKinds (kindO x.op) (kindO y.op) = true) (hx : valO Γ I ops px x tmps H s = some (vx, Hx, sx)) (hy : valO Γ I ops py y tmps Hx sx = some (vy, Hy, sy))
    (hpx : kindO x.op = 3 → (kindO y.op = 1 ∨ kindO y.op = 2) → px = .pure ∨ Avoids tmps px y ∨ (kindO y.op = 2 ∧ ∃ B, px = .keep B)) (hpy : kindO y.op = 3 → (kindO x.op = 1 ∨ kindO x.op = 2) → py = .pure ∨ Avoids tmps py x ∨ (kindO x.op = 2 ∧ ∃ B, py = .keep B)) (hs : ∀ t b (p : Nat), ptrB (getT tmps t) = some b → b < H.length)
    (hcl : Closed tmps H) (hdf : kindO x.op = 1 → kindO y.op = 5 → ∀ tx t tz z q b (p : Nat) c, x.op = .load tx (.tmp t) → y.op = .store tz (.tmp z) q → ptrB (getT tmps t) = some b → ptrB (getT tmps z) = some c → b ≠ c)
    (h6x : kindO x.op = 6 → kindO y.op = 1 → px = .fresh) (h6y : kindO y.op = 6 → kindO x.op = 1 → py = .fresh) :
    ∃ H1 s1, valO Γ I ops py y tmps H s = some (vy, H1, s1) ∧ valO Γ I ops px x tmps H1 s1 = some (vx, Hy, sy) := by
  have idleX : Hx = H → sx = s → Idle Γ I ops px x tmps vx → ∃ H1 s1, valO Γ I ops py y tmps H s = some (vy, H1, s1) ∧ valO Γ I ops px x tmps H1 s1 = some (vx, Hy, sy) := by
    rintro rfl rfl hi
    exact ⟨Hy, sy, hy, hi _ _⟩
  have idleY : Hy = Hx → sy = sx → Idle Γ I ops py y tmps vy → ∃ H1 s1, valO Γ I ops py y tmps H s = some (vy, H1, s1) ∧ valO Γ I ops px x tmps H1 s1 = some (vx, Hy, sy) := by
    rintro rfl rfl hi
    exact ⟨H, s, hi _ _, hx⟩
  by_cases hx0 : kindO x.op = 0
  · obtain ⟨h1, h2, h3⟩ := beh0 hx0 hx
    exact idleX h1 h2 h3
  by_cases hy0 : kindO y.op = 0
  · obtain ⟨h1, h2, h3⟩ := beh0 hy0 hy
    exact idleY h1 h2 h3
  have hcases := swap_kinds hk hx0 hy0
  rcases hcases with ⟨k1, k2⟩ | ⟨k1, k2⟩ | ⟨k1, k2⟩ | ⟨k1, k2⟩ | ⟨k1, k2⟩ | ⟨k1, k2⟩ | ⟨k1, k2⟩ | ⟨k1, k2⟩ | ⟨k1, k2⟩ | ⟨k1, k2⟩ | ⟨k1, k2⟩ | ⟨k1, k2⟩ | ⟨k1, k2⟩ | ⟨k1, k2⟩ | ⟨k1, k2⟩
  · obtain ⟨rfl, rfl, h3⟩ := beh1 k1 hx
    obtain ⟨rfl, rfl, h6⟩ := beh1 k2 hy
    exact ⟨_, _, hy, hx⟩
  · obtain ⟨rfl, rfl, h3⟩ := beh1 k1 hx
    obtain ⟨rfl, h6⟩ := beh2 k2 hy
    rcases h3 with h3 | ⟨b, ⟨t, p, _, hb⟩, h3⟩
    · exact idleX rfl rfl h3
    · rcases h6 with ⟨rfl, h6⟩ | ⟨k, rfl, h6⟩
      · exact idleY rfl rfl h6
      · exact ⟨_, _, hy, h3 _ _ (blkAt_newB (hs t b p hb))⟩
  · obtain ⟨rfl, rfl, h3⟩ := beh1 k1 hx
    rcases h3 with h3 | ⟨b, ⟨t, p, ⟨ty, hop⟩, hb⟩, h3⟩
    · exact idleX rfl rfl h3
    · rcases hpy k2 (.inl k1) with rfl | ⟨_, B, rfl | rfl, hB⟩ | ⟨h0, _⟩
      · obtain ⟨rfl, h6⟩ := beh3 k2 hy
        exact ⟨_, _, hy, h3 _ _ rfl⟩
      · exact ⟨_, _, hy, h3 _ _ (behA k2 hy b (hB ty t b p hop hb))⟩
      · exact ⟨_, _, hy, h3 _ _ ((behK_len k2 hy).2 b (hB ty t b p hop hb))⟩
      · omega
  · obtain ⟨rfl, h3⟩ := beh2 k1 hx
    obtain ⟨rfl, rfl, h6⟩ := beh1 k2 hy
    rcases h3 with ⟨rfl, h3⟩ | ⟨k, rfl, h3⟩
    · exact idleX rfl rfl h3
    · rcases h6 with h6 | ⟨b, ⟨t, p, _, hb⟩, h6⟩
      · exact idleY rfl rfl h6
      · exact ⟨H, _, h6 _ _ (blkAt_newB (hs t b p hb)).symm, hx⟩
  · obtain ⟨rfl, rfl, h6⟩ := beh1 k2 hy
    rcases h6 with h6 | ⟨b, ⟨t, p, ⟨ty, hop⟩, hb⟩, h6⟩
    · exact idleY rfl rfl h6
    · rcases hpx k1 (.inl k2) with rfl | ⟨_, B, rfl | rfl, hB⟩ | ⟨h0, _⟩
      · obtain ⟨rfl, h3⟩ := beh3 k1 hx
        exact ⟨_, _, h6 _ _ rfl, hx⟩
      · exact ⟨_, _, h6 _ _ (behA k1 hx b (hB ty t b p hop hb)).symm, hx⟩
      · exact ⟨_, _, h6 _ _ ((behK_len k1 hx).2 b (hB ty t b p hop hb)).symm, hx⟩
      · omega
  · obtain ⟨rfl, h3⟩ := beh2 k1 hx
    rcases hpy k2 (.inr k1) with rfl | h | ⟨_, B, rfl⟩
    · obtain ⟨rfl, h6⟩ := beh3 k2 hy
      rcases h3 with ⟨rfl, h3⟩ | ⟨k, rfl, h3⟩
      · exact idleX rfl rfl h3
      · exact ⟨H, _, h6 H, h3 _ _ rfl⟩
    · have := h.1; omega
    · rcases h3 with ⟨rfl, h3⟩ | ⟨k, rfl, h3⟩
      · exact idleX rfl rfl h3
      · rw [behK k2 hcl, Option.map_eq_some_iff] at hy
        obtain ⟨⟨v1, H1, s1⟩, h4, h5⟩ := hy
        cases h5
        exact ⟨H1, s1, h4, h3 _ _ (behK_len k2 h4).1⟩
  · rcases hpx k1 (.inr k2) with rfl | h | ⟨_, B, rfl⟩
    · obtain ⟨rfl, h3⟩ := beh3 k1 hx
      obtain ⟨rfl, h6⟩ := beh2 k2 hy
      rcases h6 with ⟨rfl, h6⟩ | ⟨k, rfl, h6⟩
      · exact idleY rfl rfl h6
      · exact ⟨_, _, h6 _ _ rfl, h3 _⟩
    · have := h.1; omega
    · obtain ⟨rfl, h6⟩ := beh2 k2 hy
      rcases h6 with ⟨rfl, h6⟩ | ⟨k, rfl, h6⟩
      · exact idleY rfl rfl h6
      · exact ⟨newB H k, s, h6 _ _ (behK_len k1 hx).1.symm, by rw [behK k1 hcl, hx]; rfl⟩
  · obtain ⟨rfl, rfl, h3⟩ := beh1 k1 hx
    obtain ⟨rfl, h6⟩ := beh5 k2 hy
    rcases h3 with h3 | ⟨b, ⟨t, p, ⟨ty, hop⟩, hb⟩, h3⟩
    · exact idleX rfl rfl h3
    · rcases h6 with ⟨rfl, h6⟩ | ⟨c, kn, ⟨z, ⟨ty', q, hop'⟩, hc⟩, rfl⟩
      · exact idleY rfl rfl h6
      · have hne := hdf k1 k2 ty t ty' z q b p c hop hop' hb hc
        exact ⟨_, _, hy, h3 _ _ (by rw [setB_eq, blkAt_eq, blkAt_eq, List.getElem?_set_ne (fun hh => hne hh.symm)])⟩
  · obtain ⟨rfl, rfl, h3⟩ := beh1 k1 hx
    obtain rfl := h6y k2 k1
    obtain ⟨rfl, h6⟩ := beh6 k2 hy
    rcases h3 with h3 | ⟨b, ⟨t, p, _, hb⟩, h3⟩
    · exact idleX rfl rfl h3
    · rcases h6 with ⟨rfl, h6⟩ | ⟨k, rfl⟩
      · exact idleY rfl rfl h6
      · exact ⟨_, _, hy, h3 _ _ (blkAt_newB (hs t b p hb))⟩
  · obtain rfl := h6x k1 k2
    obtain ⟨rfl, h3⟩ := beh6 k1 hx
    obtain ⟨rfl, rfl, h6⟩ := beh1 k2 hy
    rcases h3 with ⟨rfl, h3⟩ | ⟨k, rfl⟩
    · exact idleX rfl rfl h3
    · rcases h6 with h6 | ⟨b, ⟨t, p, _, hb⟩, h6⟩
      · exact idleY rfl rfl h6
      · exact ⟨H, _, h6 _ _ (blkAt_newB (hs t b p hb)).symm, hx⟩
  · obtain ⟨rfl, rfl, h3⟩ := beh7 k1 hx
    obtain ⟨rfl, rfl, h6⟩ := beh1 k2 hy
    exact ⟨_, _, hy, hx⟩
  · obtain ⟨rfl, rfl, h3⟩ := beh7 k1 hx
    obtain ⟨rfl, h6⟩ := beh2 k2 hy
    rcases h3 with h3 | ⟨b, ⟨t, ht⟩, h3⟩
    · exact idleX rfl rfl h3
    · rcases h6 with ⟨rfl, h6⟩ | ⟨k, rfl, h6⟩
      · exact idleY rfl rfl h6
      · exact ⟨_, _, hy, h3 _ _ (blkAt_newB (hcl.1 t _ ht b (by simp [idsV, idsC])))⟩
  · obtain ⟨rfl, rfl, h3⟩ := beh7 k1 hx
    obtain ⟨rfl, rfl, h6⟩ := beh7 k2 hy
    exact ⟨_, _, hy, hx⟩
  · obtain ⟨rfl, rfl, h3⟩ := beh1 k1 hx
    obtain ⟨rfl, rfl, h6⟩ := beh7 k2 hy
    exact ⟨_, _, hy, hx⟩
  · obtain ⟨rfl, h3⟩ := beh2 k1 hx
    obtain ⟨rfl, rfl, h6⟩ := beh7 k2 hy
    rcases h3 with ⟨rfl, h3⟩ | ⟨k, rfl, h3⟩
    · exact idleX rfl rfl h3
    · rcases h6 with h6 | ⟨b, ⟨t, ht⟩, h6⟩
      · exact idleY rfl rfl h6
      · exact ⟨H, _, h6 _ _ (blkAt_newB (hcl.1 t _ ht b (by simp [idsV, idsC]))).symm, hx⟩
theorem putT_comm (l : Tm) {x y : Option Tmp} (v u : V) (h : ∀ d, x = some d → y ≠ some d) : putT (putT l x v) y u = putT (putT l y u) x v := by
  cases x with
  | none => cases y <;> rfl
  | some d =>
    cases y with
    | none => rfl
    | some e =>
      have hne : d ≠ e := fun he => h d rfl (by rw [he])
      simp only [putT, setT]
      rw [blt_eq, blt_eq]
      by_cases h1 : d < l.n <;> by_cases h2 : e < l.n <;> simp only [h1, h2, decide_true, decide_false, cond_true, cond_false, blt_eq]
      rw [setS_comm 9 _ _ _ _ _ hne]
end
end Go.Proofs.Ytjcdojcbdfblbaa.Lx
