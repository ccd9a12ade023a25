/- The local executor: two operations that are not ordered may be done in either order. -/
import Derived.Test.YtaegelbaghaooaaGreatLxDraw
namespace Go.Proofs.YtaegelbaghaooaaGreat.Lx
open Go
section
variable {P : Program} {σ : Type} {I : Port P σ} {Γ : Known} {S0 : Nat → Prop} {w0 : World} {e0 : Env} {ops : Array Oper}
theorem evalO_put {tmps : Tm} {dst : Option Tmp} {v : V} {x : Operand} (h : ∀ d, dst = some d → x ≠ .tmp d) : evalO (putT tmps dst v) x = evalO tmps x := by
  cases dst with
  | none => rfl
  | some d =>
    cases x with
    | tmp t =>
      have hne : t ≠ d := fun hh => h d rfl (by rw [hh])
      simp only [evalO, putT, getT_setT_ne _ _ hne]
    | _ => rfl
theorem valO_put {pu : PM} {o : Oper} {tmps : Tm} {dst : Option Tmp} {v : V} {H : Heap} {s : σ} (h : ∀ d, dst = some d → d ∉ o.looksAt ops) : valO Γ I ops pu o (putT tmps dst v) H s = valO Γ I ops pu o tmps H s := by
  have e1 : evStep P o.op (evalO (putT tmps dst v)) H = evStep P o.op (evalO tmps) H := evStep_congr fun x hx => evalO_put fun d hd hxd => by
    subst hxd
    refine h d hd ?_
    simp only [Oper.looksAt, List.mem_append, List.mem_filterMap]
    exact .inl ⟨.tmp d, by simpa using hx, rfl⟩
  unfold valO
  rw [e1]
  cases hg : o.guard with
  | none => rfl
  | some jw =>
    obtain ⟨j, want⟩ := jw
    simp only
    cases hsl : (ops[j]?).bind (·.dst) with
    | none => rfl
    | some sl =>
      simp only
      have : getT (putT tmps dst v) sl = getT tmps sl := by
        cases dst with
        | none => rfl
        | some d =>
          have hne : sl ≠ d := by
            rintro rfl
            refine h sl rfl ?_
            simp only [Oper.looksAt, List.mem_append, hg, hsl]
            exact .inr (by simp)
          simp only [putT, getT_setT_ne _ _ hne]
      rw [this]
/-- whether an operation is skipped hangs on slots alone. -/
theorem valO_cases (pu : PM) (o : Oper) (tmps : Tm) : (∀ H s, valO Γ I ops pu o tmps H s = doneV Γ I pu H s (evStep P o.op (evalO tmps) H)) ∨ (∀ H s, valO Γ I ops pu o tmps H s = some (.undef, H, s)) ∨ (∀ H s, valO Γ I ops pu o tmps H s = none) := by
  unfold valO
  cases o.guard with
  | none => exact .inl fun _ _ => rfl
  | some jw =>
    obtain ⟨j, want⟩ := jw
    simp only
    cases (ops[j]?).bind (·.dst) with
    | none => exact .inr (.inr fun _ _ => rfl)
    | some sl =>
      simp only
      cases getT tmps sl with
      | none => exact .inr (.inr fun _ _ => rfl)
      | some v =>
        cases v with
        | agg l => exact .inr (.inr fun _ _ => rfl)
        | tup l => cases l <;> first | exact .inr (.inl fun _ _ => rfl) | exact .inr (.inr fun _ _ => rfl)
        | c x =>
          cases x with
          | bool b =>
            by_cases h : b = want
            · subst h; exact .inl fun _ _ => if_pos rfl
            · exact .inr (.inl fun _ _ => if_neg h)
          | _ => exact .inr (.inr fun _ _ => rfl)
variable {pu : PM} {o : Oper} {tmps : Tm} {H H' : Heap} {s s' : σ} {v : V}
/-- an operation that leaves all as it is. -/
def Idle (Γ : Known) (I : Port P σ) (ops : Array Oper) (pu : PM) (o : Oper) (tmps : Tm) (v : V) : Prop := ∀ H s, valO Γ I ops pu o tmps H s = some (v, H, s)
theorem beh0 (hk : kindO o.op = 0) (h : valO Γ I ops pu o tmps H s = some (v, H', s')) : H' = H ∧ s' = s ∧ Idle Γ I ops pu o tmps v := by
  rcases valO_cases (Γ := Γ) (I := I) (ops := ops) pu o tmps with hc | hc | hc
  · rw [hc] at h
    cases hq : evStep P o.op (evalO tmps) H with
    | none => rw [hq] at h; cases h
    | some q =>
      obtain ⟨g, u, rfl, h2⟩ := kind0_val hk hq
      rw [hq] at h
      cases g <;> simp only [doneV, Bool.false_eq_true, if_false, if_true, reduceCtorEq, Option.some.injEq, Prod.mk.injEq] at h
      obtain ⟨rfl, rfl, rfl⟩ := h
      exact ⟨rfl, rfl, fun H2 s2 => by rw [hc, h2]; rfl⟩
  · rw [hc] at h
    cases h
    exact ⟨rfl, rfl, hc⟩
  · rw [hc] at h; cases h
theorem beh1 (hk : kindO o.op = 1) (h : valO Γ I ops pu o tmps H s = some (v, H', s')) : H' = H ∧ s' = s ∧ (Idle Γ I ops pu o tmps v ∨ ∃ b, (∃ t p, (∃ ty, o.op = .load ty (.tmp t)) ∧ getT tmps t = some (.c (.ptr b p))) ∧ ∀ H2 s2, blkAt H2 b = blkAt H b → valO Γ I ops pu o tmps H2 s2 = some (v, H2, s2)) := by
  have hld : ∃ ty a, o.op = .load ty a := by
    cases hop : o.op with
    | load ty a => exact ⟨ty, a, rfl⟩
    | call c => obtain ⟨callee, as, ats⟩ := c; cases callee <;> simp [kindO, hop] at hk; split at hk <;> simp at hk
    | _ => simp [kindO, hop] at hk
  obtain ⟨ty, ad, hld⟩ := hld
  rcases valO_cases (Γ := Γ) (I := I) (ops := ops) pu o tmps with hc | hc | hc
  · rw [hc] at h
    cases hq : evStep P o.op (evalO tmps) H with
    | none => rw [hq] at h; cases h
    | some q =>
      obtain ⟨g, u, b, rfl, hb, ⟨x, p, hx, hxp⟩, h2⟩ := kind1_val hk hq
      rw [hq] at h
      cases g <;> simp only [doneV, Bool.false_eq_true, if_false, if_true, reduceCtorEq, Option.some.injEq, Prod.mk.injEq] at h
      obtain ⟨rfl, rfl, rfl⟩ := h
      refine ⟨rfl, rfl, .inr ⟨b, ?_, fun H2 s2 hb2 => by rw [hc, h2 H2 hb2]; rfl⟩⟩
      have hxa : x = ad := by rw [hld] at hx; simpa [Op.operands] using hx
      cases x with
      | tmp t => exact ⟨t, p, ⟨ty, by rw [hld, ← hxa]⟩, hxp⟩
      | const c =>
        simp only [evalO] at hxp
        unfold constV at hxp
        split at hxp
        · rw [Option.map_eq_some_iff] at hxp; obtain ⟨_, _, h3⟩ := hxp; cases h3
        · split at hxp <;> cases hxp
        · rw [Option.map_eq_some_iff] at hxp
          obtain ⟨c', h3, h4⟩ := hxp
          cases h4
          unfold constC at h3
          split at h3 <;> cases h3
      | global g => simp [evalO] at hxp
      | func f => simp [evalO] at hxp
  · rw [hc] at h
    cases h
    exact ⟨rfl, rfl, .inl hc⟩
  · rw [hc] at h; cases h
theorem beh2 (hk : kindO o.op = 2) (h : valO Γ I ops pu o tmps H s = some (v, H', s')) : s' = s ∧ ((H' = H ∧ Idle Γ I ops pu o tmps v) ∨ ∃ k, H' = newB H k ∧ ∀ H2 s2, H2.length = H.length → valO Γ I ops pu o tmps H2 s2 = some (v, newB H2 k, s2)) := by
  rcases valO_cases (Γ := Γ) (I := I) (ops := ops) pu o tmps with hc | hc | hc
  · rw [hc] at h
    cases hq : evStep P o.op (evalO tmps) H with
    | none => rw [hq] at h; cases h
    | some q =>
      obtain ⟨u, k, rfl, h2⟩ := kind2_val hk hq
      rw [hq] at h
      simp only [doneV, if_true, Option.some.injEq, Prod.mk.injEq] at h
      obtain ⟨rfl, rfl, rfl⟩ := h
      exact ⟨rfl, .inr ⟨k, rfl, fun H2 s2 hl => by rw [hc, h2 H2 hl]; rfl⟩⟩
  · rw [hc] at h
    cases h
    exact ⟨rfl, .inl ⟨rfl, hc⟩⟩
  · rw [hc] at h; cases h
theorem beh3 (hk : kindO o.op = 3) (h : valO Γ I ops .pure o tmps H s = some (v, H', s')) : H' = H ∧ ∀ H2, valO Γ I ops .pure o tmps H2 s = some (v, H2, s') := by
  rcases valO_cases (Γ := Γ) (I := I) (ops := ops) .pure o tmps with hc | hc | hc
  · rw [hc] at h
    cases hq : evStep P o.op (evalO tmps) H with
    | none => rw [hq] at h; cases h
    | some q =>
      obtain ⟨h1, h2⟩ := kind3_val hk hq
      rw [hq] at h
      cases q with
      | val g u H0 => exact absurd rfl (h1 g u H0)
      | port p =>
        simp only [doneV] at h
        cases hs : I.step p s with
        | none => rw [hs] at h; cases h
        | some vs =>
          rw [hs] at h
          cases h
          exact ⟨rfl, fun H2 => by rw [hc, h2 H2]; simp only [doneV, hs]⟩
      | call f args =>
        simp only [doneV] at h
        cases ht : evPure Γ f args with
        | none => rw [ht] at h; cases h
        | some S =>
          rw [ht] at h
          simp only at h
          cases hr : S.t.run I.step s with
          | none => rw [hr] at h; cases h
          | some r =>
            rw [hr] at h
            simp only at h
            cases hf : S.f r.1 with
            | none => rw [hf] at h; cases h
            | some q =>
              rw [hf] at h
              cases h
              exact ⟨rfl, fun H2 => by rw [hc, h2 H2]; simp only [doneV, ht, hr, hf]⟩
  · rw [hc] at h
    cases h
    exact ⟨rfl, fun H2 => hc H2 s⟩
  · rw [hc] at h; cases h
theorem setBs_keeps : ∀ (l : List Nat) (xs : List (Option Blk)) (H : Heap) (b : Nat), b ∉ l → blkAt (setBs H l xs) b = blkAt H b
  | [], xs, H, b, h => by cases xs <;> rfl
  | c :: l, [], H, b, h => rfl
  | c :: l, x :: xs, H, b, h => by
    rw [setBs, setBs_keeps l xs _ b (fun hh => h (by simp [hh])), setB_eq, blkAt_eq, blkAt_eq, List.getElem?_set_ne (fun hh => h (by simp [hh]))]
theorem evCall_keeps {f : FuncId} {args : List V} {S : Sum} {x : S.α} {q : V × Heap} {l : List Nat} {b : Nat} (h : evCall Γ f args H = some S) (hf : S.f x = some q) (hr : reach H 1000 (args.flatMap idsV) [] = some l) (hb : b ∉ l) (hlt : b < H.length) : blkAt q.2 b = blkAt H b := by
  unfold evCall at h
  split at h
  · cases h
  · rw [hr] at h
    simp only at h
    split at h
    · split at h
      · cases h
      · cases h
        simp only at hf
        split at hf
        · cases hf
        · split at hf
          · split at hf
            · cases hf
              simp only
              rw [blkAt_eq, List.getElem?_append_left (by rw [setBs_length]; exact hlt), ← blkAt_eq, setBs_keeps _ _ _ _ hb]
            · cases hf
          · cases hf
    · cases h
/-- a call that keeps off some blocks. -/
theorem behA {B : List Nat} (hk : kindO o.op = 3) (h : valO Γ I ops (.avoid B) o tmps H s = some (v, H', s')) : ∀ b ∈ B, blkAt H' b = blkAt H b := by
  intro b hb
  rcases valO_cases (Γ := Γ) (I := I) (ops := ops) (.avoid B) o tmps with hc | hc | hc
  · rw [hc] at h
    cases hq : evStep P o.op (evalO tmps) H with
    | none => rw [hq] at h; cases h
    | some q =>
      obtain ⟨h1, h2⟩ := kind3_val hk hq
      rw [hq] at h
      cases q with
      | val g u H0 => exact absurd rfl (h1 g u H0)
      | port p =>
        simp only [doneV] at h
        cases hs : I.step p s with
        | none => rw [hs] at h; cases h
        | some vs => rw [hs] at h; cases h; rfl
      | call f args =>
        simp only [doneV] at h
        split at h
        · rename_i hav
          unfold avoidsB at hav
          split at hav
          · rename_i l hl
            rw [List.all_eq_true] at hav
            have := hav b hb
            simp only [Bool.and_eq_true, Bool.not_eq_true', decide_eq_true_eq] at this
            obtain ⟨hnl, hlt⟩ := this
            have hnl' : b ∉ l := fun hm => by rw [List.contains_iff_mem.2 hm] at hnl; cases hnl
            unfold doneC at h
            cases ht : evCall Γ f args H with
            | none => rw [ht] at h; cases h
            | some S =>
              rw [ht] at h
              simp only at h
              cases hr : S.t.run I.step s with
              | none => rw [hr] at h; cases h
              | some r =>
                rw [hr] at h
                simp only at h
                cases hf : S.f r.1 with
                | none => rw [hf] at h; cases h
                | some q =>
                  rw [hf] at h
                  cases h
                  exact evCall_keeps ht hf hl hnl' hlt
          · cases hav
        · cases h
  · rw [hc] at h; cases h; rfl
  · rw [hc] at h; cases h
theorem newB_length (H : Heap) (k : Blk) : (newB H k).length = H.length + 1 := by simp [newB]
theorem blkAt_newB {H : Heap} {k : Blk} {b : Nat} (h : b < H.length) : blkAt (newB H k) b = blkAt H b := by
  rw [blkAt_new, if_neg (by omega)]
/-- a way of touching blocks that keeps off the block that a load looks at. -/
def Avoids (tmps : Tm) (pu : PM) (x : Oper) : Prop := kindO x.op = 1 ∧ ∃ B, pu = .avoid B ∧ ∀ ty t b p, x.op = .load ty (.tmp t) → getT tmps t = some (.c (.ptr b p)) → b ∈ B
/-- two operations that may be swapped, the slots being what they are. -/
theorem swap_val {x y : Oper} {px py : PM} {vx vy : V} {Hx Hy : Heap} {sx sy : σ} (hk : swapKinds (kindO x.op) (kindO y.op) = true) (hx : valO Γ I ops px x tmps H s = some (vx, Hx, sx)) (hy : valO Γ I ops py y tmps Hx sx = some (vy, Hy, sy))
    (hpx : kindO x.op = 3 → (kindO y.op = 1 ∨ kindO y.op = 2) → px = .pure ∨ Avoids tmps px y) (hpy : kindO y.op = 3 → (kindO x.op = 1 ∨ kindO x.op = 2) → py = .pure ∨ Avoids tmps py x) (hs : ∀ t b p, getT tmps t = some (.c (.ptr b p)) → b < H.length) :
    ∃ H1 s1, valO Γ I ops py y tmps H s = some (vy, H1, s1) ∧ valO Γ I ops px x tmps H1 s1 = some (vx, Hy, sy) := by
  have idleX : Hx = H → sx = s → Idle Γ I ops px x tmps vx → ∃ H1 s1, valO Γ I ops py y tmps H s = some (vy, H1, s1) ∧ valO Γ I ops px x tmps H1 s1 = some (vx, Hy, sy) := by
    rintro rfl rfl hi
    exact ⟨Hy, sy, hy, hi _ _⟩
  have idleY : Hy = Hx → sy = sx → Idle Γ I ops py y tmps vy → ∃ H1 s1, valO Γ I ops py y tmps H s = some (vy, H1, s1) ∧ valO Γ I ops px x tmps H1 s1 = some (vx, Hy, sy) := by
    rintro rfl rfl hi
    exact ⟨H, s, hi _ _, hx⟩
  by_cases hx0 : kindO x.op = 0
  · obtain ⟨h1, h2, h3⟩ := beh0 hx0 hx
    exact idleX h1 h2 h3
  by_cases hy0 : kindO y.op = 0
  · obtain ⟨h1, h2, h3⟩ := beh0 hy0 hy
    exact idleY h1 h2 h3
  have hcases : (kindO x.op = 1 ∧ kindO y.op = 1) ∨ (kindO x.op = 1 ∧ kindO y.op = 2) ∨ (kindO x.op = 1 ∧ kindO y.op = 3) ∨ (kindO x.op = 2 ∧ kindO y.op = 1) ∨ (kindO x.op = 3 ∧ kindO y.op = 1) ∨ (kindO x.op = 2 ∧ kindO y.op = 3) ∨ (kindO x.op = 3 ∧ kindO y.op = 2) := by
    simp only [swapKinds, Bool.or_eq_true, Bool.and_eq_true, beq_iff_eq, decide_eq_true_eq] at hk
    omega
  rcases hcases with ⟨k1, k2⟩ | ⟨k1, k2⟩ | ⟨k1, k2⟩ | ⟨k1, k2⟩ | ⟨k1, k2⟩ | ⟨k1, k2⟩ | ⟨k1, k2⟩
  · obtain ⟨rfl, rfl, h3⟩ := beh1 k1 hx
    obtain ⟨rfl, rfl, h6⟩ := beh1 k2 hy
    exact ⟨_, _, hy, hx⟩
  · obtain ⟨rfl, rfl, h3⟩ := beh1 k1 hx
    obtain ⟨rfl, h6⟩ := beh2 k2 hy
    rcases h3 with h3 | ⟨b, ⟨t, p, _, hb⟩, h3⟩
    · exact idleX rfl rfl h3
    · rcases h6 with ⟨rfl, h6⟩ | ⟨k, rfl, h6⟩
      · exact idleY rfl rfl h6
      · exact ⟨_, _, hy, h3 _ _ (blkAt_newB (hs t b p hb))⟩
  · obtain ⟨rfl, rfl, h3⟩ := beh1 k1 hx
    rcases h3 with h3 | ⟨b, ⟨t, p, ⟨ty, hop⟩, hb⟩, h3⟩
    · exact idleX rfl rfl h3
    · rcases hpy k2 (.inl k1) with rfl | ⟨_, B, rfl, hB⟩
      · obtain ⟨rfl, h6⟩ := beh3 k2 hy
        exact ⟨_, _, hy, h3 _ _ rfl⟩
      · exact ⟨_, _, hy, h3 _ _ (behA k2 hy b (hB ty t b p hop hb))⟩
  · obtain ⟨rfl, h3⟩ := beh2 k1 hx
    obtain ⟨rfl, rfl, h6⟩ := beh1 k2 hy
    rcases h3 with ⟨rfl, h3⟩ | ⟨k, rfl, h3⟩
    · exact idleX rfl rfl h3
    · rcases h6 with h6 | ⟨b, ⟨t, p, _, hb⟩, h6⟩
      · exact idleY rfl rfl h6
      · exact ⟨H, _, h6 _ _ (blkAt_newB (hs t b p hb)).symm, hx⟩
  · obtain ⟨rfl, rfl, h6⟩ := beh1 k2 hy
    rcases h6 with h6 | ⟨b, ⟨t, p, ⟨ty, hop⟩, hb⟩, h6⟩
    · exact idleY rfl rfl h6
    · rcases hpx k1 (.inl k2) with rfl | ⟨_, B, rfl, hB⟩
      · obtain ⟨rfl, h3⟩ := beh3 k1 hx
        exact ⟨_, _, h6 _ _ rfl, hx⟩
      · exact ⟨_, _, h6 _ _ (behA k1 hx b (hB ty t b p hop hb)).symm, hx⟩
  · obtain ⟨rfl, h3⟩ := beh2 k1 hx
    obtain rfl := (hpy k2 (.inr k1)).resolve_right (fun h => by have := h.1; omega)
    obtain ⟨rfl, h6⟩ := beh3 k2 hy
    rcases h3 with ⟨rfl, h3⟩ | ⟨k, rfl, h3⟩
    · exact idleX rfl rfl h3
    · exact ⟨H, _, h6 H, h3 _ _ rfl⟩
  · obtain rfl := (hpx k1 (.inr k2)).resolve_right (fun h => by have := h.1; omega)
    obtain ⟨rfl, h3⟩ := beh3 k1 hx
    obtain ⟨rfl, h6⟩ := beh2 k2 hy
    rcases h6 with ⟨rfl, h6⟩ | ⟨k, rfl, h6⟩
    · exact idleY rfl rfl h6
    · exact ⟨_, _, h6 _ _ rfl, h3 _⟩
theorem putT_comm (l : Tm) {x y : Option Tmp} (v u : V) (h : ∀ d, x = some d → y ≠ some d) : putT (putT l x v) y u = putT (putT l y u) x v := by
  cases x with
  | none => cases y <;> rfl
  | some d =>
    cases y with
    | none => rfl
    | some e =>
      have hne : d ≠ e := fun he => h d rfl (by rw [he])
      simp only [putT, setT]
      rw [blt_eq, blt_eq]
      by_cases h1 : d < l.n <;> by_cases h2 : e < l.n <;> simp only [h1, h2, decide_true, decide_false, cond_true, cond_false, blt_eq]
      rw [setS_comm 9 _ _ _ _ _ hne]
end
end Go.Proofs.YtaegelbaghaooaaGreat.Lx
