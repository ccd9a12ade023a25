/- The local executor: operations, the second part; all of them at once. -/
import Derived.Test.YtaegelbaghaooaaGreatLxOps
import Derived.Maps.AppendAt
import Derived.Laws.StructEq
namespace Go.Proofs.YtaegelbaghaooaaGreat.Lx
open Go
section
variable {ρ : Operand → Option V} {P : Program} {pv : Value} {ra : Operand → Value} {o : Oper} {e : Env} {H : Heap} {w : World}
theorem den_c {x : Operand} {a : C} (hρ : Says pv e ρ ra) (h : ρ x = some (.c a)) : den pv e a = some (ra x) := hρ x _ h
theorem guard_int (op : BinOp) (t : TypeId) (X Y : Operand) (k j : IntKind) (a b : Int) : (eqGuard op t X Y (.int k a) (.int j b)).run P w = .ok () w := by
  unfold eqGuard
  cases op <;> simp
theorem did_bin {op : BinOp} {t u : TypeId} {x y : Operand} {a b r : C} (hpi : ∃ t u, pv = .iface t u) (hρ : Says pv e ρ ra) (E : Emb pv e H w) (ho : o.op = .binOp op t x y u) (hx : ρ x = some (.c a)) (hy : ρ y = some (.c b)) (h : evBin P op t x y a b = some (true, r)) : Did P pv ra o e H w (.c r) H := by
  have hda := den_c hρ hx
  have hdb := den_c hρ hy
  have fin : ∀ rv, (binOp op t (ra x) (ra y)).run P w = .ok rv w → (eqGuard op t x y (ra x) (ra y)).run P w = .ok () w → den pv e r = some rv → Did P pv ra o e H w (.c r) H := by
    intro rv h1 h2 h3
    refine did_pure E (rv := rv) ?_ h3
    simp [execOp, ho, h1, h2]
  unfold evBin at h
  split at h
  · rename_i k m k' n
    simp only [den, Option.some.injEq] at hda hdb
    have hg : (eqGuard op t x y (ra x) (ra y)).run P w = .ok () w := by rw [← hda, ← hdb]; exact guard_int ..
    split at h
    · obtain ⟨rv, h1, h2⟩ := shiftBin_run (pv := pv) (e := e) (k' := k') h t
      exact fin rv (by rw [← hda, ← hdb, h1]; rfl) hg h2
    · obtain ⟨rv, h1, h2⟩ := shiftBin_run (pv := pv) (e := e) (k' := k') h t
      exact fin rv (by rw [← hda, ← hdb, h1]; rfl) hg h2
    · rename_i hs1 hs2
      split at h
      · rename_i hk
        subst hk
        obtain ⟨rv, h1, h2⟩ := intBin_run (pv := pv) (e := e) h t ⟨fun hh => hs1 hh, fun hh => hs2 hh⟩
        exact fin rv (by rw [← hda, ← hdb, h1]; rfl) hg h2
      · cases h
  · rename_i a b hne
    have hq : ∀ (q : Bool), q = (isConstO x || isConstO y) → q = true → isConstO x = true ∨ isConstO y = true := by
      intro q h1 h2
      rw [h1] at h2
      simpa using h2
    have hx' : Op.maxDepth = 9999 + 1 := rfl
    split at h
    · rename_i d hu
      rw [Option.map_eq_some_iff] at h
      obtain ⟨r', h1, h2⟩ := h
      simp only [Prod.mk.injEq, true_and] at h2
      subst h2
      obtain ⟨g1, g2, g3, _⟩ := eqC_run (P := P) (w := w) hu hpi hda hdb h1
      exact fin (.bool r') (by rw [g3]; simp only [Op.equal, hx', Sem.run_bind, g1, Result.andThen_ok, Sem.run_pure]) (g2 _ _ _ (hq _ rfl)) rfl
    · rename_i d hu
      rw [Option.map_eq_some_iff] at h
      obtain ⟨r', h1, h2⟩ := h
      simp only [Prod.mk.injEq, true_and] at h2
      subst h2
      obtain ⟨g1, g2, _, g3⟩ := eqC_run (P := P) (w := w) hu hpi hda hdb h1
      exact fin (.bool (!r')) (by rw [g3]; simp only [Op.equal, hx', Sem.run_bind, g1, Result.andThen_ok, Sem.run_pure]) (g2 _ _ _ (hq _ rfl)) rfl
    · cases h
theorem eqFs_run {rec : TypeId → V → V → Option Bool} {m : Nat} (IH : ∀ t x y r rx ry, rec t x y = some r → denV pv e x = some rx → denV pv e y = some ry → (Op.equalIn m t rx ry).run P w = .ok r w) {xs ys : List C} {vx vy : List Value} (hx : denL pv e xs = some vx) (hy : denL pv e ys = some vy) :
    ∀ (fs : List Field) (r : Bool), eqFsF rec P fs xs ys = some r → (Op.eqFields m vx.toArray vy.toArray fs).run P w = .ok r w
  | [], r, h => by simp only [eqFsF, Option.some.injEq] at h; subst h; rfl
  | f :: fs, r, h => by
    simp only [eqFsF] at h
    by_cases hn : f.name = "_"
    · rw [if_pos hn] at h
      simp only [Op.eqFields, hn, ne_eq, not_true_eq_false, if_false]
      exact eqFs_run IH hx hy fs r h
    · rw [if_neg hn] at h
      split at h
      · rename_i a b ha hb
        split at h
        · rename_i p q hp hq
          cases h
          obtain ⟨ra, h1, h2⟩ := part_run (w := w) hx ha
          obtain ⟨rb, h3, h4⟩ := part_run (w := w) hy hb
          have h5 := IH _ _ _ _ _ _ hp h2 h4
          simp only [Op.eqFields, ne_eq, hn, not_false_eq_true, if_true, Sem.run_bind, h1, h3, h5, Result.andThen_ok]
          cases p
          · simp
          · simpa using eqFs_run IH hx hy fs q hq
        · cases h
      · cases h
theorem eqF_run : ∀ (d : Nat) (t : TypeId) (x y : V) (r : Bool) (rx ry : Value), eqF P d t x y = some r → denV pv e x = some rx → denV pv e y = some ry → ∀ n, (Op.equalIn (n + d) t rx ry).run P w = .ok r w
  | 0, t, x, y, r, rx, ry, h, _, _, _ => by simp [eqF] at h
  | d + 1, t, x, y, r, rx, ry, h, hx, hy, n => by
    unfold eqF at h
    split at h
    · rename_i a b hu
      cases h
      simp only [denV, den, Option.some.injEq] at hx hy
      subst hx hy
      exact run_equalIn_bool w (n + d) t a b hu
    · rename_i k0 k a k' b hu
      split at h
      · rename_i hk
        cases h
        subst hk
        simp only [denV, den, Option.some.injEq] at hx hy
        subst hx hy
        exact run_equalIn_int w (n + d) t k _ a b hu
      · cases h
    · rename_i fs xs ys hu
      split at h
      · cases h
      · rename_i hs
        simp only [denV, Option.map_eq_some_iff] at hx hy
        obtain ⟨vx, h1, rfl⟩ := hx
        obtain ⟨vy, h2, rfl⟩ := hy
        have hf : P.fieldsOf t = fs := by simp only [Program.fieldsOf, hu]
        rw [show n + (d + 1) = (n + d) + 1 from rfl, run_equalIn_struct w (n + d) t vx.toArray vy.toArray (by rw [hf]; exact hu) (by simpa using hs), hf]
        exact eqFs_run (fun t x y r rx ry h hx hy => eqF_run d t x y r rx ry h hx hy n) h1 h2 fs.toList r h
    · cases h
theorem did_binA {op : BinOp} {t u : TypeId} {x y : Operand} {l m : List C} {r : C} (hρ : Says pv e ρ ra) (E : Emb pv e H w) (ho : o.op = .binOp op t x y u) (hx : ρ x = some (.agg l)) (hy : ρ y = some (.agg m)) (h : evBinA P op t l m = some r) : Did P pv ra o e H w (.c r) H := by
  have hda := hρ x _ hx
  have hdb := hρ y _ hy
  simp only [denV, Option.map_eq_some_iff] at hda hdb
  obtain ⟨vx, h1, h2⟩ := hda
  obtain ⟨vy, h3, h4⟩ := hdb
  unfold evBinA at h
  split at h
  · cases h
  · rename_i hg
    have hgd := run_eqGuard_agg (P := P) w op t x y vx.toArray vy.toArray (by simpa using hg)
    split at h
    · rename_i q hq
      cases h
      have hr := eqF_run (pv := pv) (e := e) (w := w) 10 t _ _ q (.agg vx.toArray) (.agg vy.toArray) hq (by simp only [denV, h1, Option.map_some]) (by simp only [denV, h3, Option.map_some]) 9990
      refine did_pure E (rv := .bool q) ?_ rfl
      have hb := run_eql_struct (P := P) w t vx.toArray vy.toArray
      rw [hr] at hb
      simp only [execOp, ho, ← h2, ← h4, Sem.run_bind, hgd, Result.andThen_ok, hb, Sem.run_pure]
    · rename_i q hq
      cases h
      have hr := eqF_run (pv := pv) (e := e) (w := w) 10 t _ _ q (.agg vx.toArray) (.agg vy.toArray) hq (by simp only [denV, h1, Option.map_some]) (by simp only [denV, h3, Option.map_some]) 9990
      refine did_pure E (rv := .bool (!q)) ?_ rfl
      have hb := run_neq_struct (P := P) w t vx.toArray vy.toArray
      rw [hr] at hb
      simp only [execOp, ho, ← h2, ← h4, Sem.run_bind, hgd, Result.andThen_ok, hb, Sem.run_pure]
    · cases h
theorem says_all (hρ : Says pv e ρ ra) : ∀ (l : List Operand) (vs : List V), allSome ρ l = some vs → allSome (denV pv e) vs = some (l.map ra)
  | [], vs, h => by simp only [allSome, Option.some.injEq] at h; subst h; rfl
  | x :: l, vs, h => by
    simp only [allSome] at h
    split at h
    · rename_i v hv
      split at h
      · rename_i us hu
        cases h
        simp only [allSome, hρ x v hv, says_all hρ l us hu, List.map_cons]
      · cases h
    · cases h
theorem caps_all : ∀ (vs : List V) (cs : List C) (rs : List Value), capsOf vs = some cs → allSome (denV pv e) vs = some rs → denL pv e cs = some rs
  | [], cs, rs, h, hr => by
    simp only [capsOf, allSome, Option.some.injEq] at h hr
    subst h; subst hr; rfl
  | v :: vs, cs, rs, h, hr => by
    simp only [capsOf, allSome] at h hr
    split at h
    · rename_i x hx
      split at h
      · rename_i us hu
        cases h
        split at hr
        · rename_i y hy
          split at hr
          · rename_i ys hys
            cases hr
            cases v with
            | c a =>
              simp only [Option.some.injEq] at hx
              subst hx
              simp only [denV] at hy
              simp only [denL, hy, caps_all vs us ys hu hys]
            | agg l => simp at hx
            | tup l => simp at hx
          · cases hr
        · cases hr
      · cases h
    · cases h
theorem did_func {f : FuncId} {first captured : Array Operand} {vs : List V} {cs : List C} (hρ : Says pv e ρ ra) (E : Emb pv e H w) (ho : o.op = .makeFunc (.func f) first captured) (hf : first.size = 0) (h1 : allSome ρ captured.toList = some vs) (h2 : capsOf vs = some cs) : Did P pv ra o e H w (.c (.fn f cs)) H := by
  have h3 := caps_all (pv := pv) (e := e) _ _ _ h2 (says_all hρ _ _ h1)
  refine did_pure E (rv := .func (.func f) #[] (captured.map ra)) ?_ ?_
  · have : first = #[] := Array.eq_empty_of_size_eq_zero hf
    subst this
    simp [execOp, ho, Instr.makeFunc]
  · simp only [denV, den, h3, Option.map_some, Option.some.injEq, Value.func.injEq, true_and]
    rw [← Array.toList_map]
theorem did_meth {s : String} {first captured : Array Operand} {x : Operand} {c : C} (hρ : Says pv e ρ ra) (E : Emb pv e H w) (ho : o.op = .makeFunc (.method s) first captured) (hf : captured.size = 0) (h1 : first.toList = [x]) (h2 : ρ x = some (.c c)) : Did P pv ra o e H w (.c (.meth s c)) H := by
  have h3 := hρ x _ h2
  refine did_pure E (rv := .func (.method s) #[ra x] #[]) ?_ ?_
  · have : captured = #[] := Array.eq_empty_of_size_eq_zero hf
    subst this
    have : first = #[x] := by rw [← Array.toArray_toList (xs := first), h1]
    subst this
    simp [execOp, ho, Instr.makeFunc]
  · simp only [denV] at h3
    simp [denV, den, h3]
theorem optO_run (hρ : Says pv e ρ ra) {x : Option Operand} {v : Option V} (h : optO ρ x = some v) : (x = none ∧ v = none) ∨ ∃ y u, x = some y ∧ v = some u ∧ denV pv e u = some (ra y) := by
  cases x with
  | none => simp only [optO, Option.some.injEq] at h; exact .inl ⟨rfl, h.symm⟩
  | some y =>
    simp only [optO, Option.map_eq_some_iff] at h
    obtain ⟨u, h1, rfl⟩ := h
    exact .inr ⟨y, u, rfl, rfl, hρ y u h1⟩
theorem bound_run {v : V} {rv : Value} {most n : Nat} {dflt : Nat} {code : BoundsCode} (hv : denV pv e v = some rv) (h : boundC (some v) dflt most = some (true, n)) : (Instr.sliceBound rv most code).run P w = .ok n w := by
  unfold boundC at h
  split at h
  · rename_i h0; cases h0
  · rename_i k i h0
    cases h0
    simp only [Option.some.injEq, Prod.mk.injEq, decide_eq_true_eq] at h
    simp only [denV, den, Option.some.injEq] at hv
    subst hv
    simp [Instr.sliceBound, asIntOf, h.1, h.2]
  · cases h
theorem bounds_run {isSlice : Bool} {len cap h' l' : Nat} {lo hi : Option Operand} {lv hv : Option V} (hρ : Says pv e ρ ra) (h1 : optO ρ lo = some lv) (h2 : optO ρ hi = some hv) (h3 : boundC hv len cap = some (true, h')) (h4 : boundC lv 0 h' = some (true, l')) :
    (Instr.sliceBounds isSlice len cap (lo.map ra) (hi.map ra) none).run P w = .ok (l', h', cap) w := by
  rcases optO_run hρ h2 with ⟨rfl, rfl⟩ | ⟨y, u, rfl, rfl, hu⟩ <;> rcases optO_run hρ h1 with ⟨rfl, rfl⟩ | ⟨y', u', rfl, rfl, hu'⟩
  · simp only [boundC, Option.some.injEq, Prod.mk.injEq, true_and] at h3 h4
    subst h3; subst h4
    simp [Instr.sliceBounds]
  · simp only [boundC, Option.some.injEq, Prod.mk.injEq, true_and] at h3
    subst h3
    simp [Instr.sliceBounds, bound_run hu' h4]
  · simp only [boundC, Option.some.injEq, Prod.mk.injEq, true_and] at h4
    subst h4
    simp [Instr.sliceBounds, bound_run hu h3]
  · simp [Instr.sliceBounds, bound_run hu' h4, bound_run hu h3]
theorem did_sliceArr {t el : TypeId} {x : Operand} {lo hi : Option Operand} {lv hv : Option V} {n b p z h' l' : Nat} (hρ : Says pv e ρ ra) (E : Emb pv e H w) (ho : o.op = .slice t x lo hi none) (hu : P.underlying t = some (.array n el)) (hx : ρ x = some (.c (.ptr b p)))
    (h1 : optO ρ lo = some lv) (h2 : optO ρ hi = some hv) (hz : sizeT P el = some z) (h3 : boundC hv n n = some (true, h')) (h4 : boundC lv 0 h' = some (true, l')) : Did P pv ra o e H w (.c (.sl b (if n = l' then p else p + l' * z) (h' - l') (n - l'))) H := by
  obtain ⟨r, g1, g2⟩ := den_ptr hρ hx
  refine did_pure E (rv := .slice (some ⟨r.1, if n = l' then p else p + l' * z, none⟩) (h' - l') (n - l')) ?_ (by simp [denV, den, g1])
  simp only [execOp, ho, g2, Instr.sliceAt, Sem.run_bind, underlying_run hu, Result.andThen_ok, Instr.sureAddr, Sem.run_pure, Option.map_none, bounds_run hρ h1 h2 h3 h4, sizeOf_run hz, add_addr]
  split <;> rfl
theorem did_sliceSl {t el : TypeId} {x : Operand} {lo hi : Option Operand} {lv hv : Option V} {len cap b p z h' l' : Nat} (hρ : Says pv e ρ ra) (E : Emb pv e H w) (ho : o.op = .slice t x lo hi none) (hu : P.underlying t = some (.slice el)) (hx : ρ x = some (.c (.sl b p len cap)))
    (h1 : optO ρ lo = some lv) (h2 : optO ρ hi = some hv) (hz : sizeT P el = some z) (h3 : boundC hv len cap = some (true, h')) (h4 : boundC lv 0 h' = some (true, l')) : Did P pv ra o e H w (.c (.sl b (if cap = l' then p else p + l' * z) (h' - l') (cap - l'))) H := by
  have := hρ x _ hx
  simp only [denV, den, Option.map_eq_some_iff] at this
  obtain ⟨r, g1, g2⟩ := this
  refine did_pure E (rv := .slice (some ⟨r.1, if cap = l' then p else p + l' * z, none⟩) (h' - l') (cap - l')) ?_ (by simp [denV, den, g1])
  simp only [execOp, ho, ← g2, Instr.sliceAt, Sem.run_bind, underlying_run hu, Result.andThen_ok, Instr.slice, Option.map_none, bounds_run hρ h1 h2 h3 h4, sizeOf_run hz, Option.map_some, add_addr, Sem.run_pure]
  split <;> rfl

/-! ### structs and rows that are built -/
theorem fold_put : ∀ (l : List Value) (k off : Nat) (cs : Array Value), (l.zipIdx k).foldl (fun cs (c : Value × Nat) => cs.setIfInBounds (off + c.2) c.1) cs = (put cs.toList (off + k) l).toArray
  | [], k, off, cs => by simp [put]
  | v :: l, k, off, cs => by
    simp only [List.zipIdx_cons, List.foldl_cons, put]
    rw [fold_put l (k + 1) off, Array.toList_setIfInBounds]
    rw [Nat.add_assoc]
theorem fill_run {place : Nat → Option (Nat × Nat)} (hp : One pv) : ∀ (ps : List (Nat × V)) (rs : List (Nat × Value)) (cells r : List C) (vs : List Value), fillC place cells ps = some r → denL pv e cells = some vs →
    allSome (fun p => (denV pv e p.2).map fun v => (p.1, v)) ps = some rs → ∃ us, Instr.fill place vs.toArray rs = some us.toArray ∧ denL pv e r = some us
  | [], rs, cells, r, vs, h, hd, hr => by
    simp only [fillC, Option.some.injEq] at h
    simp only [allSome, Option.some.injEq] at hr
    subst h; subst hr
    exact ⟨vs, rfl, hd⟩
  | (i, v) :: ps, rs, cells, r, vs, h, hd, hr => by
    simp only [fillC] at h
    simp only [allSome] at hr
    split at hr
    · rename_i y hy
      split at hr
      · rename_i ys hys
        cases hr
        rw [Option.map_eq_some_iff] at hy
        obtain ⟨rv, hrv, rfl⟩ := hy
        split at h
        · rename_i off size xs hpl hxs
          split at h
          · rename_i hc
            split at h
            · rename_i cs hcs
              obtain rfl := splice_put _ _ _ _ hcs
              have h2 := denV_cells hp hrv hxs
              have hl2 := denL_length h2
              have hl := denL_length hd
              obtain ⟨us, h3, h4⟩ := fill_run hp ps ys _ r (put vs off rv.cells.toList) h (denL_put hd h2) hys
              refine ⟨us, ?_, h4⟩
              simp only [Instr.fill, hpl]
              have e1 : rv.cells.size = size := by rw [← Array.length_toList, hl2, hc.1]
              rw [if_neg (by simp [e1]; omega)]
              rw [← h3]
              congr 1
              rw [← Array.foldl_toList, Array.toList_zipIdx, fold_put]
              simp
            · cases h
          · cases h
        · cases h
      · cases hr
    · cases hr
theorem parts_run (hρ : Says pv e ρ ra) : ∀ (l : List (Nat × Operand)) (ps : List (Nat × V)), partsOf ρ l = some ps → allSome (fun p => (denV pv e p.2).map fun v => (p.1, v)) ps = some (l.map fun p => (p.1, ra p.2))
  | [], ps, h => by simp only [partsOf, allSome, Option.some.injEq] at h; subst h; rfl
  | (i, x) :: l, ps, h => by
    simp only [partsOf, allSome] at h
    split at h
    · rename_i y hy
      split at h
      · rename_i ys hys
        cases h
        rw [Option.map_eq_some_iff] at hy
        obtain ⟨v, hv, rfl⟩ := hy
        have := parts_run hρ l ys (by simpa [partsOf] using hys)
        simp only [allSome, hρ x v hv, Option.map_some, this, List.map_cons]
      · cases h
    · cases h
theorem mapM_run {α β : Type} (f : α → Sem β) (g : α → Option β) (w : World) (h : ∀ x y, g x = some y → (f x).run P w = .ok y w) : ∀ (l : List α) (r : List β), allSome g l = some r → (l.mapM f).run P w = .ok r w
  | [], r, hr => by simp only [allSome, Option.some.injEq] at hr; subst hr; simp
  | x :: l, r, hr => by
    simp only [allSome] at hr
    split at hr
    · rename_i y hy
      split at hr
      · rename_i ys hys
        cases hr
        simp [List.mapM_cons, h x y hy, mapM_run f g w h l ys hys]
      · cases hr
    · cases hr
theorem did_buildS {t : TypeId} {parts : Array (Nat × Operand)} {z : V} {ps : List (Nat × V)} {cs r : List C} {fs : Array Field} {places : List (Nat × Nat)} (hp : One pv) (hρ : Says pv e ρ ra) (E : Emb pv e H w) (ho : o.op = .build t parts) (hz : zeroT P t = some z)
    (hps : partsOf ρ parts.toList = some ps) (hc : z.cells = some cs) (hu : P.underlying t = some (.struct fs)) (hpl : allSome (fun f : Field => (sizeT P f.type).map fun n => (f.offset, n)) fs.toList = some places) (h : fillC (fun i => places[i]?) cs ps = some r) :
    Did P pv ra o e H w (.agg r) H := by
  obtain ⟨zv, h1, h2⟩ := zeroT_run hz pv e
  obtain ⟨us, h3, h4⟩ := fill_run hp ps _ cs r _ h (denV_cells hp h2 hc) (parts_run hρ _ _ hps)
  refine did_pure E (rv := .agg us.toArray) ?_ (by simp [denV, h4])
  have hm : (fs.mapM fun f => do pure (f.offset, ← sizeOf f.type) : Sem (Array (Nat × Nat))).run P w = .ok places.toArray w := by
    rw [Array.mapM_eq_mapM_toList]
    have := mapM_run (P := P) (fun f : Field => (do pure (f.offset, ← sizeOf f.type) : Sem (Nat × Nat))) (fun f : Field => (sizeT P f.type).map fun n => (f.offset, n)) w (fun f y hy => by
      rw [Option.map_eq_some_iff] at hy
      obtain ⟨n, hn, rfl⟩ := hy
      simp [sizeOf_run hn]) fs.toList places hpl
    simp only [Sem.run_map, this, Result.andThen_ok]
  have hfill : Instr.fill (fun i => places.toArray[i]?) zv.cells (parts.map fun p => (p.1, ra p.2)).toList = some us.toArray := by
    rw [← h3]
    simp
  simp only [execOp, ho, Instr.build, Sem.run_bind, h1, Result.andThen_ok, underlying_run hu]
  simp only [hm, Result.andThen_ok]
  have : (parts.map fun (p : Nat × Operand) => (p.fst, ra p.snd)).toList = (parts.map fun (x : Nat × Operand) => match x with | (i, x) => (i, ra x)).toList := rfl
  simp only [← this, hfill]
  rfl
theorem did_buildA {t el : TypeId} {len n : Nat} {parts : Array (Nat × Operand)} {z : V} {ps : List (Nat × V)} {cs r : List C} (hp : One pv) (hρ : Says pv e ρ ra) (E : Emb pv e H w) (ho : o.op = .build t parts) (hz : zeroT P t = some z)
    (hps : partsOf ρ parts.toList = some ps) (hc : z.cells = some cs) (hu : P.underlying t = some (.array len el)) (hn : sizeT P el = some n) (h : fillC (fun i => some (i * n, n)) cs ps = some r) :
    Did P pv ra o e H w (.agg r) H := by
  obtain ⟨zv, h1, h2⟩ := zeroT_run hz pv e
  obtain ⟨us, h3, h4⟩ := fill_run hp ps _ cs r _ h (denV_cells hp h2 hc) (parts_run hρ _ _ hps)
  refine did_pure E (rv := .agg us.toArray) ?_ (by simp [denV, h4])
  have hfill : Instr.fill (fun i => some (i * n, n)) zv.cells (parts.map fun p => (p.1, ra p.2)).toList = some us.toArray := by
    rw [← h3]
    simp
  simp only [execOp, ho, Instr.build, Sem.run_bind, h1, Result.andThen_ok, underlying_run hu, sizeOf_run hn]
  have : (parts.map fun (p : Nat × Operand) => (p.fst, ra p.snd)).toList = (parts.map fun (x : Nat × Operand) => match x with | (i, x) => (i, ra x)).toList := rfl
  simp only [← this, hfill]
  rfl
theorem rep_get {zs : List Value} (h0 : 0 < zs.length) : ∀ (len i : Nat), i < len * zs.length → ((List.replicate len zs).flatten)[i]? = zs[i % zs.length]?
  | 0, i, h => by simp at h
  | len + 1, i, h => by
    rw [List.replicate_succ, List.flatten_cons]
    by_cases hi : i < zs.length
    · rw [List.getElem?_append_left hi, Nat.mod_eq_of_lt hi]
    · have e1 : (len + 1) * zs.length = len * zs.length + zs.length := Nat.succ_mul ..
      rw [List.getElem?_append_right (by omega), rep_get h0 len (i - zs.length) (by omega)]
      congr 1
      exact (Nat.mod_eq_sub_mod (by omega)).symm
theorem denL_append : ∀ {a b : List C} {x y : List Value}, denL pv e a = some x → denL pv e b = some y → denL pv e (a ++ b) = some (x ++ y)
  | [], b, x, y, h, h' => by simp only [denL, Option.some.injEq] at h; subst h; exact h'
  | c :: a, b, x, y, h, h' => by
    simp only [denL] at h
    split at h
    · rename_i v hv
      split at h
      · rename_i us hu
        cases h
        simp only [List.cons_append, denL, hv, denL_append hu h']
      · cases h
    · cases h
theorem den_rep {zs : List C} {vs : List Value} (h : denL pv e zs = some vs) : ∀ n, denL pv e (rep zs n) = some (List.replicate n vs).flatten
  | 0 => by simp [rep, denL]
  | n + 1 => by
    have ih := den_rep h n
    simp only [rep, List.replicate_succ, List.flatten_cons]
    exact denL_append h ih
theorem did_buildSlice {t el : TypeId} {len n : Nat} {parts : Array (Nat × Operand)} {z : V} {ps : List (Nat × V)} {zs r : List C} (hp : One pv) (hρ : Says pv e ρ ra) (E : Emb pv e H w) (ho : o.op = .buildSlice t len parts) (hu : P.underlying t = some (.slice el)) (hps : partsOf ρ parts.toList = some ps)
    (hn : sizeT P el = some n) (hz : zeroT P el = some z) (hc : z.cells = some zs) (h0 : zs.length = n ∧ 0 < n ∧ len * n ≤ 1000) (h : fillC (fun i => some (i * n, n)) (rep zs len) ps = some r) :
    Did P pv ra o e H w (.c (.sl H.length 0 len len)) (newB H ⟨r, el, false, none⟩) := by
  obtain ⟨zv, h1, h2⟩ := zeroT_run hz pv e
  have hzc := denV_cells hp h2 hc
  obtain ⟨us, h3, h4⟩ := fill_run hp ps _ _ r _ h (den_rep hzc len) (parts_run hρ _ _ hps)
  refine did_made (cap := 0) E h4 (rv := .slice (some ⟨w.heap.size, 0, none⟩) len len) ?_ (by simp [denV, den, E.len])
  have hlen : zv.cells.size = n := by rw [← Array.length_toList, denL_length hzc, h0.1]
  have hcells : ((if len * n = 0 then pure #[] else do pure (← zeroValue el).cells : Sem (Array Value)).run P w) = .ok (if len * n = 0 then #[] else zv.cells) w := by
    split <;> simp [h1]
  have hrow : (Array.range (len * n)).map (fun i => (if len * n = 0 then #[] else zv.cells)[i % (if len * n = 0 then #[] else zv.cells).size]!) = ((List.replicate len zv.cells.toList).flatten).toArray := by
    apply Array.ext
    · simp [hlen]
    · intro i g1 g2
      simp only [Array.size_map, Array.size_range] at g1
      have hne : len * n ≠ 0 := by omega
      have g3 := rep_get (zs := zv.cells.toList) (by simp [hlen]; omega) len i (by simpa [hlen] using g1)
      have hm : i % zv.cells.size < zv.cells.size := Nat.mod_lt _ (by omega)
      simp only [Array.getElem_map, Array.getElem_range, if_neg hne, List.getElem_toArray]
      rw [getElem!_pos zv.cells (i % zv.cells.size) hm]
      simp only [Array.length_toList] at g3
      rw [List.getElem?_eq_getElem (by simpa using g2), List.getElem?_eq_getElem (by simpa using hm), Option.some.injEq] at g3
      rw [g3]
      simp
  have hbig : ¬ (len * n > 2 ^ 24) := by omega
  have hfill : Instr.fill (fun i => some (i * n, n)) ((Array.range (len * n)).map (fun i => (if len * n = 0 then #[] else zv.cells)[i % (if len * n = 0 then #[] else zv.cells).size]!)) (parts.map fun p => (p.1, ra p.2)).toList = some us.toArray := by
    rw [hrow, ← h3]
    simp
  simp only [execOp, ho, Instr.buildSlice, Sem.run_bind, underlying_run hu, Result.andThen_ok, sizeOf_run hn, if_neg hbig, Sem.run_pure]
  by_cases h00 : len * n = 0
  · simp only [if_pos h00] at hfill ⊢
    simp only [Sem.run_bind, Sem.run_pure, Result.andThen_ok, hfill]
    simp [newRow]
  · simp only [if_neg h00] at hfill ⊢
    simp only [Sem.run_bind, h1, Sem.run_pure, Result.andThen_ok, hfill]
    simp [newRow]
theorem did_len {b : Builtin} {args : Array Operand} {ats : Array TypeId} {vs : List V} {v : V} {H' : Heap} (hρ : Says pv e ρ ra) (E : Emb pv e H w) (ho : o.op = .call { callee := .builtin b, args := args, argTypes := ats }) (hv : allSome ρ args.toList = some vs)
    (h : evBuiltin P b ats.toList vs H = some (.val true v H')) : Did P pv ra o e H w v H' := by
  have ha := says_all hρ _ _ hv
  have hargs : args.map ra = (args.toList.map ra).toArray := by rw [← Array.toList_map]
  have run : ∀ (s : Sem Value) (rv : Value), (∀ cs, builtin b ats o.type cs (args.map ra) = (do pure (.value (← s)))) → s.run P w = .ok rv w → denV pv e v = some rv → Did P pv ra o e H w v H := by
    intro s rv h1 h2 h3
    refine did_pure E (rv := rv) ?_ h3
    simp only [execOp, ho, resolve, Sem.run_bind, Sem.run_pure, Result.andThen_ok, invoke]
    rw [h1]
    simp only [Sem.run_bind, h2, Sem.run_pure, Result.andThen_ok]
  unfold evBuiltin at h
  split at h
  · rename_i t x h1
    have hats : ats = #[t] := by rw [← Array.toArray_toList (xs := ats), h1]
    simp only [allSome] at ha
    split at ha
    · rename_i rv hrv
      simp only [Option.some.injEq] at ha
      have h2 : args.map ra = #[rv] := by rw [hargs, ← ha]
      split at h
      · rename_i hu
        cases h
        simp only [denV, den, Option.some.injEq] at hrv
        subst hrv
        exact run (Builtin.len_ ats o.type (args.map ra)) _ (fun _ => rfl) (by rw [h2, hats]; simp [Builtin.len_, underlying_run hu, goInt]) rfl
      · rename_i hu
        cases h
        simp only [denV, den, Option.map_eq_some_iff] at hrv
        obtain ⟨_, _, rfl⟩ := hrv
        exact run (Builtin.len_ ats o.type (args.map ra)) _ (fun _ => rfl) (by rw [h2, hats]; simp [Builtin.len_, underlying_run hu, goInt]) rfl
      · rename_i hu
        cases h
        simp only [denV, den, Option.bind_eq_some_iff] at hrv
        obtain ⟨_, _, hrv⟩ := hrv
        split at hrv
        · cases hrv
          exact run (Builtin.len_ ats o.type (args.map ra)) _ (fun _ => rfl) (by rw [h2, hats]; simp [Builtin.len_, underlying_run hu, goInt]) rfl
        · cases hrv
      · rename_i hu
        cases h
        exact run (Builtin.len_ ats o.type (args.map ra)) _ (fun _ => rfl) (by rw [h2, hats]; simp [Builtin.len_, underlying_run hu, goInt]) rfl
      · cases h
    · cases ha
  · rename_i k x k' y
    simp only [allSome, denV, den, Option.some.injEq] at ha
    cases h
    have h2 : args.map ra = #[.int k x, .int k' y] := by rw [hargs, ← ha]
    exact run (Builtin.min_ ats o.type (args.map ra)) _ (fun _ => rfl) (by rw [h2]; simp [Builtin.min_, Builtin.min2]) rfl
  · rename_i k x k' y
    simp only [allSome, denV, den, Option.some.injEq] at ha
    cases h
    have h2 : args.map ra = #[.int k x, .int k' y] := by rw [hargs, ← ha]
    exact run (Builtin.max_ ats o.type (args.map ra)) _ (fun _ => rfl) (by rw [h2]; simp [Builtin.max_, Builtin.max2]) rfl
  · cases h
theorem did_iface {t : TypeId} {x : Operand} {c : C} {d : TypeDesc} (hρ : Says pv e ρ ra) (E : Emb pv e H w) (ho : o.op = .makeInterface t x) (hx : ρ x = some (.c c)) (hu : P.underlying t = some d) (hd : isIfaceD d = false) : Did P pv ra o e H w (.c (.ifc t c)) H := by
  have h1 := hρ x _ hx
  refine did_pure E (rv := .iface t (ra x)) ?_ ?_
  · simp only [execOp, ho, Instr.makeInterface, Sem.run_bind, underlying_run hu, Result.andThen_ok]
    cases d <;> simp [isIfaceD] at hd ⊢
  · simp only [denV, den] at h1 ⊢
    rw [h1]; rfl

/-! ### rows that grow -/
theorem boundC_mono {v : Option V} {d m m' n : Nat} (h : boundC v d m = some (true, n)) (hm : m ≤ m') : boundC v d m' = some (true, n) := by
  unfold boundC at h ⊢
  split at h
  · exact h
  · rename_i k i
    simp only [Option.some.injEq, Prod.mk.injEq, decide_eq_true_eq] at h ⊢
    exact ⟨⟨h.1.1, by omega⟩, h.2⟩
  · cases h
theorem boundC_le {v : Option V} {d m n : Nat} (h : boundC v d m = some (true, n)) (hd : d ≤ m) : n ≤ m := by
  unfold boundC at h
  split at h
  · simp only [Option.some.injEq, Prod.mk.injEq, true_and] at h; omega
  · simp only [Option.some.injEq, Prod.mk.injEq, decide_eq_true_eq] at h; omega
  · cases h
theorem did_sliceSlg {t el : TypeId} {x : Operand} {lo hi : Option Operand} {lv hv : Option V} {len b h' l' : Nat} (hρ : Says pv e ρ ra) (E : Emb pv e H w) (ho : o.op = .slice t x lo hi none) (hu : P.underlying t = some (.slice el)) (hx : ρ x = some (.c (.slg b 0 len)))
    (h1 : optO ρ lo = some lv) (h2 : optO ρ hi = some hv) (hz : sizeT P el = some 1) (h3 : boundC hv len len = some (true, h')) (h4 : boundC lv 0 h' = some (true, l')) : Did P pv ra o e H w (.c (.slg b l' (h' - l'))) H := by
  have := hρ x _ hx
  simp only [denV, den, Option.bind_eq_some_iff] at this
  obtain ⟨r, g1, g2⟩ := this
  split at g2
  · rename_i hle
    simp only [Option.some.injEq, ite_self, Nat.sub_zero, Nat.zero_add] at g2 hle
    have h5 := boundC_le h3 (Nat.le_refl _)
    have h6 := boundC_le h4 (Nat.zero_le _)
    have h3' := boundC_mono h3 hle
    refine did_pure E (rv := .slice (some ⟨r.1, if r.2 = l' then 0 else l', none⟩) (h' - l') (r.2 - l')) ?_ ?_
    · simp only [execOp, ho, ← g2, Instr.sliceAt, Sem.run_bind, underlying_run hu, Result.andThen_ok, Instr.slice, Option.map_none, bounds_run hρ h1 h2 h3' h4, sizeOf_run hz, Option.map_some, add_addr, Sem.run_pure]
      split <;> simp
    · simp only [denV, den, g1, Option.bind_some]
      rw [if_pos (by omega)]
  · cases g2
theorem one_cell {v : Value} (h : One v) : v.oneCell' = true := by
  cases v with
  | agg cs => exact absurd rfl (h.1 cs)
  | tuple cs => exact absurd rfl (h.2 cs)
  | _ => rfl
theorem growable_info {el : TypeId} (h : growable P el = true) : ∃ i z, P.info? el = some i ∧ i.zero = some z ∧ i.size = 1 ∧ i.bytes ≤ 64 ∧ z.cells.size = 1 := by
  unfold growable at h
  split at h
  · rename_i i hi
    split at h
    · rename_i z hz
      simp only [Bool.and_eq_true, beq_iff_eq, decide_eq_true_eq] at h
      exact ⟨i, z, hi, hz, h.1.1, h.1.2, h.2⟩
    · cases h
  · cases h
theorem setB_none {H : Heap} {b i : Nat} {k : Blk} (h : blkAt (setB H b none) i = some k) : i ≠ b ∧ blkAt H i = some k := by
  rw [setB_eq, blkAt_eq, List.getElem?_set] at h
  split at h
  · split at h <;> simp at h
  · rename_i hi
    exact ⟨fun h => hi h.symm, by rw [blkAt_eq]; exact h⟩
/-- what is left when a row has grown: the new number g at the block bn, other blocks as they were; the row that it grew from (dropped) may have been there. -/
theorem Emb.grew {pv : Value} {e : Env} {H H1 : Heap} {w w' : World} (E : Emb pv e H w) {row : Option Nat} (hlen : H1.length = H.length) (hsub : ∀ i k, blkAt H1 i = some k → blkAt H i = some k ∧ ∀ r, e[i]? = some r → some r.1 ≠ row)
    (hg : w.grownBy w' row) {cs : List C} {vs : List Value} {el : TypeId} {g cap : Nat} {cur : Array Value} (hd : denL pv e cs = some vs) (hw : w'.heap[g]? = some (.cells cur el (0, 0))) (hcap : cap ≤ maxLen) (hsz : cur.size = cap) (htk : cur.toList.take vs.length = vs)
    (hn : some g = row ∨ w.heap.size ≤ g) : Emb pv (e ++ [(g, cap)]) (newB H1 ⟨cs, el, true, none⟩) w' := by
  have hx : Ext e (e ++ [(g, cap)]) := ⟨_, rfl⟩
  have hel := E.len
  have hsplit : ∀ i k, blkAt (newB H1 ⟨cs, el, true, none⟩) i = some k → (i = H1.length ∧ k = ⟨cs, el, true, none⟩) ∨ (blkAt H1 i = some k ∧ i < H1.length) := by
    intro i k h
    rw [blkAt_new] at h
    split at h
    · cases h; exact .inl ⟨‹_›, rfl⟩
    · refine .inr ⟨h, ?_⟩
      rw [blkAt_eq] at h
      by_cases hi : i < H1.length
      · exact hi
      · rw [List.getElem?_eq_none (by omega)] at h; simp at h
  have old : ∀ i k r, blkAt H1 i = some k → i < H1.length → (e ++ [(g, cap)])[i]? = some r → e[i]? = some r ∧ r.1 ≠ g := by
    intro i k r hk hi hr
    rw [List.getElem?_append_left (by omega)] at hr
    obtain ⟨h1, h2⟩ := hsub i k hk
    refine ⟨hr, fun h => ?_⟩
    have hlt := E.own_lt ⟨i, k, r, h1, hr, rfl⟩
    rcases hn with hn | hn
    · exact h2 r hr (by rw [← hn, h])
    · omega
  have new : ∀ r, (e ++ [(g, cap)])[H1.length]? = some r → r.1 = g := by
    intro r hr
    rw [List.getElem?_append_right (by omega)] at hr
    rw [show H1.length - e.length = 0 by omega] at hr
    simp at hr
    simp [← hr]
  refine ⟨by simp [newB, hlen, hel], fun i k hk => ?_, fun i j k k' r r' hk hk' hr hr' he => ?_, fun i k hk => ?_⟩
  rotate_right
  · rcases hsplit i k hk with ⟨_, rfl⟩ | ⟨h, _⟩
    · exact Blk.ok_none rfl
    · exact E.ok i k (hsub i k h).1
  · rcases hsplit i k hk with ⟨rfl, rfl⟩ | ⟨hk, hi⟩
    · refine ⟨(g, cap), vs, cur.toList.drop vs.length, ?_, denL_ext hx _ _ hd, ?_, fun h => (by cases h), fun _ => ⟨?_, hcap⟩⟩
      · rw [List.getElem?_append_right (by omega), show H1.length - e.length = 0 by omega]; rfl
      · rw [← htk, List.length_take]
        rw [show min vs.length cur.toList.length = vs.length by
          have := congrArg List.length htk; rw [List.length_take] at this; exact this]
        rw [List.take_append_drop]; simpa using hw
      · have := congrArg List.length htk
        rw [List.length_take] at this
        simp only [Array.length_toList] at this
        simp only [List.length_append, List.length_drop, Array.length_toList]
        omega
    · obtain ⟨h1, h2⟩ := hsub i k hk
      obtain ⟨r, cs', tl, hr, hd', hw', h3, h4⟩ := E.row i k h1
      exact ⟨r, cs', tl, hx.get hr, denL_ext hx _ _ hd', (hg.block r.1 (E.own_lt ⟨i, k, r, h1, hr, rfl⟩) (h2 r hr)).trans hw', h3, h4⟩
  · rcases hsplit i k hk with ⟨rfl, rfl⟩ | ⟨hk, hi⟩ <;> rcases hsplit j k' hk' with ⟨rfl, rfl⟩ | ⟨hk', hj⟩
    · rfl
    · exact absurd (he.symm.trans (new r hr)) (old j k' r' hk' hj hr').2
    · exact absurd (he.trans (new r' hr')) (old i k r hk hi hr).2
    · exact E.inj i j k k' r r' (hsub i k hk).1 (hsub j k' hk').1 (old i k r hk hi hr).1 (old j k' r' hk' hj hr').1 he
theorem own_grew {e : Env} {H H1 : Heap} {g cap x : Nat} {k : Blk} (hel : H.length = e.length) (hlen : H1.length = H.length) (hsub : ∀ i k, blkAt H1 i = some k → blkAt H i = some k) (h : Own (e ++ [(g, cap)]) (newB H1 k) x) : Own e H x ∨ x = g := by
  obtain ⟨i, k', r, h1, h2, h3⟩ := h
  rw [blkAt_new] at h1
  split at h1
  · rename_i hi
    right
    rw [hi, List.getElem?_append_right (by omega), show H1.length - e.length = 0 by omega] at h2
    simp at h2
    rw [← h3, ← h2]
  · left
    have : i < H1.length := by
      rw [blkAt_eq] at h1
      by_cases hi : i < H1.length
      · exact hi
      · rw [List.getElem?_eq_none (by omega)] at h1; simp at h1
    rw [List.getElem?_append_left (by omega)] at h2
    exact ⟨i, k', r, hsub i k' h1, h2, h3⟩
theorem evAppend_val {ts : List TypeId} {vs : List V} {q : Stp} (h : evAppend P ts vs H = some q) : ∃ g v H', q = .val g v H' := by
  unfold evAppend at h
  split at h
  · split at h
    · split at h
      · split at h
        · split at h
          · split at h
            · split at h
              · cases h; exact ⟨_, _, _, rfl⟩
              · split at h
                · split at h
                  · cases h; exact ⟨_, _, _, rfl⟩
                  · cases h
                · cases h
              · cases h
            · cases h
          · cases h
        · cases h
      · cases h
    · cases h
  · cases h
theorem did_append {args : Array Operand} {ats : Array TypeId} {vs : List V} {v : V} {H' : Heap} (hp : One pv) (hρ : Says pv e ρ ra) (E : Emb pv e H w) (ho : o.op = .call { callee := .builtin .append, args := args, argTypes := ats }) (hv : allSome ρ args.toList = some vs)
    (h : evAppend P ats.toList vs H = some (.val true v H')) : Did P pv ra o e H w v H' := by
  have ha := says_all hρ _ _ hv
  have hargs : args.map ra = (args.toList.map ra).toArray := by rw [← Array.toList_map]
  unfold evAppend at h
  split at h
  · rename_i t u s b q n c h1
    split at h
    · rename_i hc
      obtain ⟨rfl, hn0, hn1⟩ := hc
      split at h
      · rename_i el hu
        split at h
        · rename_i hgr
          obtain ⟨inf, z, hi1, hi2, hi3, hi4, hi5⟩ := growable_info hgr
          split at h
          · rename_i k hk
            split at h
            · rename_i xs hxs
              have hats : ats = #[t, t] := by rw [← Array.toArray_toList (xs := ats), h1]
              obtain ⟨r, cs, tl, hr, hd, hw, _, _⟩ := E.row b k hk
              obtain ⟨hdx, hbx⟩ : denL pv e xs = some (cs.extract q (q + n)) ∧ q + n ≤ cs.length := by
                rcases denL_slice hd (slice_real (E.ok b k hk) hxs) with h2 | ⟨h2, _⟩
                · exact h2
                · omega
              have hnews : ∀ j u, (cs.extract q (q + n))[j]? = some u → w.cell? ((⟨r.1, q, none⟩ : Addr).add j) = some u := by
                intro j u hj
                have hjn : j < n := by
                  have := (List.getElem?_eq_some_iff.1 hj).1
                  simp at this; omega
                rw [add_addr, cell_of hw, List.getElem?_toArray, List.getElem?_append_left (by omega)]
                rw [List.extract_eq_take_drop, List.getElem?_take, if_pos (by omega), List.getElem?_drop] at hj
                exact hj
              have hln : (cs.extract q (q + n)).length = n * 1 := by simp; omega
              have hone : ∀ u ∈ cs.extract q (q + n), u.oneCell' = true := fun u hu => one_cell (denL_one hp hdx u hu)
              have main : ∀ (sv : Value) (len : Nat) (ys : List C) (us : List Value) (row : Option Nat) (H1 : Heap), den pv e s = some sv → w.ownsRow 0 el 1 sv len us → denL pv e ys = some us → len ≤ 1000 → sv.ownBlock = row → H1.length = H.length →
                  (∀ i k, blkAt H1 i = some k → blkAt H i = some k ∧ ∀ r, e[i]? = some r → some r.1 ≠ row) → (∀ b, row = some b → Own e H b) →
                  v = .c (.slg H.length 0 (len + n)) → H' = newB H1 ⟨ys ++ xs, el, true, none⟩ → Did P pv ra o e H w v H' := by
                intro sv len ys us row H1 hsv how hys hlen hrow hl1 hsub hown hv' hH'
                obtain ⟨v', w', hrun, how', hgb, hnil, hblk⟩ := run_append_own_at (P := P) (w := w) 0 t o.type el inf z 1 inf.bytes hu hi1 hi2 hi3 rfl hi5 (by decide) sv len us how ⟨r.1, q, none⟩ n c _ hln hnews hone
                  (by unfold maxLen; omega) (by have : (len + n) * inf.bytes ≤ 2000 * 64 := Nat.mul_le_mul (by omega) hi4; omega) (Nat.zero_le _)
                rw [hrow] at hgb
                have hd2 := denL_append hys hdx
                have hl2 := how'.1
                rcases how'.2 with ⟨_, h0⟩ | ⟨g, cap, cur, rfl, _, hgw, hgn, hgc, hgs, hgt⟩
                · omega
                · have hgr : some g = row ∨ w.heap.size ≤ g := by
                    rcases hblk with h2 | h2
                    · rw [hrow] at h2; exact .inl h2
                    · simp only [Value.ownBlock, Option.some.injEq] at h2; exact .inr (by omega)
                  have hE := E.grew (H1 := H1) hl1 hsub hgb hd2 hgw hgc (by simpa using hgs) (by rw [hl2]; exact hgt) hgr
                  subst hv' hH'
                  refine ⟨.value (.slice (some ⟨g, 0, none⟩) (len + n) cap), w', e ++ [(g, cap)], _, ?_, .inl rfl, ⟨_, rfl⟩, ?_, hE, ?_, fun b hb => ?_⟩
                  · have h2 : args.map ra = #[sv, .slice (some ⟨r.1, q, none⟩) n c] := by
                      rw [hargs]
                      simp only [allSome, denV, hsv, den, hr, Option.map_some, Option.some.injEq] at ha
                      rw [← ha]
                    simp only [execOp, ho, resolve, Sem.run_bind, Sem.run_pure, Result.andThen_ok, invoke, builtin]
                    rw [h2, hats, hrun]
                    rfl
                  · simp only [denV, den]
                    rw [List.getElem?_append_right (by have := E.len; omega), show H.length - e.length = 0 by have := E.len; omega]
                    simp only [List.getElem?_cons_zero, Option.bind_some]
                    rw [if_pos (by omega)]
                    simp
                  · exact ⟨hgb.os, hgb.tape, hgb.output, hgb.size, fun b hb hnb => hgb.block b hb fun hc => hnb (hown b hc.symm)⟩
                  · rcases own_grew E.len hl1 (fun i k hk => (hsub i k hk).1) hb with h2 | rfl
                    · exact .inl h2
                    · rcases hgr with h2 | h2
                      · exact .inl (hown _ h2.symm)
                      · exact .inr h2
              split at h
              · cases h
                exact main (.slice none 0 0) 0 [] [] none H rfl ⟨rfl, .inl ⟨rfl, rfl⟩⟩ rfl (by omega) rfl rfl (fun i k hk => ⟨hk, fun r _ h => by cases h⟩) (fun b h => by cases h) (by simp) (by simp)
              · rename_i b2 len
                split at h
                · rename_i k2 hk2
                  split at h
                  · rename_i hc2
                    obtain ⟨htb2, hg2, hel2, hcl2, hle2⟩ := hc2
                    cases h
                    obtain ⟨r2, cs2, tl2, hr2, hd2, hw2, _, hgr2⟩ := E.row b2 k2 hk2
                    rw [Blk.real_none (by simpa using htb2)] at hd2
                    obtain ⟨hgr3, hgr4⟩ := hgr2 hg2
                    have hcl := denL_length hd2
                    have hsv : den pv e (.slg b2 0 len) = some (.slice (some ⟨r2.1, 0, none⟩) len r2.2) := by
                      simp only [den, hr2, Option.bind_some]
                      rw [if_pos (by rw [← hgr3, List.length_append, hcl, hcl2]; omega)]
                      simp
                    refine main _ len k2.cells cs2 (some r2.1) (setB H b2 none) hsv ⟨by omega, .inr ⟨r2.1, r2.2, (cs2 ++ tl2).toArray, rfl, Nat.zero_le _, by rw [← hel2]; exact hw2, ?_, hgr4, ?_, ?_⟩⟩ hd2 hle2 rfl (by rw [setB_eq, List.length_set]) ?_ ?_ rfl rfl
                    · rw [← hgr3, List.length_append]; omega
                    · simpa using hgr3
                    · simp only [Nat.mul_one]
                      rw [List.take_left' (by omega)]
                    · intro i k3 hk3
                      obtain ⟨h5, h6⟩ := setB_none hk3
                      refine ⟨h6, fun r3 hr3 h7 => h5 ?_⟩
                      simp only [Option.some.injEq] at h7
                      exact E.inj i b2 k3 k2 r3 r2 h6 hk2 hr3 hr2 h7
                    · intro b3 hb3
                      cases hb3
                      exact ⟨b2, k2, r2, hk2, hr2, rfl⟩
                  · cases h
                · cases h
              · cases h
            · cases h
          · cases h
        · cases h
      · cases h
    · cases h
  · cases h
end
end Go.Proofs.YtaegelbaghaooaaGreat.Lx
