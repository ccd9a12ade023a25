/- The local executor: operations, the second part; all of them at once. -/
import Derived.Test.YtjcdojcbdfblbaaLxOps
import Derived.Laws.MakeOwn
import Derived.Maps.AppendAt
import Derived.Laws.StructEq
namespace Go.Proofs.Ytjcdojcbdfblbaa.Lx
open Go
section
variable {ρ : Operand → Option V} {P : Program} {pv : Value} {ra : Operand → Value} {o : Oper} {e : Env} {H : Heap} {w : World}
theorem den_c {x : Operand} {a : C} (hρ : Says pv e ρ ra) (h : ρ x = some (.c a)) : den pv e a = some (ra x) := hρ x _ h
theorem guard_int (op : BinOp) (t : TypeId) (X Y : Operand) (k j : IntKind) (a b : Int) : (eqGuard op t X Y (.int k a) (.int j b)).run P w = .ok () w := by
  unfold eqGuard
  cases op <;> simp
theorem did_bin {op : BinOp} {t u : TypeId} {x y : Operand} {a b r : C} (hpi : ∃ t u, pv = .iface t u) (hρ : Says pv e ρ ra) (E : Emb pv e H w) (ho : o.op = .binOp op t x y u) (hx : ρ x = some (.c a)) (hy : ρ y = some (.c b)) (h : evBin P op t x y a b = some (true, r)) : Did P pv ra o e H w (.c r) H := by
  have hda := den_c hρ hx
  have hdb := den_c hρ hy
  have fin : ∀ rv, (binOp op t (ra x) (ra y)).run P w = .ok rv w → (eqGuard op t x y (ra x) (ra y)).run P w = .ok () w → den pv e r = some rv → Did P pv ra o e H w (.c r) H := by
    intro rv h1 h2 h3
    refine did_pure E (rv := rv) ?_ h3
    simp [execOp, ho, h1, h2]
  unfold evBin at h
  split at h
  · rename_i k m k' n
    simp only [den, Option.some.injEq] at hda hdb
    have hg : (eqGuard op t x y (ra x) (ra y)).run P w = .ok () w := by rw [← hda, ← hdb]; exact guard_int ..
    split at h
    · obtain ⟨rv, h1, h2⟩ := shiftBin_run (pv := pv) (e := e) (k' := k') h t
      exact fin rv (by rw [← hda, ← hdb, h1]; rfl) hg h2
    · obtain ⟨rv, h1, h2⟩ := shiftBin_run (pv := pv) (e := e) (k' := k') h t
      exact fin rv (by rw [← hda, ← hdb, h1]; rfl) hg h2
    · rename_i hs1 hs2
      split at h
      · rename_i hk
        subst hk
        obtain ⟨rv, h1, h2⟩ := intBin_run (pv := pv) (e := e) h t ⟨fun hh => hs1 hh, fun hh => hs2 hh⟩
        exact fin rv (by rw [← hda, ← hdb, h1]; rfl) hg h2
      · cases h
  · rename_i a b hne
    have hq : ∀ (q : Bool), q = (isConstO x || isConstO y) → q = true → isConstO x = true ∨ isConstO y = true := by
      intro q h1 h2
      rw [h1] at h2
      simpa using h2
    have hx' : Op.maxDepth = 9999 + 1 := rfl
    split at h
    · rename_i d hu
      rw [Option.map_eq_some_iff] at h
      obtain ⟨r', h1, h2⟩ := h
      simp only [Prod.mk.injEq, true_and] at h2
      subst h2
      obtain ⟨g1, g2, g3, _⟩ := eqC_run (P := P) (w := w) hu hpi hda hdb h1
      exact fin (.bool r') (by rw [g3]; simp only [Op.equal, hx', Sem.run_bind, g1, Result.andThen_ok, Sem.run_pure]) (g2 _ _ _ (hq _ rfl)) rfl
    · rename_i d hu
      rw [Option.map_eq_some_iff] at h
      obtain ⟨r', h1, h2⟩ := h
      simp only [Prod.mk.injEq, true_and] at h2
      subst h2
      obtain ⟨g1, g2, _, g3⟩ := eqC_run (P := P) (w := w) hu hpi hda hdb h1
      exact fin (.bool (!r')) (by rw [g3]; simp only [Op.equal, hx', Sem.run_bind, g1, Result.andThen_ok, Sem.run_pure]) (g2 _ _ _ (hq _ rfl)) rfl
    · cases h
theorem eqFs_run {rec : TypeId → V → V → Option Bool} {m : Nat} (IH : ∀ t x y r rx ry, rec t x y = some r → denV pv e x = some rx → denV pv e y = some ry → (Op.equalIn m t rx ry).run P w = .ok r w) {xs ys : List C} {vx vy : List Value} (hx : denL pv e xs = some vx) (hy : denL pv e ys = some vy) :
    ∀ (fs : List Field) (r : Bool), eqFsF rec P fs xs ys = some r → (Op.eqFields m vx.toArray vy.toArray fs).run P w = .ok r w
  | [], r, h => by simp only [eqFsF, Option.some.injEq] at h; subst h; rfl
  | f :: fs, r, h => by
    simp only [eqFsF] at h
    by_cases hn : f.name = "_"
    · rw [if_pos hn] at h
      simp only [Op.eqFields, hn, ne_eq, not_true_eq_false, if_false]
      exact eqFs_run IH hx hy fs r h
    · rw [if_neg hn] at h
      split at h
      · rename_i a b ha hb
        split at h
        · rename_i p q hp hq
          cases h
          obtain ⟨ra, h1, h2⟩ := part_run (w := w) hx ha
          obtain ⟨rb, h3, h4⟩ := part_run (w := w) hy hb
          have h5 := IH _ _ _ _ _ _ hp h2 h4
          simp only [Op.eqFields, ne_eq, hn, not_false_eq_true, if_true, Sem.run_bind, h1, h3, h5, Result.andThen_ok]
          cases p
          · simp
          · simpa using eqFs_run IH hx hy fs q hq
        · cases h
      · cases h
theorem eqF_run : ∀ (d : Nat) (t : TypeId) (x y : V) (r : Bool) (rx ry : Value), eqF P d t x y = some r → denV pv e x = some rx → denV pv e y = some ry → ∀ n, (Op.equalIn (n + d) t rx ry).run P w = .ok r w
  | 0, t, x, y, r, rx, ry, h, _, _, _ => by simp [eqF] at h
  | d + 1, t, x, y, r, rx, ry, h, hx, hy, n => by
    unfold eqF at h
    split at h
    · rename_i a b hu
      cases h
      simp only [denV, den, Option.some.injEq] at hx hy
      subst hx hy
      exact run_equalIn_bool w (n + d) t a b hu
    · rename_i k0 k a k' b hu
      split at h
      · rename_i hk
        cases h
        subst hk
        simp only [denV, den, Option.some.injEq] at hx hy
        subst hx hy
        exact run_equalIn_int w (n + d) t k _ a b hu
      · cases h
    · rename_i fs xs ys hu
      split at h
      · cases h
      · rename_i hs
        simp only [denV, Option.map_eq_some_iff] at hx hy
        obtain ⟨vx, h1, rfl⟩ := hx
        obtain ⟨vy, h2, rfl⟩ := hy
        have hf : P.fieldsOf t = fs := by simp only [Program.fieldsOf, hu]
        rw [show n + (d + 1) = (n + d) + 1 from rfl, run_equalIn_struct w (n + d) t vx.toArray vy.toArray (by rw [hf]; exact hu) (by simpa using hs), hf]
        exact eqFs_run (fun t x y r rx ry h hx hy => eqF_run d t x y r rx ry h hx hy n) h1 h2 fs.toList r h
    · cases h
theorem did_binA {op : BinOp} {t u : TypeId} {x y : Operand} {l m : List C} {r : C} (hρ : Says pv e ρ ra) (E : Emb pv e H w) (ho : o.op = .binOp op t x y u) (hx : ρ x = some (.agg l)) (hy : ρ y = some (.agg m)) (h : evBinA P op t l m = some r) : Did P pv ra o e H w (.c r) H := by
  have hda := hρ x _ hx
  have hdb := hρ y _ hy
  simp only [denV, Option.map_eq_some_iff] at hda hdb
  obtain ⟨vx, h1, h2⟩ := hda
  obtain ⟨vy, h3, h4⟩ := hdb
  unfold evBinA at h
  split at h
  · cases h
  · rename_i hg
    have hgd := run_eqGuard_agg (P := P) w op t x y vx.toArray vy.toArray (by simpa using hg)
    split at h
    · rename_i q hq
      cases h
      have hr := eqF_run (pv := pv) (e := e) (w := w) 10 t _ _ q (.agg vx.toArray) (.agg vy.toArray) hq (by simp only [denV, h1, Option.map_some]) (by simp only [denV, h3, Option.map_some]) 9990
      refine did_pure E (rv := .bool q) ?_ rfl
      have hb := run_eql_struct (P := P) w t vx.toArray vy.toArray
      rw [hr] at hb
      simp only [execOp, ho, ← h2, ← h4, Sem.run_bind, hgd, Result.andThen_ok, hb, Sem.run_pure]
    · rename_i q hq
      cases h
      have hr := eqF_run (pv := pv) (e := e) (w := w) 10 t _ _ q (.agg vx.toArray) (.agg vy.toArray) hq (by simp only [denV, h1, Option.map_some]) (by simp only [denV, h3, Option.map_some]) 9990
      refine did_pure E (rv := .bool (!q)) ?_ rfl
      have hb := run_neq_struct (P := P) w t vx.toArray vy.toArray
      rw [hr] at hb
      simp only [execOp, ho, ← h2, ← h4, Sem.run_bind, hgd, Result.andThen_ok, hb, Sem.run_pure]
    · cases h
theorem says_all (hρ : Says pv e ρ ra) : ∀ (l : List Operand) (vs : List V), allSome ρ l = some vs → allSome (denV pv e) vs = some (l.map ra)
  | [], vs, h => by simp only [allSome, Option.some.injEq] at h; subst h; rfl
  | x :: l, vs, h => by
    simp only [allSome] at h
    split at h
    · rename_i v hv
      split at h
      · rename_i us hu
        cases h
        simp only [allSome, hρ x v hv, says_all hρ l us hu, List.map_cons]
      · cases h
    · cases h
theorem caps_all : ∀ (vs : List V) (cs : List C) (rs : List Value), capsOf vs = some cs → allSome (denV pv e) vs = some rs → denL pv e cs = some rs
  | [], cs, rs, h, hr => by
    simp only [capsOf, allSome, Option.some.injEq] at h hr
    subst h; subst hr; rfl
  | v :: vs, cs, rs, h, hr => by
    simp only [capsOf, allSome] at h hr
    split at h
    · rename_i x hx
      split at h
      · rename_i us hu
        cases h
        split at hr
        · rename_i y hy
          split at hr
          · rename_i ys hys
            cases hr
            cases v with
            | c a =>
              simp only [Option.some.injEq] at hx
              subst hx
              simp only [denV] at hy
              simp only [denL, hy, caps_all vs us ys hu hys]
            | agg l => simp at hx
            | tup l => simp at hx
          · cases hr
        · cases hr
      · cases h
    · cases h
theorem did_func {f : FuncId} {first captured : Array Operand} {vs : List V} {cs : List C} (hρ : Says pv e ρ ra) (E : Emb pv e H w) (ho : o.op = .makeFunc (.func f) first captured) (hf : first.size = 0) (h1 : allSome ρ captured.toList = some vs) (h2 : capsOf vs = some cs) : Did P pv ra o e H w (.c (.fn f cs)) H := by
  have h3 := caps_all (pv := pv) (e := e) _ _ _ h2 (says_all hρ _ _ h1)
  refine did_pure E (rv := .func (.func f) #[] (captured.map ra)) ?_ ?_
  · have : first = #[] := Array.eq_empty_of_size_eq_zero hf
    subst this
    simp [execOp, ho, Instr.makeFunc]
  · simp only [denV, den, h3, Option.map_some, Option.some.injEq, Value.func.injEq, true_and]
    rw [← Array.toList_map]
theorem did_meth {s : String} {first captured : Array Operand} {x : Operand} {c : C} (hρ : Says pv e ρ ra) (E : Emb pv e H w) (ho : o.op = .makeFunc (.method s) first captured) (hf : captured.size = 0) (h1 : first.toList = [x]) (h2 : ρ x = some (.c c)) : Did P pv ra o e H w (.c (.meth s c)) H := by
  have h3 := hρ x _ h2
  refine did_pure E (rv := .func (.method s) #[ra x] #[]) ?_ ?_
  · have : captured = #[] := Array.eq_empty_of_size_eq_zero hf
    subst this
    have : first = #[x] := by rw [← Array.toArray_toList (xs := first), h1]
    subst this
    simp [execOp, ho, Instr.makeFunc]
  · simp only [denV] at h3
    simp [denV, den, h3]
theorem optO_run (hρ : Says pv e ρ ra) {x : Option Operand} {v : Option V} (h : optO ρ x = some v) : (x = none ∧ v = none) ∨ ∃ y u, x = some y ∧ v = some u ∧ denV pv e u = some (ra y) := by
  cases x with
  | none => simp only [optO, Option.some.injEq] at h; exact .inl ⟨rfl, h.symm⟩
  | some y =>
    simp only [optO, Option.map_eq_some_iff] at h
    obtain ⟨u, h1, rfl⟩ := h
    exact .inr ⟨y, u, rfl, rfl, hρ y u h1⟩
theorem bound_run {v : V} {rv : Value} {most n : Nat} {dflt : Nat} {code : BoundsCode} (hv : denV pv e v = some rv) (h : boundC (some v) dflt most = some (true, n)) : (Instr.sliceBound rv most code).run P w = .ok n w := by
  unfold boundC at h
  split at h
  · rename_i h0; cases h0
  · rename_i k i h0
    cases h0
    simp only [Option.some.injEq, Prod.mk.injEq, decide_eq_true_eq] at h
    simp only [denV, den, Option.some.injEq] at hv
    subst hv
    simp [Instr.sliceBound, asIntOf, h.1, h.2]
  · cases h
theorem bounds_run {isSlice : Bool} {len cap h' l' : Nat} {lo hi : Option Operand} {lv hv : Option V} (hρ : Says pv e ρ ra) (h1 : optO ρ lo = some lv) (h2 : optO ρ hi = some hv) (h3 : boundC hv len cap = some (true, h')) (h4 : boundC lv 0 h' = some (true, l')) :
    (Instr.sliceBounds isSlice len cap (lo.map ra) (hi.map ra) none).run P w = .ok (l', h', cap) w := by
  rcases optO_run hρ h2 with ⟨rfl, rfl⟩ | ⟨y, u, rfl, rfl, hu⟩ <;> rcases optO_run hρ h1 with ⟨rfl, rfl⟩ | ⟨y', u', rfl, rfl, hu'⟩
  · simp only [boundC, Option.some.injEq, Prod.mk.injEq, true_and] at h3 h4
    subst h3; subst h4
    simp [Instr.sliceBounds]
  · simp only [boundC, Option.some.injEq, Prod.mk.injEq, true_and] at h3
    subst h3
    simp [Instr.sliceBounds, bound_run hu' h4]
  · simp only [boundC, Option.some.injEq, Prod.mk.injEq, true_and] at h4
    subst h4
    simp [Instr.sliceBounds, bound_run hu h3]
  · simp [Instr.sliceBounds, bound_run hu' h4, bound_run hu h3]
theorem did_sliceArr {t el : TypeId} {x : Operand} {lo hi : Option Operand} {lv hv : Option V} {n b p z h' l' : Nat} (hρ : Says pv e ρ ra) (E : Emb pv e H w) (ho : o.op = .slice t x lo hi none) (hu : P.underlying t = some (.array n el)) (hx : ρ x = some (.c (.ptr b p)))
    (h1 : optO ρ lo = some lv) (h2 : optO ρ hi = some hv) (hz : sizeT P el = some z) (h3 : boundC hv n n = some (true, h')) (h4 : boundC lv 0 h' = some (true, l')) : Did P pv ra o e H w (.c (.sl b (if n = l' then p else p + l' * z) (h' - l') (n - l'))) H := by
  obtain ⟨r, g1, g2⟩ := den_ptr hρ hx
  refine did_pure E (rv := .slice (some ⟨r.1, if n = l' then p else p + l' * z, none⟩) (h' - l') (n - l')) ?_ (by simp [denV, den, g1])
  simp only [execOp, ho, g2, Instr.sliceAt, Sem.run_bind, underlying_run hu, Result.andThen_ok, Instr.sureAddr, Sem.run_pure, Option.map_none, bounds_run hρ h1 h2 h3 h4, sizeOf_run hz, add_addr]
  split <;> rfl
theorem did_sliceSl {t el : TypeId} {x : Operand} {lo hi : Option Operand} {lv hv : Option V} {len cap b p z h' l' : Nat} (hρ : Says pv e ρ ra) (E : Emb pv e H w) (ho : o.op = .slice t x lo hi none) (hu : P.underlying t = some (.slice el)) (hx : ρ x = some (.c (.sl b p len cap)))
    (h1 : optO ρ lo = some lv) (h2 : optO ρ hi = some hv) (hz : sizeT P el = some z) (h3 : boundC hv len cap = some (true, h')) (h4 : boundC lv 0 h' = some (true, l')) : Did P pv ra o e H w (.c (.sl b (if cap = l' then p else p + l' * z) (h' - l') (cap - l'))) H := by
  have := hρ x _ hx
  simp only [denV, den, Option.map_eq_some_iff] at this
  obtain ⟨r, g1, g2⟩ := this
  refine did_pure E (rv := .slice (some ⟨r.1, if cap = l' then p else p + l' * z, none⟩) (h' - l') (cap - l')) ?_ (by simp [denV, den, g1])
  simp only [execOp, ho, ← g2, Instr.sliceAt, Sem.run_bind, underlying_run hu, Result.andThen_ok, Instr.slice, Option.map_none, bounds_run hρ h1 h2 h3 h4, sizeOf_run hz, Option.map_some, add_addr, Sem.run_pure]
  split <;> rfl

/-! ### structs and rows that are built -/
theorem fold_put : ∀ (l : List Value) (k off : Nat) (cs : Array Value), (l.zipIdx k).foldl (fun cs (c : Value × Nat) => cs.setIfInBounds (off + c.2) c.1) cs = (put cs.toList (off + k) l).toArray
  | [], k, off, cs => by simp [put]
  | v :: l, k, off, cs => by
    simp only [List.zipIdx_cons, List.foldl_cons, put]
    rw [fold_put l (k + 1) off, Array.toList_setIfInBounds]
    rw [Nat.add_assoc]
theorem fill_run {place : Nat → Option (Nat × Nat)} (hp : One pv) : ∀ (ps : List (Nat × V)) (rs : List (Nat × Value)) (cells r : List C) (vs : List Value), fillC place cells ps = some r → denL pv e cells = some vs →
    allSome (fun p => (denV pv e p.2).map fun v => (p.1, v)) ps = some rs → ∃ us, Instr.fill place vs.toArray rs = some us.toArray ∧ denL pv e r = some us
  | [], rs, cells, r, vs, h, hd, hr => by
    simp only [fillC, Option.some.injEq] at h
    simp only [allSome, Option.some.injEq] at hr
    subst h; subst hr
    exact ⟨vs, rfl, hd⟩
  | (i, v) :: ps, rs, cells, r, vs, h, hd, hr => by
    simp only [fillC] at h
    simp only [allSome] at hr
    split at hr
    · rename_i y hy
      split at hr
      · rename_i ys hys
        cases hr
        rw [Option.map_eq_some_iff] at hy
        obtain ⟨rv, hrv, rfl⟩ := hy
        split at h
        · rename_i off size xs hpl hxs
          split at h
          · rename_i hc
            split at h
            · rename_i cs hcs
              obtain rfl := splice_put _ _ _ _ hcs
              have h2 := denV_cells hp hrv hxs
              have hl2 := denL_length h2
              have hl := denL_length hd
              obtain ⟨us, h3, h4⟩ := fill_run hp ps ys _ r (put vs off rv.cells.toList) h (denL_put hd h2) hys
              refine ⟨us, ?_, h4⟩
              simp only [Instr.fill, hpl]
              have e1 : rv.cells.size = size := by rw [← Array.length_toList, hl2, hc.1]
              rw [if_neg (by simp [e1]; omega)]
              rw [← h3]
              congr 1
              rw [← Array.foldl_toList, Array.toList_zipIdx, fold_put]
              simp
            · cases h
          · cases h
        · cases h
      · cases hr
    · cases hr
theorem parts_run (hρ : Says pv e ρ ra) : ∀ (l : List (Nat × Operand)) (ps : List (Nat × V)), partsOf ρ l = some ps → allSome (fun p => (denV pv e p.2).map fun v => (p.1, v)) ps = some (l.map fun p => (p.1, ra p.2))
  | [], ps, h => by simp only [partsOf, allSome, Option.some.injEq] at h; subst h; rfl
  | (i, x) :: l, ps, h => by
    simp only [partsOf, allSome] at h
    split at h
    · rename_i y hy
      split at h
      · rename_i ys hys
        cases h
        rw [Option.map_eq_some_iff] at hy
        obtain ⟨v, hv, rfl⟩ := hy
        have := parts_run hρ l ys (by simpa [partsOf] using hys)
        simp only [allSome, hρ x v hv, Option.map_some, this, List.map_cons]
      · cases h
    · cases h
theorem mapM_run {α β : Type} (f : α → Sem β) (g : α → Option β) (w : World) (h : ∀ x y, g x = some y → (f x).run P w = .ok y w) : ∀ (l : List α) (r : List β), allSome g l = some r → (l.mapM f).run P w = .ok r w
  | [], r, hr => by simp only [allSome, Option.some.injEq] at hr; subst hr; simp
  | x :: l, r, hr => by
    simp only [allSome] at hr
    split at hr
    · rename_i y hy
      split at hr
      · rename_i ys hys
        cases hr
        simp [List.mapM_cons, h x y hy, mapM_run f g w h l ys hys]
      · cases hr
    · cases hr
theorem did_buildS {t : TypeId} {parts : Array (Nat × Operand)} {z : V} {ps : List (Nat × V)} {cs r : List C} {fs : Array Field} {places : List (Nat × Nat)} (hp : One pv) (hρ : Says pv e ρ ra) (E : Emb pv e H w) (ho : o.op = .build t parts) (hz : zeroT P t = some z)
    (hps : partsOf ρ parts.toList = some ps) (hc : z.cells = some cs) (hu : P.underlying t = some (.struct fs)) (hpl : allSome (fun f : Field => (sizeT P f.type).map fun n => (f.offset, n)) fs.toList = some places) (h : fillC (fun i => places[i]?) cs ps = some r) :
    Did P pv ra o e H w (.agg r) H := by
  obtain ⟨zv, h1, h2⟩ := zeroT_run hz pv e
  obtain ⟨us, h3, h4⟩ := fill_run hp ps _ cs r _ h (denV_cells hp h2 hc) (parts_run hρ _ _ hps)
  refine did_pure E (rv := .agg us.toArray) ?_ (by simp [denV, h4])
  have hm : (fs.mapM fun f => do pure (f.offset, ← sizeOf f.type) : Sem (Array (Nat × Nat))).run P w = .ok places.toArray w := by
    rw [Array.mapM_eq_mapM_toList]
    have := mapM_run (P := P) (fun f : Field => (do pure (f.offset, ← sizeOf f.type) : Sem (Nat × Nat))) (fun f : Field => (sizeT P f.type).map fun n => (f.offset, n)) w (fun f y hy => by
      rw [Option.map_eq_some_iff] at hy
      obtain ⟨n, hn, rfl⟩ := hy
      simp [sizeOf_run hn]) fs.toList places hpl
    simp only [Sem.run_map, this, Result.andThen_ok]
  have hfill : Instr.fill (fun i => places.toArray[i]?) zv.cells (parts.map fun p => (p.1, ra p.2)).toList = some us.toArray := by
    rw [← h3]
    simp
  simp only [execOp, ho, Instr.build, Sem.run_bind, h1, Result.andThen_ok, underlying_run hu]
  simp only [hm, Result.andThen_ok]
  have : (parts.map fun (p : Nat × Operand) => (p.fst, ra p.snd)).toList = (parts.map fun (x : Nat × Operand) => match x with | (i, x) => (i, ra x)).toList := rfl
  simp only [← this, hfill]
  rfl
theorem did_buildA {t el : TypeId} {len n : Nat} {parts : Array (Nat × Operand)} {z : V} {ps : List (Nat × V)} {cs r : List C} (hp : One pv) (hρ : Says pv e ρ ra) (E : Emb pv e H w) (ho : o.op = .build t parts) (hz : zeroT P t = some z)
    (hps : partsOf ρ parts.toList = some ps) (hc : z.cells = some cs) (hu : P.underlying t = some (.array len el)) (hn : sizeT P el = some n) (h : fillC (fun i => some (i * n, n)) cs ps = some r) :
    Did P pv ra o e H w (.agg r) H := by
  obtain ⟨zv, h1, h2⟩ := zeroT_run hz pv e
  obtain ⟨us, h3, h4⟩ := fill_run hp ps _ cs r _ h (denV_cells hp h2 hc) (parts_run hρ _ _ hps)
  refine did_pure E (rv := .agg us.toArray) ?_ (by simp [denV, h4])
  have hfill : Instr.fill (fun i => some (i * n, n)) zv.cells (parts.map fun p => (p.1, ra p.2)).toList = some us.toArray := by
    rw [← h3]
    simp
  simp only [execOp, ho, Instr.build, Sem.run_bind, h1, Result.andThen_ok, underlying_run hu, sizeOf_run hn]
  have : (parts.map fun (p : Nat × Operand) => (p.fst, ra p.snd)).toList = (parts.map fun (x : Nat × Operand) => match x with | (i, x) => (i, ra x)).toList := rfl
  simp only [← this, hfill]
  rfl
theorem rep_get {zs : List Value} (h0 : 0 < zs.length) : ∀ (len i : Nat), i < len * zs.length → ((List.replicate len zs).flatten)[i]? = zs[i % zs.length]?
  | 0, i, h => by simp at h
  | len + 1, i, h => by
    rw [List.replicate_succ, List.flatten_cons]
    by_cases hi : i < zs.length
    · rw [List.getElem?_append_left hi, Nat.mod_eq_of_lt hi]
    · have e1 : (len + 1) * zs.length = len * zs.length + zs.length := Nat.succ_mul ..
      rw [List.getElem?_append_right (by omega), rep_get h0 len (i - zs.length) (by omega)]
      congr 1
      exact (Nat.mod_eq_sub_mod (by omega)).symm
theorem denL_append : ∀ {a b : List C} {x y : List Value}, denL pv e a = some x → denL pv e b = some y → denL pv e (a ++ b) = some (x ++ y)
  | [], b, x, y, h, h' => by simp only [denL, Option.some.injEq] at h; subst h; exact h'
  | c :: a, b, x, y, h, h' => by
    simp only [denL] at h
    split at h
    · rename_i v hv
      split at h
      · rename_i us hu
        cases h
        simp only [List.cons_append, denL, hv, denL_append hu h']
      · cases h
    · cases h
theorem den_rep {zs : List C} {vs : List Value} (h : denL pv e zs = some vs) : ∀ n, denL pv e (rep zs n) = some (List.replicate n vs).flatten
  | 0 => by simp [rep, denL]
  | n + 1 => by
    have ih := den_rep h n
    simp only [rep, List.replicate_succ, List.flatten_cons]
    exact denL_append h ih
theorem did_buildSlice {t el : TypeId} {len n : Nat} {parts : Array (Nat × Operand)} {z : V} {ps : List (Nat × V)} {zs r : List C} (hp : One pv) (hρ : Says pv e ρ ra) (E : Emb pv e H w) (ho : o.op = .buildSlice t len parts) (hu : P.underlying t = some (.slice el)) (hps : partsOf ρ parts.toList = some ps)
    (hn : sizeT P el = some n) (hz : zeroT P el = some z) (hc : z.cells = some zs) (h0 : zs.length = n ∧ 0 < n ∧ len * n ≤ 1000) (h : fillC (fun i => some (i * n, n)) (rep zs len) ps = some r) :
    Did P pv ra o e H w (.c (.sl H.length 0 len len)) (newB H ⟨r, el, false, none⟩) := by
  obtain ⟨zv, h1, h2⟩ := zeroT_run hz pv e
  have hzc := denV_cells hp h2 hc
  obtain ⟨us, h3, h4⟩ := fill_run hp ps _ _ r _ h (den_rep hzc len) (parts_run hρ _ _ hps)
  refine did_made (cap := 0) E h4 (rv := .slice (some ⟨w.heap.size, 0, none⟩) len len) ?_ (by simp [denV, den, E.len])
  have hlen : zv.cells.size = n := by rw [← Array.length_toList, denL_length hzc, h0.1]
  have hcells : ((if len * n = 0 then pure #[] else do pure (← zeroValue el).cells : Sem (Array Value)).run P w) = .ok (if len * n = 0 then #[] else zv.cells) w := by
    split <;> simp [h1]
  have hrow : (Array.range (len * n)).map (fun i => (if len * n = 0 then #[] else zv.cells)[i % (if len * n = 0 then #[] else zv.cells).size]!) = ((List.replicate len zv.cells.toList).flatten).toArray := by
    apply Array.ext
    · simp [hlen]
    · intro i g1 g2
      simp only [Array.size_map, Array.size_range] at g1
      have hne : len * n ≠ 0 := by omega
      have g3 := rep_get (zs := zv.cells.toList) (by simp [hlen]; omega) len i (by simpa [hlen] using g1)
      have hm : i % zv.cells.size < zv.cells.size := Nat.mod_lt _ (by omega)
      simp only [Array.getElem_map, Array.getElem_range, if_neg hne, List.getElem_toArray]
      rw [getElem!_pos zv.cells (i % zv.cells.size) hm]
      simp only [Array.length_toList] at g3
      rw [List.getElem?_eq_getElem (by simpa using g2), List.getElem?_eq_getElem (by simpa using hm), Option.some.injEq] at g3
      rw [g3]
      simp
  have hbig : ¬ (len * n > 2 ^ 24) := by omega
  have hfill : Instr.fill (fun i => some (i * n, n)) ((Array.range (len * n)).map (fun i => (if len * n = 0 then #[] else zv.cells)[i % (if len * n = 0 then #[] else zv.cells).size]!)) (parts.map fun p => (p.1, ra p.2)).toList = some us.toArray := by
    rw [hrow, ← h3]
    simp
  simp only [execOp, ho, Instr.buildSlice, Sem.run_bind, underlying_run hu, Result.andThen_ok, sizeOf_run hn, if_neg hbig, Sem.run_pure]
  by_cases h00 : len * n = 0
  · simp only [if_pos h00] at hfill ⊢
    simp only [Sem.run_bind, Sem.run_pure, Result.andThen_ok, hfill]
    simp [newRow]
  · simp only [if_neg h00] at hfill ⊢
    simp only [Sem.run_bind, h1, Sem.run_pure, Result.andThen_ok, hfill]
    simp [newRow]
theorem did_len {b : Builtin} {args : Array Operand} {ats : Array TypeId} {vs : List V} {v : V} {H' : Heap} (hρ : Says pv e ρ ra) (E : Emb pv e H w) (ho : o.op = .call { callee := .builtin b, args := args, argTypes := ats }) (hv : allSome ρ args.toList = some vs)
    (h : evBuiltin P b ats.toList vs H = some (.val true v H')) : Did P pv ra o e H w v H' := by
  have ha := says_all hρ _ _ hv
  have hargs : args.map ra = (args.toList.map ra).toArray := by rw [← Array.toList_map]
  have run : ∀ (s : Sem Value) (rv : Value), (∀ cs, builtin b ats o.type cs (args.map ra) = (do pure (.value (← s)))) → s.run P w = .ok rv w → denV pv e v = some rv → Did P pv ra o e H w v H := by
    intro s rv h1 h2 h3
    refine did_pure E (rv := rv) ?_ h3
    simp only [execOp, ho, resolve, Sem.run_bind, Sem.run_pure, Result.andThen_ok, invoke]
    rw [h1]
    simp only [Sem.run_bind, h2, Sem.run_pure, Result.andThen_ok]
  unfold evBuiltin at h
  split at h
  · rename_i t x h1
    have hats : ats = #[t] := by rw [← Array.toArray_toList (xs := ats), h1]
    simp only [allSome] at ha
    split at ha
    · rename_i rv hrv
      simp only [Option.some.injEq] at ha
      have h2 : args.map ra = #[rv] := by rw [hargs, ← ha]
      split at h
      · rename_i hu
        cases h
        simp only [denV, den, Option.some.injEq] at hrv
        subst hrv
        exact run (Builtin.len_ ats o.type (args.map ra)) _ (fun _ => rfl) (by rw [h2, hats]; simp [Builtin.len_, underlying_run hu, goInt]) rfl
      · rename_i hu
        cases h
        simp only [denV, den, Option.map_eq_some_iff] at hrv
        obtain ⟨_, _, rfl⟩ := hrv
        exact run (Builtin.len_ ats o.type (args.map ra)) _ (fun _ => rfl) (by rw [h2, hats]; simp [Builtin.len_, underlying_run hu, goInt]) rfl
      · rename_i hu
        cases h
        simp only [denV, den, Option.bind_eq_some_iff] at hrv
        obtain ⟨_, _, hrv⟩ := hrv
        split at hrv
        · cases hrv
          exact run (Builtin.len_ ats o.type (args.map ra)) _ (fun _ => rfl) (by rw [h2, hats]; simp [Builtin.len_, underlying_run hu, goInt]) rfl
        · cases hrv
      · rename_i hu
        cases h
        simp only [denV, den, Option.map_eq_some_iff] at hrv
        obtain ⟨_, _, rfl⟩ := hrv
        exact run (Builtin.len_ ats o.type (args.map ra)) _ (fun _ => rfl) (by rw [h2, hats]; simp [Builtin.len_, underlying_run hu, goInt]) rfl
      · rename_i hu
        cases h
        simp only [denV, den, Option.bind_eq_some_iff] at hrv
        obtain ⟨_, _, hrv⟩ := hrv
        split at hrv
        · rename_i h0
          subst h0
          obtain ⟨b0, rfl⟩ : ∃ b, rv = .slice b 0 0 := by rcases (zeroS_eq hrv).2 with h | ⟨a, h⟩ <;> exact ⟨_, h⟩
          exact run (Builtin.len_ ats o.type (args.map ra)) _ (fun _ => rfl) (by rw [h2, hats]; simp [Builtin.len_, underlying_run hu, goInt]) rfl
        · split at hrv
          · cases hrv
            exact run (Builtin.len_ ats o.type (args.map ra)) _ (fun _ => rfl) (by rw [h2, hats]; simp [Builtin.len_, underlying_run hu, goInt]) rfl
          · cases hrv
      · rename_i hu
        cases h
        exact run (Builtin.len_ ats o.type (args.map ra)) _ (fun _ => rfl) (by rw [h2, hats]; simp [Builtin.len_, underlying_run hu, goInt]) rfl
      · cases h
    · cases ha
  · rename_i k x k' y
    simp only [allSome, denV, den, Option.some.injEq] at ha
    cases h
    have h2 : args.map ra = #[.int k x, .int k' y] := by rw [hargs, ← ha]
    exact run (Builtin.min_ ats o.type (args.map ra)) _ (fun _ => rfl) (by rw [h2]; simp [Builtin.min_, Builtin.min2]) rfl
  · rename_i k x k' y
    simp only [allSome, denV, den, Option.some.injEq] at ha
    cases h
    have h2 : args.map ra = #[.int k x, .int k' y] := by rw [hargs, ← ha]
    exact run (Builtin.max_ ats o.type (args.map ra)) _ (fun _ => rfl) (by rw [h2]; simp [Builtin.max_, Builtin.max2]) rfl
  · cases h
theorem did_iface {t : TypeId} {x : Operand} {c : C} {d : TypeDesc} (hρ : Says pv e ρ ra) (E : Emb pv e H w) (ho : o.op = .makeInterface t x) (hx : ρ x = some (.c c)) (hu : P.underlying t = some d) (hd : isIfaceD d = false) : Did P pv ra o e H w (.c (.ifc t c)) H := by
  have h1 := hρ x _ hx
  refine did_pure E (rv := .iface t (ra x)) ?_ ?_
  · simp only [execOp, ho, Instr.makeInterface, Sem.run_bind, underlying_run hu, Result.andThen_ok]
    cases d <;> simp [isIfaceD] at hd ⊢
  · simp only [denV, den] at h1 ⊢
    rw [h1]; rfl

/-! ### rows that grow -/
theorem boundC_mono {v : Option V} {d m m' n : Nat} (h : boundC v d m = some (true, n)) (hm : m ≤ m') : boundC v d m' = some (true, n) := by
  unfold boundC at h ⊢
  split at h
  · exact h
  · rename_i k i
    simp only [Option.some.injEq, Prod.mk.injEq, decide_eq_true_eq] at h ⊢
    exact ⟨⟨h.1.1, by omega⟩, h.2⟩
  · cases h
theorem boundC_le {v : Option V} {d m n : Nat} (h : boundC v d m = some (true, n)) (hd : d ≤ m) : n ≤ m := by
  unfold boundC at h
  split at h
  · simp only [Option.some.injEq, Prod.mk.injEq, true_and] at h; omega
  · simp only [Option.some.injEq, Prod.mk.injEq, decide_eq_true_eq] at h; omega
  · cases h
theorem did_sliceSlg {t el : TypeId} {x : Operand} {lo hi : Option Operand} {lv hv : Option V} {len b h' l' : Nat} (hρ : Says pv e ρ ra) (E : Emb pv e H w) (ho : o.op = .slice t x lo hi none) (hu : P.underlying t = some (.slice el)) (hx : ρ x = some (.c (.slg b 0 len)))
    (h1 : optO ρ lo = some lv) (h2 : optO ρ hi = some hv) (hz : sizeT P el = some 1) (h3 : boundC hv len len = some (true, h')) (h4 : boundC lv 0 h' = some (true, l')) : Did P pv ra o e H w (.c (.slg b l' (h' - l'))) H := by
  have := hρ x _ hx
  simp only [denV, den, Option.bind_eq_some_iff] at this
  obtain ⟨r, g1, g2⟩ := this
  split at g2
  · rename_i hle
    simp only [Option.some.injEq, ite_self, Nat.sub_zero, Nat.zero_add] at g2 hle
    have h5 := boundC_le h3 (Nat.le_refl _)
    have h6 := boundC_le h4 (Nat.zero_le _)
    have h3' := boundC_mono h3 hle
    refine did_pure E (rv := .slice (some ⟨r.1, if r.2 = l' then 0 else l', none⟩) (h' - l') (r.2 - l')) ?_ ?_
    · simp only [execOp, ho, ← g2, Instr.sliceAt, Sem.run_bind, underlying_run hu, Result.andThen_ok, Instr.slice, Option.map_none, bounds_run hρ h1 h2 h3' h4, sizeOf_run hz, Option.map_some, add_addr, Sem.run_pure]
      split <;> simp
    · simp only [denV, den, g1, Option.bind_some]
      rw [if_pos (by omega)]
  · cases g2
theorem did_sliceSlr {t el : TypeId} {x : Operand} {lo hi : Option Operand} {lv hv : Option V} {z len b h' l' : Nat} (hρ : Says pv e ρ ra) (E : Emb pv e H w) (ho : o.op = .slice t x lo hi none) (hu : P.underlying t = some (.slice el)) (hx : ρ x = some (.c (.slr b len)))
    (h1 : optO ρ lo = some lv) (h2 : optO ρ hi = some hv) (hz : sizeT P el = some z) (h3 : boundC hv len len = some (true, h')) (h4 : boundC lv 0 h' = some (true, l')) : Did P pv ra o e H w (.c (.slv b z l' (h' - l'))) H := by
  have := hρ x _ hx
  simp only [denV, den, Option.bind_eq_some_iff] at this
  obtain ⟨r, g1, g2⟩ := this
  have h5 := boundC_le h3 (Nat.le_refl _)
  have h6 := boundC_le h4 (Nat.zero_le _)
  split at g2
  · rename_i h0
    subst h0
    obtain ⟨hr0, g3⟩ := zeroS_eq g2
    obtain rfl : h' = 0 := by omega
    obtain rfl : l' = 0 := by omega
    obtain ⟨b0, hb0⟩ : ∃ b, ra x = .slice b 0 0 := by rcases g3 with h | ⟨a, h⟩ <;> exact ⟨_, h⟩
    refine did_pure E (rv := .slice b0 0 0) ?_ ?_
    · simp only [execOp, ho, hb0, Instr.sliceAt, Sem.run_bind, underlying_run hu, Result.andThen_ok, Instr.slice, Option.map_none, bounds_run hρ h1 h2 h3 h4, sizeOf_run hz, Sem.run_pure]
      simp
    · simp only [denV, den, g1, Option.bind_some]
      rw [if_pos hr0, if_pos True.intro, g2, hb0]
  · split at g2
    · rename_i h0 hle
      simp only [Option.some.injEq] at g2
      have h3' := boundC_mono h3 hle
      refine did_pure E (rv := .slice (some ⟨r.1, if r.2 = l' then 0 else l' * z, none⟩) (h' - l') (r.2 - l')) ?_ ?_
      · simp only [execOp, ho, ← g2, Instr.sliceAt, Sem.run_bind, underlying_run hu, Result.andThen_ok, Instr.slice, Option.map_none, bounds_run hρ h1 h2 h3' h4, sizeOf_run hz, Option.map_some, add_addr, Sem.run_pure]
        split <;> simp
      · simp only [denV, den, g1, Option.bind_some]
        rw [if_neg (by omega), if_pos (by omega)]
    · cases g2
theorem one_cell {v : Value} (h : One v) : v.oneCell' = true := by
  cases v with
  | agg cs => exact absurd rfl (h.1 cs)
  | tuple cs => exact absurd rfl (h.2 cs)
  | _ => rfl
theorem growable_info {el : TypeId} (h : growable P el = true) : ∃ i z, P.info? el = some i ∧ i.zero = some z ∧ i.size = 1 ∧ i.bytes ≤ 64 ∧ z.cells.size = 1 := by
  unfold growable at h
  split at h
  · rename_i i hi
    split at h
    · rename_i z hz
      simp only [Bool.and_eq_true, beq_iff_eq, decide_eq_true_eq] at h
      exact ⟨i, z, hi, hz, h.1.1, h.1.2, h.2⟩
    · cases h
  · cases h
theorem setB_none {H : Heap} {b i : Nat} {k : Blk} (h : blkAt (setB H b none) i = some k) : i ≠ b ∧ blkAt H i = some k := by
  rw [setB_eq, blkAt_eq, List.getElem?_set] at h
  split at h
  · split at h <;> simp at h
  · rename_i hi
    exact ⟨fun h => hi h.symm, by rw [blkAt_eq]; exact h⟩
/-- what is left when a row has grown: the new number g at the block bn, other blocks as they were; the row that it grew from (dropped) may have been there. -/
theorem Emb.grew {pv : Value} {e : Env} {H H1 : Heap} {w w' : World} (E : Emb pv e H w) {row : Option Nat} (hlen : H1.length = H.length) (hsub : ∀ i k, blkAt H1 i = some k → blkAt H i = some k ∧ ∀ r, e[i]? = some r → k.virt = false → some r.1 ≠ row)
    (hg : w.grownBy w' row) {kn : Blk} {vs : List Value} {el : TypeId} {g cap : Nat} {cur : Array Value} (kok : kn.ok) (kw : kn.win = none) (kg : kn.grown = true) (kel : kn.elem = el) (hd : denL pv e kn.real = some vs) (hw : w'.heap[g]? = some (.cells cur el (0, 0))) (hcap : cap ≤ maxLen) (hsz : cur.size = cap * kn.wid) (htk : cur.toList.take vs.length = vs)
    (hn : some g = row ∨ w.heap.size ≤ g) (km : kn.mapped = none) : Emb pv (e ++ [(g, cap)]) (newB H1 kn) w' := by
  have hx : Ext e (e ++ [(g, cap)]) := ⟨_, rfl⟩
  have hel := E.len
  have hsplit : ∀ i k, blkAt (newB H1 kn) i = some k → (i = H1.length ∧ k = kn) ∨ (blkAt H1 i = some k ∧ i < H1.length) := by
    intro i k h
    rw [blkAt_new] at h
    split at h
    · cases h; exact .inl ⟨‹_›, rfl⟩
    · refine .inr ⟨h, ?_⟩
      rw [blkAt_eq] at h
      by_cases hi : i < H1.length
      · exact hi
      · rw [List.getElem?_eq_none (by omega)] at h; simp at h
  have old : ∀ i k r, blkAt H1 i = some k → i < H1.length → (e ++ [(g, cap)])[i]? = some r → e[i]? = some r ∧ (k.virt = false → r.1 ≠ g) := by
    intro i k r hk hi hr
    rw [List.getElem?_append_left (by omega)] at hr
    obtain ⟨h1, h2⟩ := hsub i k hk
    refine ⟨hr, fun hv h => ?_⟩
    have hlt := E.own_lt (own_any h1 hr hv)
    rcases hn with hn | hn
    · exact h2 r hr hv (by rw [← hn, h])
    · omega
  have new : ∀ r, (e ++ [(g, cap)])[H1.length]? = some r → r.1 = g := by
    intro r hr
    rw [List.getElem?_append_right (by omega)] at hr
    rw [show H1.length - e.length = 0 by omega] at hr
    simp at hr
    simp [← hr]
  refine ⟨by simp [newB, hlen, hel], fun i k hk => ?_, fun i j k k' r r' hk hk' hr hr' he v1 v2 => ?_, fun i k hk => ?_⟩
  rotate_right
  · rcases hsplit i k hk with ⟨_, rfl⟩ | ⟨h, _⟩
    · exact kok
    · exact E.ok i k (hsub i k h).1
  · rcases hsplit i k hk with ⟨rfl, rfl⟩ | ⟨hk, hi⟩
    · refine ⟨(g, cap), vs, ?_, denL_ext hx _ _ hd, Lies.mk (tl := cur.toList.drop vs.length) kw ?_ (fun h => (by rw [kg] at h; cases h)) (fun _ => ⟨?_, hcap⟩) km⟩
      · rw [List.getElem?_append_right (by omega), show H1.length - e.length = 0 by omega]; rfl
      · rw [kel, ← htk, List.length_take]
        rw [show min vs.length cur.toList.length = vs.length by
          have := congrArg List.length htk; rw [List.length_take] at this; exact this]
        rw [List.take_append_drop]; simpa using hw
      · have := congrArg List.length htk
        rw [List.length_take] at this
        simp only [Array.length_toList] at this
        simp only [List.length_append, List.length_drop, Array.length_toList]
        omega
    · obtain ⟨h1, h2⟩ := hsub i k hk
      obtain ⟨r, cs', hr, hd', hw'⟩ := E.lies i k h1
      exact ⟨r, cs', hx.get hr, denL_ext hx _ _ hd', hw'.same fun hv => hg.block r.1 (E.own_lt (own_any h1 hr hv)) (h2 r hr hv)⟩
  · rcases hsplit i k hk with ⟨rfl, _⟩ | ⟨hk, hi⟩ <;> rcases hsplit j k' hk' with ⟨rfl, _⟩ | ⟨hk', hj⟩
    · exact .inl rfl
    · exact absurd (he.symm.trans (new r hr)) ((old j k' r' hk' hj hr').2 v2)
    · exact absurd (he.trans (new r' hr')) ((old i k r hk hi hr).2 v1)
    · exact E.alone i j k k' r r' (hsub i k hk).1 (hsub j k' hk').1 (old i k r hk hi hr).1 (old j k' r' hk' hj hr').1 he v1 v2
theorem own_grew {e : Env} {H H1 : Heap} {g cap x : Nat} {k : Blk} (hel : H.length = e.length) (hlen : H1.length = H.length) (hsub : ∀ i k, blkAt H1 i = some k → blkAt H i = some k) {q : Bool} (h : Own q (e ++ [(g, cap)]) (newB H1 k) x) : Own q e H x ∨ x = g := by
  obtain ⟨i, k', r, h1, h2, h3, hv, h4⟩ := h
  rw [blkAt_new] at h1
  split at h1
  · rename_i hi
    right
    rw [hi, List.getElem?_append_right (by omega), show H1.length - e.length = 0 by omega] at h2
    simp at h2
    rw [← h3, ← h2]
  · left
    have : i < H1.length := by
      rw [blkAt_eq] at h1
      by_cases hi : i < H1.length
      · exact hi
      · rw [List.getElem?_eq_none (by omega)] at h1; simp at h1
    rw [List.getElem?_append_left (by omega)] at h2
    exact ⟨i, k', r, hsub i k' h1, h2, h3, hv, h4⟩
theorem evAppendR_val {el : TypeId} {c : C} {k : Blk} {q : Nat} {r : Stp} (h : evAppendR P el c k q H = some r) : ∃ g v H', r = .val g v H' := by
  unfold evAppendR at h
  repeat' split at h
  all_goals first | (cases h; exact ⟨_, _, _, rfl⟩) | cases h
theorem evAppendN_val {el : TypeId} {c : C} {n b q : Nat} {r : Stp} (h : evAppendN P el c n b q H = some r) : ∃ g v H', r = .val g v H' := by
  unfold evAppendN at h
  repeat' split at h
  all_goals first | (cases h; exact ⟨_, _, _, rfl⟩) | cases h
theorem evAppendV_val {el : TypeId} {s x : C} {r : Stp} (h : evAppendV P el s x H = some r) : ∃ g v H', r = .val g v H' := by
  unfold evAppendV at h
  repeat' split at h
  all_goals first | (cases h; exact ⟨_, _, _, rfl⟩) | cases h
theorem evAppend_val {ts : List TypeId} {vs : List V} {q : Stp} (h : evAppend P ts vs H = some q) : ∃ g v H', q = .val g v H' := by
  unfold evAppend at h
  split at h
  · split at h
    · split at h
      · exact evAppendV_val h
      · cases h
    · cases h
  · split at h
    · split at h
      · exact evAppendV_val h
      · cases h
    · cases h
  · split at h
    · split at h
      · split at h
        · exact evAppendR_val h
        · cases h
      · cases h
    · cases h
  · split at h
    · split at h
      · split at h
        · split at h
          · split at h
            · split at h
              · cases h; exact ⟨_, _, _, rfl⟩
              · split at h
                · split at h
                  · cases h; exact ⟨_, _, _, rfl⟩
                  · cases h
                · cases h
              · cases h
            · cases h
          · cases h
        · exact evAppendN_val h
      · cases h
    · cases h
  · cases h
/-- a row appended to an empty slice is as one appended to nil. -/
theorem append_empty {t ty el : TypeId} {i : TypeInfo} {z : Value} (ht : P.underlying t = some (.slice el)) (hi : P.info? el = some i) (hz : i.zero = some z) {a src : Addr} {n c : Nat} {xs : List Value} (hl : xs.length = n * i.size) (hn : ∀ j u, xs[j]? = some u → w.cell? (src.add j) = some u) (h0 : 0 < n) (h1 : n ≤ 2000) (h2 : n * i.bytes ≤ 281474976710656) :
    (Builtin.append_ #[t, t] ty #[.slice (some a) 0 0, .slice (some src) n c]).run P w = (Builtin.append_ #[t, t] ty #[.slice none 0 0, .slice (some src) n c]).run P w := by
  rw [run_append_nil (P := P) w t ty el i z ht hi hz src n c xs hl hn h0 (by omega) h2]
  have := run_append_grow (P := P) w t ty el i z ht hi hz a 0 0 [] (by simp) (fun j v h => by simp at h) src n c xs hl hn (by omega) (by omega) (by rw [Nat.zero_add, nextslicecap_zero h0]; exact h2)
  rw [this]
  simp
/-- nothing is appended. -/
theorem append_none {t ty el : TypeId} {i : TypeInfo} (ht : P.underlying t = some (.slice el)) (hi : P.info? el = some i) {base xb : Option Addr} {n c xc : Nat} (hnc : n ≤ c) :
    (Builtin.append_ #[t, t] ty #[.slice base n c, .slice xb 0 xc]).run P w = .ok (.slice base n c) w := by
  cases base <;> cases xb <;> simp [Builtin.append_, run_underlying ht, sizeOf, typeInfo, hi, Builtin.lenOf, Builtin.firstCells, hnc, loadCells, loadCellsFrom, storeCells]
/-- a new block that stands nowhere. -/
theorem Emb.virtNew {pv : Value} {e : Env} {H H1 : Heap} {w : World} (E : Emb pv e H w) (hlen : H1.length = H.length) (hsub : ∀ i k, blkAt H1 i = some k → blkAt H i = some k) {kn : Blk} (hv : kn.virt = true) (hreal : kn.real = []) (hok : kn.ok) (r : Nat × Nat) : Emb pv (e ++ [r]) (newB H1 kn) w ∧ ∀ q b, Own q (e ++ [r]) (newB H1 kn) b → Own q e H b := by
  have hx : Ext e (e ++ [r]) := ⟨_, rfl⟩
  have hel := E.len
  have hsplit : ∀ i k, blkAt (newB H1 kn) i = some k → (i = H1.length ∧ k = kn) ∨ (blkAt H1 i = some k ∧ i < H1.length) := by
    intro i k h
    rw [blkAt_new] at h
    split at h
    · cases h; exact .inl ⟨‹_›, rfl⟩
    · refine .inr ⟨h, ?_⟩
      rw [blkAt_eq] at h
      by_cases hi : i < H1.length
      · exact hi
      · rw [List.getElem?_eq_none (by omega)] at h; simp at h
  refine ⟨⟨by simp [newB, hlen, hel], fun i k hk => ?_, fun i j k k' r1 r1' hk hk' hr hr' he v1 v2 => ?_, fun i k hk => ?_⟩, ?_⟩
  · rcases hsplit i k hk with ⟨rfl, rfl⟩ | ⟨hk, hi⟩
    · exact ⟨r, [], by rw [List.getElem?_append_right (by omega), show H1.length - e.length = 0 by omega]; rfl, by rw [hreal]; rfl, .inl hv⟩
    · obtain ⟨r1, cs', hr, hd', hw⟩ := E.lies i k (hsub i k hk)
      exact ⟨r1, cs', hx.get hr, denL_ext hx _ _ hd', hw⟩
  · rcases hsplit i k hk with ⟨_, rfl⟩ | ⟨hk, hi⟩
    · rw [hv] at v1; cases v1
    · rcases hsplit j k' hk' with ⟨_, rfl⟩ | ⟨hk', hj⟩
      · rw [hv] at v2; cases v2
      · rw [List.getElem?_append_left (by omega)] at hr hr'
        exact E.alone i j k k' r1 r1' (hsub i k hk) (hsub j k' hk') hr hr' he v1 v2
  · rcases hsplit i k hk with ⟨_, rfl⟩ | ⟨hk, hi⟩
    · exact hok
    · exact E.ok i k (hsub i k hk)
  · rintro q b ⟨i, k, r1, h1, h2, h3, h4, h5⟩
    rcases hsplit i k h1 with ⟨_, rfl⟩ | ⟨h6, h7⟩
    · rw [hv] at h4; cases h4
    · rw [List.getElem?_append_left (by omega)] at h2
      exact ⟨i, k, r1, hsub i k h6, h2, h3, h4, h5⟩
/-- a row is grown: what is known of it behind that. -/
theorem did_grow {args : Array Operand} {ats : Array TypeId} {v : V} {H' : Heap} (E : Emb pv e H w) (ho : o.op = .call { callee := .builtin .append, args := args, argTypes := ats }) {t el : TypeId} (hats : ats = #[t, t]) (hu : P.underlying t = some (.slice el))
    {inf : TypeInfo} {z : Value} {size : Nat} (hi1 : P.info? el = some inf) (hi2 : inf.zero = some z) (hi3 : inf.size = size) (hi4 : inf.bytes ≤ 512) (hi5 : z.cells.size = size) (h0 : 0 < size)
    {sv sv' : Value} {len n : Nat} {us xs : List Value} {src : Addr} {c : Nat} (hargs : args.map ra = #[sv', .slice (some src) n c]) (hsv : sv' = sv ∨ sv = .slice none 0 0 ∧ ∃ a, sv' = .slice (some a) 0 0) (how : w.ownsRow 0 el size sv len us) (hnews : ∀ j u, xs[j]? = some u → w.cell? (src.add j) = some u) (hln : xs.length = n * size) (hone : ∀ u ∈ xs, u.oneCell' = true)
    (hlen : len + n ≤ 2000) (hn0 : 0 < n) {row : Option Nat} (hrow : sv.ownBlock = row) {H1 : Heap} (hl1 : H1.length = H.length) (hsub : ∀ i k, blkAt H1 i = some k → blkAt H i = some k ∧ ∀ r, e[i]? = some r → k.virt = false → some r.1 ≠ row) (hown : ∀ b, row = some b → ∀ q, Own q e H b)
    {kn : Blk} (hd2 : denL pv e kn.real = some (us ++ xs)) (kok : kn.ok) (kw : kn.win = none) (kwd : kn.wid = size) (kg : kn.grown = true) (kel : kn.elem = el)
    (hv' : ∀ g cap, len + n ≤ cap → denV pv (e ++ [(g, cap)]) v = some (.slice (some ⟨g, 0, none⟩) (len + n) cap)) (hH' : H' = newB H1 kn) : Did P pv ra o e H w v H' := by
  obtain ⟨v', w', hrun, how', hgb, hnil, hblk⟩ := run_append_own_at (P := P) (w := w) 0 t o.type el inf z size inf.bytes hu hi1 hi2 hi3 rfl hi5 h0 sv len us how src n c _ hln hnews hone
    (by unfold maxLen; omega) (by have : (len + n) * inf.bytes ≤ 2000 * 512 := Nat.mul_le_mul hlen hi4; omega) (Nat.zero_le _)
  rw [hrow] at hgb
  have hl2 := how'.1
  rcases how'.2 with ⟨_, h0'⟩ | ⟨g, cap, cur, rfl, _, hgw, hgn, hgc, hgs, hgt⟩
  · omega
  · have hgr : some g = row ∨ w.heap.size ≤ g := by
      rcases hblk with h2 | h2
      · rw [hrow] at h2; exact .inl h2
      · simp only [Value.ownBlock, Option.some.injEq] at h2; exact .inr (by omega)
    have hE := E.grew (H1 := H1) hl1 hsub hgb kok kw kg kel hd2 hgw hgc (by rw [kwd]; exact hgs) (by rw [hl2]; exact hgt) hgr (by
      have hx0 : 0 < xs.length := by rw [hln]; exact Nat.mul_pos hn0 h0
      exact Blk.mapped_some hd2 (j := us.length) (v := xs[0]) (by rw [List.getElem?_append_right (Nat.le_refl _), Nat.sub_self, List.getElem?_eq_getElem hx0]))
    subst hH'
    refine ⟨.value (.slice (some ⟨g, 0, none⟩) (len + n) cap), w', e ++ [(g, cap)], _, ?_, .inl rfl, ⟨_, rfl⟩, hv' g cap hgn, hE, ?_, fun q b hb => ?_⟩
    · simp only [execOp, ho, resolve, Sem.run_bind, Sem.run_pure, Result.andThen_ok, invoke, builtin]
      have hrun2 : (Builtin.append_ #[t, t] o.type #[sv', .slice (some src) n c]).run P w = .ok (.slice (some ⟨g, 0, none⟩) (len + n) cap) w' := by
        rcases hsv with h | ⟨rfl, a, rfl⟩
        · rw [h]; exact hrun
        · have hlen0 : len = 0 := by
            rcases how.2 with ⟨_, h⟩ | ⟨g, cap, cur, h, _⟩
            · exact h
            · cases h
          subst hlen0
          have hb : n * inf.bytes ≤ 2000 * 512 := Nat.mul_le_mul (by omega) hi4
          rw [append_empty hu hi1 hi2 (by rw [hln, hi3]) hnews hn0 (by omega) (by omega)]
          exact hrun
      rw [hargs, hats, hrun2]
      rfl
    · exact ⟨hgb.os, hgb.tape, hgb.output, hgb.size, fun b hb hnb => hgb.block b hb fun hc => hnb (hown b hc.symm _)⟩
    · rcases own_grew E.len hl1 (fun i k hk => (hsub i k hk).1) hb with h2 | rfl
      · exact .inl h2
      · rcases hgr with h2 | h2
        · exact .inl (hown _ h2.symm _)
        · exact .inr h2
theorem growableR_info {el : TypeId} {n : Nat} (h : growableR P el n = true) : ∃ i z, P.info? el = some i ∧ i.zero = some z ∧ i.size = n ∧ i.bytes ≤ 512 ∧ z.cells.size = n ∧ 1 ≤ n := by
  unfold growableR at h
  split at h
  · rename_i i hi
    split at h
    · rename_i z hz
      simp only [Bool.and_eq_true, beq_iff_eq, decide_eq_true_eq] at h
      exact ⟨i, z, hi, hz, h.1.1.1.1, h.1.2, h.2, h.1.1.1.2⟩
    · cases h
  · cases h
theorem slice_tab {k : Blk} (hk : k.ok) {o n : Nat} {r : List C} (hn : 0 < n) (h : slice k.cells o n = some r) : k.tab = none := by
  cases ht : k.tab with
  | none => rfl
  | some t => rw [hk t ht] at h; have := (slice_nil h).1; omega
theorem rows_virt {k : Blk} {sh : List CK} {l : List (List Int)} (h : k.tab = some (.rows sh l)) (hg : k.grown = true) : k.virt = emptyL l := by unfold Blk.virt; rw [h, hg]; rfl
theorem col_virt {k : Blk} {kd : IntKind} {l : List Int} (h : k.tab = some (.col kd l)) (hg : k.grown = true) : k.virt = emptyL l := by unfold Blk.virt; rw [h, hg]; rfl
theorem emptyL_app {α : Type} (l : List α) (x : α) : emptyL (l ++ [x]) = false := by cases l <;> rfl
/-! ### rows appended to rows -/
theorem flat_drop {sh : List CK} : ∀ (l : List (List Int)) (o : Nat), (l.flatMap (rowC sh)).drop (o * sh.length) = (l.drop o).flatMap (rowC sh)
  | l, 0 => by simp
  | [], o + 1 => by simp
  | r :: l, o + 1 => by
    rw [List.flatMap_cons, List.drop_succ_cons, ← flat_drop l o, Nat.add_mul, Nat.one_mul, Nat.add_comm, List.drop_append, rowC_length, List.drop_eq_nil_of_le (by rw [rowC_length]; omega), List.nil_append]
    congr 1; omega
theorem flat_take {sh : List CK} : ∀ (l : List (List Int)) (m : Nat), (l.flatMap (rowC sh)).take (m * sh.length) = (l.take m).flatMap (rowC sh)
  | l, 0 => by simp
  | [], m + 1 => by simp
  | r :: l, m + 1 => by
    rw [List.flatMap_cons, List.take_succ_cons, List.flatMap_cons, ← flat_take l m, Nat.add_mul, Nat.one_mul, Nat.add_comm, List.take_append, rowC_length, List.take_of_length_le (by rw [rowC_length]; omega)]
    congr 2; omega
/-- rows of z cells each. -/
def RowT (z : Nat) (t : Tab) : Prop := (∃ sh l, t = .rows sh l ∧ sh.length = z) ∨ ∃ kd l, t = .col kd l ∧ 1 = z
theorem RowT.blk {z : Nat} {t : Tab} {k : Blk} (h : RowT z t) (hk : k.tab = some t) (hg : k.grown = true) (hz : 0 < z) : k.win = none ∧ k.mapped = none ∧ k.wid = z ∧ (k.virt = true → t.cells = []) ∧ (t.cells = [] → k.virt = true) := by
  rcases h with ⟨sh, l, rfl, h⟩ | ⟨kd, l, rfl, h⟩
  · refine ⟨by unfold Blk.win; rw [hk], by unfold Blk.mapped; rw [hk], by unfold Blk.wid; rw [hk]; exact h, fun hv => ?_, fun hv => ?_⟩
    · rw [rows_virt hk hg] at hv
      cases l with
      | nil => rfl
      | cons => cases hv
    · rw [rows_virt hk hg]
      cases l with
      | nil => rfl
      | cons a l =>
        have := congrArg List.length hv
        simp only [Tab.cells, flat_length, List.length_cons, List.length_nil, h, Nat.add_mul] at this
        omega
  · refine ⟨by unfold Blk.win; rw [hk], by unfold Blk.mapped; rw [hk], by unfold Blk.wid; rw [hk]; exact h, fun hv => ?_, fun hv => ?_⟩
    · rw [col_virt hk hg] at hv
      cases l with
      | nil => rfl
      | cons => cases hv
    · rw [col_virt hk hg]
      cases l with
      | nil => rfl
      | cons a l => simp [Tab.cells] at hv
theorem cutOk_eq {α : Type} {w : Option Nat} {m : Nat} {l : List α} (h : cutOk w m l = true) : w.getD 0 + m ≤ l.length ∧ cutL w m l = (l.drop (w.getD 0)).take m := by
  cases w with
  | none =>
    have := Nat.eq_of_beq_eq_true h
    refine ⟨by simp; omega, ?_⟩
    show l = (l.drop 0).take m
    rw [List.drop_zero, List.take_of_length_le (by omega)]
  | some o => exact ⟨Nat.le_of_ble_eq_true h, rfl⟩
theorem catT_eq {z m len : Nat} {w : Option Nat} {t2 t tn : Tab} (h : catT z w m len t2 t = some (true, tn)) : RowT z t2 ∧ RowT z t ∧ RowT z tn ∧ t2.cells.length = len * z ∧ len ≤ 1000 ∧ m ≤ 1000 ∧ (w.getD 0 + m) * z ≤ t.cells.length ∧ tn.cells = t2.cells ++ (t.cells.drop (w.getD 0 * z)).take (m * z) := by
  unfold catT at h
  split at h
  · split at h
    · rename_i sh2 l2 sh l hc
      obtain ⟨rfl, rfl⟩ := hc
      simp only [Option.some.injEq, Prod.mk.injEq, Bool.and_eq_true] at h
      obtain ⟨⟨⟨⟨h1, h2⟩, h3⟩, h4⟩, rfl⟩ := h
      obtain ⟨h5, h6⟩ := cutOk_eq h3
      refine ⟨.inl ⟨_, _, rfl, rfl⟩, .inl ⟨_, _, rfl, rfl⟩, .inl ⟨_, _, rfl, rfl⟩, ?_, Nat.le_of_ble_eq_true h2, Nat.le_of_ble_eq_true h4, ?_, ?_⟩
      · simp only [Tab.cells, flat_length]; rw [Nat.eq_of_beq_eq_true h1]
      · simp only [Tab.cells, flat_length]; exact Nat.mul_le_mul_right _ h5
      · simp only [Tab.cells, List.flatMap_append]; rw [h6, flat_drop, flat_take]
    · cases h
  · split at h
    · rename_i kd2 l2 kd l hc
      obtain ⟨rfl, rfl⟩ := hc
      simp only [Option.some.injEq, Prod.mk.injEq, Bool.and_eq_true] at h
      obtain ⟨⟨⟨⟨h1, h2⟩, h3⟩, h4⟩, rfl⟩ := h
      obtain ⟨h5, h6⟩ := cutOk_eq h3
      refine ⟨.inr ⟨_, _, rfl, rfl⟩, .inr ⟨_, _, rfl, rfl⟩, .inr ⟨_, _, rfl, rfl⟩, ?_, Nat.le_of_ble_eq_true h2, Nat.le_of_ble_eq_true h4, ?_, ?_⟩
      · simp only [Tab.cells, List.length_map]; have := Nat.eq_of_beq_eq_true h1; omega
      · simp only [Tab.cells, List.length_map]; omega
      · simp only [Tab.cells, List.map_append]; rw [h6, List.map_take, List.map_drop, Nat.mul_one, Nat.mul_one]
    · cases h
  · cases h
theorem empty_cells {z m len : Nat} {w : Option Nat} {t tn : Tab} {g : Bool} (h : catT z w m len t.empty t = some (g, tn)) : t.empty.cells = [] := by
  cases t <;> first | rfl | (simp [catT, Tab.empty] at h)
/-- what a view shows. -/
theorem view_src {z m b : Nat} {ww : Option Nat} {x : C} {xv : Value} {k : Blk} {tb : Tab} (hz : 0 < z) (E : Emb pv e H w) (hx : den pv e x = some xv) (hv : viewOf z x = some (b, ww, m)) (hk : blkAt H b = some k) (ht : k.tab = some tb) (hg : k.grown = true) (hr : RowT z tb) (hle : (ww.getD 0 + m) * z ≤ tb.cells.length) :
    (m = 0 → ∃ xb xc, xv = .slice xb 0 xc) ∧ (0 < m → ∃ r us xc, xv = .slice (some ⟨r, ww.getD 0 * z, none⟩) m xc ∧ denL pv e ((tb.cells.drop (ww.getD 0 * z)).take (m * z)) = some us ∧ us.length = m * z ∧ ∀ j u, us[j]? = some u → w.cell? ((⟨r, ww.getD 0 * z, none⟩ : Addr).add j) = some u) := by
  have zero : ∀ {r v}, zeroS r = some v → ∃ xb xc, v = .slice xb 0 xc := fun h => by
    rcases (zeroS_eq h).2 with rfl | ⟨a, rfl⟩ <;> exact ⟨_, _, rfl⟩
  have key : 0 < m → ∃ r cs tl, e[b]? = some r ∧ denL pv e tb.cells = some cs ∧ w.heap[r.1]? = some (.cells (cs ++ tl).toArray k.elem (0, 0)) ∧ ww.getD 0 + m ≤ r.2 := fun hm => by
    obtain ⟨a1, a2, a3, a4, _⟩ := hr.blk ht hg hz
    have hm' : 0 < m * z := Nat.mul_pos hm hz
    have hvf : k.virt = false := by
      cases hvk : k.virt with
      | false => rfl
      | true =>
        rw [a4 hvk] at hle
        simp only [List.length_nil, Nat.add_mul] at hle
        omega
    obtain ⟨r, cs, tl, b1, b2, b3, _, b5⟩ := E.row b k hk a1 hvf a2
    rw [Blk.real_some ht] at b2
    refine ⟨r, cs, tl, b1, b2, b3, ?_⟩
    obtain ⟨b6, _⟩ := b5 hg
    rw [a3, List.length_append, denL_length b2] at b6
    exact Nat.le_of_mul_le_mul_right (show (ww.getD 0 + m) * z ≤ r.2 * z by omega) hz
  have cells : ∀ {r : Nat × Nat} {cs tl : List Value}, denL pv e tb.cells = some cs → w.heap[r.1]? = some (.cells (cs ++ tl).toArray k.elem (0, 0)) → ∃ us, denL pv e ((tb.cells.drop (ww.getD 0 * z)).take (m * z)) = some us ∧ us.length = m * z ∧ ∀ j u, us[j]? = some u → w.cell? ((⟨r.1, ww.getD 0 * z, none⟩ : Addr).add j) = some u := fun {r cs tl} hd hw => by
    have hl := denL_length hd
    have hsum : ww.getD 0 * z + m * z ≤ cs.length := by rw [hl, ← Nat.add_mul]; exact hle
    refine ⟨(cs.drop (ww.getD 0 * z)).take (m * z), denL_of ?_ fun i c hc => ?_, by simp; omega, fun j u hj => ?_⟩
    · simp only [List.length_take, List.length_drop, hl]
    · rw [List.getElem?_take] at hc ⊢
      split at hc
      · rename_i hi
        rw [if_pos hi, List.getElem?_drop]
        rw [List.getElem?_drop] at hc
        obtain ⟨v, h1, h2⟩ := denL_get hd hc
        rw [h1, h2]
      · cases hc
    · rw [List.getElem?_take] at hj
      split at hj
      · rename_i hjm
        rw [List.getElem?_drop] at hj
        rw [add_addr, cell_of hw, List.getElem?_toArray, List.getElem?_append_left (by omega)]
        exact hj
      · cases hj
  unfold viewOf at hv
  split at hv
  · rename_i b' z' o' m'
    split at hv
    · rename_i hzz
      subst hzz
      simp only [Option.some.injEq, Prod.mk.injEq] at hv
      obtain ⟨rfl, rfl, rfl⟩ := hv
      simp only [Option.getD_some] at *
      refine ⟨fun hm => ?_, fun hm => ?_⟩
      · subst hm
        simp only [den, Option.bind_eq_some_iff] at hx
        obtain ⟨r, _, h2⟩ := hx
        split at h2
        · split at h2
          · exact zero h2
          · cases h2
        · split at h2
          · cases h2; exact ⟨_, _, rfl⟩
          · cases h2
      · obtain ⟨r, cs, tl, h1, h2, h3, h4⟩ := key hm
        simp only [den, h1, Option.bind_some] at hx
        rw [if_neg (by omega), if_pos (by omega), if_neg (by omega)] at hx
        obtain ⟨us, g1, g2, g3⟩ := cells h2 h3
        cases hx
        exact ⟨_, us, _, rfl, g1, g2, g3⟩
    · cases hv
  · rename_i b' m'
    simp only [Option.some.injEq, Prod.mk.injEq] at hv
    obtain ⟨rfl, rfl, rfl⟩ := hv
    simp only [Option.getD_none] at *
    refine ⟨fun hm => ?_, fun hm => ?_⟩
    · subst hm
      simp only [den, Option.bind_eq_some_iff] at hx
      obtain ⟨r, _, h2⟩ := hx
      exact zero h2
    · obtain ⟨r, cs, tl, h1, h2, h3, h4⟩ := key hm
      simp only [den, h1, Option.bind_some] at hx
      rw [if_neg (by omega), if_pos (by omega)] at hx
      obtain ⟨us, g1, g2, g3⟩ := cells h2 h3
      cases hx
      exact ⟨_, us, _, by rw [Nat.zero_mul], g1, g2, g3⟩
  · cases hv
theorem did_appendV {args : Array Operand} {ats : Array TypeId} {v : V} {H' : Heap} (hp : One pv) (E : Emb pv e H w) (ho : o.op = .call { callee := .builtin .append, args := args, argTypes := ats }) {t el : TypeId} (hats : ats = #[t, t]) (hu : P.underlying t = some (.slice el))
    {s x : C} {sv xv : Value} (hargs : args.map ra = #[sv, xv]) (hs : den pv e s = some sv) (hx : den pv e x = some xv) (h : evAppendV P el s x H = some (.val true v H')) : Did P pv ra o e H w v H' := by
  unfold evAppendV at h
  split at h
  rotate_left
  · cases h
  rename_i z hsz
  split at h
  rotate_left
  · cases h
  rename_i hgr
  obtain ⟨inf, zv, hi1, hi2, hi3, hi4, hi5, hi6⟩ := growableR_info hgr
  split at h
  rotate_left
  · cases h
  rename_i b ww m hvw
  split at h
  rotate_left
  · cases h
  rename_i k hk
  split at h
  rotate_left
  · cases h
  rename_i tb htb
  split at h
  rotate_left
  · cases h
  rename_i hkg
  -- nothing is appended
  have none' : ∀ {H1 : Heap} {tn : Tab} {len : Nat} {xb base : Option Addr} {xc cap : Nat} (r : Nat × Nat) (us : List Value), H1.length = H.length → (∀ i k, blkAt H1 i = some k → blkAt H i = some k ∧ ∀ r', e[i]? = some r' → k.virt = false → some r'.1 ≠ if len = 0 then none else some r.1) → RowT z tn → xv = .slice xb 0 xc → sv = .slice base len cap → len ≤ cap →
      denV pv (e ++ [r]) (.c (.slr H.length (len + 0))) = some sv → denL pv e tn.cells = some us → us.length = len * z → (0 < len → (∀ q, Own q e H r.1) ∧ ∃ cur, w.heap[r.1]? = some (.cells cur el (0, 0)) ∧ r.2 ≤ maxLen ∧ cur.size = r.2 * z ∧ cur.toList.take us.length = us) → v = .c (.slr H.length (len + 0)) → H' = newB H1 ⟨[], el, true, some tn⟩ → Did P pv ra o e H w v H' := by
    intro H1 tn len xb base xc cap r us hl1 hsub hrt hxv hsv hlc hden hus hul hst hv' hH'
    subst hxv hsv hv' hH'
    have hrun : (execOp ra o).run P w = .ok (.value (.slice base len cap)) w := by
      simp only [execOp, ho, resolve, Sem.run_bind, Sem.run_pure, Result.andThen_ok, invoke, builtin]
      rw [hargs, hats, append_none hu hi1 hlc]
      rfl
    have kp : Keeps (Own true e H) w w := Keeps.refl _ _
    obtain ⟨b1, b2, b3, b4, b5⟩ := hrt.blk (k := ⟨[], el, true, some tn⟩) rfl rfl (by omega)
    by_cases h0 : len = 0
    · subst h0
      obtain rfl : us = [] := List.eq_nil_of_length_eq_zero (by simpa using hul)
      have hcn : tn.cells = [] := List.eq_nil_of_length_eq_zero (by rw [← denL_length hus]; rfl)
      obtain ⟨E1, hown⟩ := E.virtNew (kn := ⟨[], el, true, some tn⟩) hl1 (fun i k hk => (hsub i k hk).1) (b5 hcn) hcn (fun t _ => rfl) r
      exact ⟨_, w, e ++ [r], _, hrun, .inl rfl, ⟨_, rfl⟩, hden, E1, kp, fun q b hb => .inl (hown q b hb)⟩
    · obtain ⟨c1, cur, c2, c3, c4, c5⟩ := hst (by omega)
      rw [if_neg h0] at hsub
      have hE := E.grew (H1 := H1) (kn := ⟨[], el, true, some tn⟩) (row := some r.1) hl1 hsub ⟨rfl, rfl, rfl, Nat.le_refl _, fun _ _ _ => rfl⟩ (fun t _ => rfl) b1 rfl rfl (vs := us) hus c2 c3 (by rw [b3]; exact c4) c5 (.inl rfl) b2
      refine ⟨_, w, e ++ [r], _, hrun, .inl rfl, ⟨_, rfl⟩, hden, hE, kp, fun q b hb => ?_⟩
      rcases own_grew E.len hl1 (fun i k hk => (hsub i k hk).1) hb with h2 | rfl
      · exact .inl h2
      · exact .inl (c1 q)
  have hden : ∀ (len g cap : Nat), 0 < len → len ≤ cap → denV pv (e ++ [(g, cap)]) (.c (.slr H.length len)) = some (.slice (some ⟨g, 0, none⟩) len cap) := fun len g cap hl hcap => by
    simp only [denV, den]
    rw [List.getElem?_append_right (by have := E.len; omega), show H.length - e.length = 0 by have := E.len; omega]
    simp only [List.getElem?_cons_zero, Option.bind_some]
    rw [if_neg (by omega), if_pos hcap]
  have hdenE : ∀ (r : Nat × Nat) (len : Nat), denV pv (e ++ [r]) (.c (.slr H.length len)) = (if len = 0 then zeroS r else if len ≤ r.2 then some (.slice (some ⟨r.1, 0, none⟩) len r.2) else none) := fun r len => by
    simp only [denV, den]
    rw [List.getElem?_append_right (by have := E.len; omega), show H.length - e.length = 0 by have := E.len; omega]
    simp only [List.getElem?_cons_zero, Option.bind_some]
  have one : ∀ {l : List C} {us : List Value}, denL pv e l = some us → ∀ u ∈ us, u.oneCell' = true := fun h u hu => one_cell (denL_one hp h u hu)
  split at h
  · rename_i b2 len
    split at h
    rotate_left
    · cases h
    rename_i k2 hk2
    split at h
    rotate_left
    · cases h
    rename_i tb2 htb2
    split at h
    rotate_left
    · cases h
    rename_i hc2
    obtain ⟨hg2, hel2⟩ := hc2
    split at h
    rotate_left
    · cases h
    rename_i g tn hcat
    simp only [Option.some.injEq, Stp.val.injEq] at h
    obtain ⟨rfl, hv', hH'⟩ := h
    obtain ⟨r1, r2', r3, hl2, hle, hme, hbd, hcells⟩ := catT_eq hcat
    obtain ⟨src0, src1⟩ := view_src (by omega) E hx hvw hk htb hkg r2' hbd
    obtain ⟨w1, w2, w3, w4, w5⟩ := r1.blk htb2 hg2 (by omega)
    obtain ⟨n1, n2, n3, _, _⟩ := r3.blk (k := ⟨[], el, true, some tn⟩) rfl rfl (by omega)
    have hl1 : (setB H b2 none).length = H.length := by rw [setB_eq, List.length_set]
    obtain ⟨rr, us0, hrr, hd0, _⟩ := E.lies b2 k2 hk2
    rw [Blk.real_some htb2] at hd0
    have hul0 : us0.length = len * z := by rw [denL_length hd0, hl2]
    have hs' := hs
    simp only [den, hrr, Option.bind_some] at hs
    by_cases h0 : len = 0
    · subst h0
      rw [if_pos rfl] at hs
      have hsub : ∀ i k, blkAt (setB H b2 none) i = some k → blkAt H i = some k ∧ ∀ r', e[i]? = some r' → k.virt = false → some r'.1 ≠ none := fun i k hk => ⟨(setB_none hk).2, fun _ _ _ h => by cases h⟩
      obtain rfl : us0 = [] := List.eq_nil_of_length_eq_zero (by simpa using hul0)
      by_cases hm : m = 0
      · subst hm
        obtain ⟨xb, xc, hxv⟩ := src0 rfl
        have hcn : tn.cells = tb2.cells := by rw [hcells]; simp
        have hsl : ∃ base, sv = .slice base 0 0 := by rcases (zeroS_eq hs).2 with h | ⟨a, h⟩ <;> exact ⟨_, h⟩
        obtain ⟨base, hsl⟩ := hsl
        exact none' rr [] hl1 (by simpa using hsub) r3 hxv hsl (Nat.le_refl _) (by rw [hdenE, if_pos rfl]; exact hs) (by rw [hcn]; exact hd0) (by simp) (fun h => absurd h (by omega)) hv'.symm hH'.symm
      · obtain ⟨r, us, xc, hxv, hdx, hln, hnews⟩ := src1 (by omega)
        subst hxv hv'
        exact did_grow (kn := ⟨[], el, true, some tn⟩) (sv := .slice none 0 0) (sv' := sv) (len := 0) (us := []) (row := none) E ho hats hu hi1 hi2 hi3 hi4 hi5 (by omega) hargs ((zeroS_eq hs).2.imp id fun h => ⟨rfl, h⟩) ⟨by simp, .inl ⟨rfl, rfl⟩⟩ hnews hln (one hdx) (by omega) (by omega) rfl hl1 hsub (fun b h => by cases h)
          (by show denL pv e tn.cells = _; rw [hcells]; exact denL_append hd0 hdx) (fun t _ => rfl) n1 n3 rfl rfl (fun g cap hc => hden _ g cap (by omega) hc) hH'.symm
    · rw [if_neg h0] at hs
      split at hs
      rotate_left
      · cases hs
      rename_i hcap
      simp only [Option.some.injEq] at hs
      have hvf : k2.virt = false := by
        cases hvk : k2.virt with
        | false => rfl
        | true =>
          rw [w4 hvk] at hl2
          have : 0 < len * z := Nat.mul_pos (by omega) (by omega)
          simp only [List.length_nil] at hl2; omega
      obtain ⟨rr', cs, tl, q1, q2, q3, _, q5⟩ := E.row b2 k2 hk2 w1 hvf w2
      rw [hrr] at q1
      cases q1
      rw [Blk.real_some htb2, hd0, Option.some.injEq] at q2
      subst q2
      obtain ⟨q6, q7⟩ := q5 hg2
      rw [w3] at q6
      have hsub : ∀ i k, blkAt (setB H b2 none) i = some k → blkAt H i = some k ∧ ∀ r', e[i]? = some r' → k.virt = false → some r'.1 ≠ some rr.1 := fun i k3 hk3 => by
        obtain ⟨h5, h6⟩ := setB_none hk3
        refine ⟨h6, fun r3 hr3 hv3 h7 => h5 ?_⟩
        simp only [Option.some.injEq] at h7
        exact E.inj i b2 k3 k2 r3 rr h6 hk2 hr3 hrr h7 hv3 hvf (.inr w1)
      have hown : ∀ q, Own q e H rr.1 := fun q => ⟨b2, k2, rr, hk2, hrr, rfl, hvf, fun _ => w1⟩
      rw [hel2] at q3
      by_cases hm : m = 0
      · subst hm
        obtain ⟨xb, xc, hxv⟩ := src0 rfl
        have hcn : tn.cells = tb2.cells := by rw [hcells]; simp
        exact none' rr us0 hl1 (by rw [if_neg h0]; exact hsub) r3 hxv hs.symm hcap (by rw [hdenE, if_neg (by omega), if_pos (by omega), ← hs]; rfl) (by rw [hcn]; exact hd0) hul0 (fun _ => ⟨hown, (us0 ++ tl).toArray, q3, q7, by simpa using q6, by simp⟩) hv'.symm hH'.symm
      · obtain ⟨r, us, xc, hxv, hdx, hln, hnews⟩ := src1 (by omega)
        subst hxv hv'
        refine did_grow (kn := ⟨[], el, true, some tn⟩) (sv' := sv) (len := len) (us := us0) (row := some rr.1) E ho hats hu hi1 hi2 hi3 hi4 hi5 (by omega) hargs (.inl hs.symm) ⟨hul0, .inr ⟨rr.1, rr.2, (us0 ++ tl).toArray, rfl, Nat.zero_le _, q3, hcap, q7, by simpa using q6, ?_⟩⟩ hnews hln (one hdx) (by omega) (by omega) rfl hl1 hsub (fun b h => by cases h; exact hown)
          (by show denL pv e tn.cells = _; rw [hcells]; exact denL_append hd0 hdx) (fun t _ => rfl) n1 n3 rfl rfl (fun g cap hc => hden _ g cap (by omega) hc) hH'.symm
        rw [List.take_left' hul0]
  · rename_i b2
    split at h
    rotate_left
    · cases h
    rename_i k2 hk2
    split at h
    rotate_left
    · cases h
    split at h
    rotate_left
    · cases h
    rename_i g tn hcat
    simp only [Option.some.injEq, Stp.val.injEq] at h
    obtain ⟨rfl, hv', hH'⟩ := h
    have hem := empty_cells hcat
    obtain ⟨r1, r2', r3, hl2, hle, hme, hbd, hcells⟩ := catT_eq hcat
    rw [hem, List.nil_append] at hcells
    obtain ⟨src0, src1⟩ := view_src (by omega) E hx hvw hk htb hkg r2' hbd
    obtain ⟨n1, n2, n3, _, _⟩ := r3.blk (k := ⟨[], el, true, some tn⟩) rfl rfl (by omega)
    have hsub : ∀ i k, blkAt H i = some k → blkAt H i = some k ∧ ∀ r', e[i]? = some r' → k.virt = false → some r'.1 ≠ none := fun i k hk => ⟨hk, fun _ _ _ h => by cases h⟩
    simp only [den, Option.map_eq_some_iff] at hs
    obtain ⟨rr, hrr, rfl⟩ := hs
    by_cases hm : m = 0
    · subst hm
      obtain ⟨xb, xc, hxv⟩ := src0 rfl
      have hcn : tn.cells = [] := by rw [hcells]; simp
      exact none' (rr.1 + 1, 0) [] rfl (by rw [if_pos rfl]; exact hsub) r3 hxv rfl (Nat.le_refl _) (by rw [hdenE, if_pos rfl]; simp [zeroS]) (by rw [hcn]; rfl) (by simp) (fun h => absurd h (by omega)) hv'.symm hH'.symm
    · obtain ⟨r, us, xc, hxv, hdx, hln, hnews⟩ := src1 (by omega)
      subst hxv hv'
      exact did_grow (kn := ⟨[], el, true, some tn⟩) (sv := .slice none 0 0) (len := 0) (us := []) (row := none) E ho hats hu hi1 hi2 hi3 hi4 hi5 (by omega) hargs (.inr ⟨rfl, _, rfl⟩) ⟨by simp, .inl ⟨rfl, rfl⟩⟩ hnews hln (one hdx) (by omega) (by omega) rfl rfl hsub (fun b h => by cases h)
        (by show denL pv e tn.cells = _; rw [hcells]; exact hdx) (fun t _ => rfl) n1 n3 rfl rfl (fun g cap hc => hden _ g cap (by omega) hc) hH'.symm
  · cases h
theorem did_append {args : Array Operand} {ats : Array TypeId} {vs : List V} {v : V} {H' : Heap} (hp : One pv) (hρ : Says pv e ρ ra) (E : Emb pv e H w) (ho : o.op = .call { callee := .builtin .append, args := args, argTypes := ats }) (hv : allSome ρ args.toList = some vs)
    (h : evAppend P ats.toList vs H = some (.val true v H')) : Did P pv ra o e H w v H' := by
  have ha := says_all hρ _ _ hv
  have hargs : args.map ra = (args.toList.map ra).toArray := by rw [← Array.toList_map]
  have args2 : ∀ (s : C) (b q n c : Nat) (sv : Value) (r : Nat × Nat), vs = [.c s, .c (.sl b q n c)] → den pv e s = some sv → e[b]? = some r → args.map ra = #[sv, .slice (some ⟨r.1, q, none⟩) n c] := fun s b q n c sv r hvs hsv hr => by
    rw [hargs]
    rw [hvs] at ha
    simp only [allSome, denV, hsv, den, hr, Option.map_some, Option.some.injEq] at ha
    rw [← ha]
  have denA : ∀ (s x : C), vs = [.c s, .c x] → ∃ sv xv, den pv e s = some sv ∧ den pv e x = some xv ∧ args.map ra = #[sv, xv] := fun s x hvs => by
    rw [hargs]
    rw [hvs] at ha
    simp only [allSome, denV] at ha
    split at ha
    · rename_i sv hsv
      split at ha
      · rename_i l hl
        split at hl
        · rename_i xv hxv
          simp only [Option.some.injEq] at hl ha
          refine ⟨sv, xv, hsv, hxv, ?_⟩
          rw [← ha, ← hl]
        · cases hl
      · cases ha
    · cases ha
  have denS : ∀ (s : C) (y : V), vs = [.c s, y] → ∃ sv, den pv e s = some sv := fun s y hvs => by
    rw [hvs] at ha
    simp only [allSome, denV] at ha
    split at ha
    · exact ⟨_, ‹_›⟩
    · cases ha
  have src : ∀ (b q n : Nat) (k : Blk) (size : Nat) (xs : List C), 0 < n → blkAt H b = some k → 0 < size → slice k.cells q (n * size) = some xs → ∃ r us, e[b]? = some r ∧ denL pv e xs = some us ∧ us.length = n * size ∧ (∀ u ∈ us, u.oneCell' = true) ∧
      ∀ j u, us[j]? = some u → w.cell? ((⟨r.1, q, none⟩ : Addr).add j) = some u := fun b q n k size xs hn0 hk hs0 hxs => by
    have hpos : 0 < n * size := Nat.mul_pos hn0 hs0
    have htb := slice_tab (E.ok b k hk) hpos hxs
    obtain ⟨r, cs, tl, hr, hd, hw, _, _⟩ := E.row b k hk (Blk.win_none htb) (Blk.virt_none htb)
    obtain ⟨hdx, hbx⟩ : denL pv e xs = some (cs.extract q (q + n * size)) ∧ q + n * size ≤ cs.length := by
      rcases denL_slice hd (slice_real (E.ok b k hk) hxs) with h2 | ⟨h2, _⟩
      · exact h2
      · omega
    refine ⟨r, _, hr, hdx, by simp; omega, fun u hu => one_cell (denL_one hp hdx u hu), fun j u hj => ?_⟩
    have hjn : j < n * size := by
      have := (List.getElem?_eq_some_iff.1 hj).1
      simp at this; omega
    rw [add_addr, cell_of hw, List.getElem?_toArray, List.getElem?_append_left (by omega)]
    rw [List.extract_eq_take_drop, List.getElem?_take, if_pos (by omega), List.getElem?_drop] at hj
    exact hj
  have old : ∀ (b2 : Nat) (k2 : Blk) (r2 : Nat × Nat), blkAt H b2 = some k2 → k2.win = none → k2.virt = false → e[b2]? = some r2 → (setB H b2 none).length = H.length ∧ (∀ i k, blkAt (setB H b2 none) i = some k → blkAt H i = some k ∧ ∀ r, e[i]? = some r → k.virt = false → some r.1 ≠ some r2.1) ∧ (∀ b, some r2.1 = some b → ∀ q, Own q e H b) := fun b2 k2 r2 hk2 hw2 hv2 hr2 => by
    refine ⟨by rw [setB_eq, List.length_set], fun i k3 hk3 => ?_, fun b3 hb3 q => ?_⟩
    · obtain ⟨h5, h6⟩ := setB_none hk3
      refine ⟨h6, fun r3 hr3 hv3 h7 => h5 ?_⟩
      simp only [Option.some.injEq] at h7
      exact E.inj i b2 k3 k2 r3 r2 h6 hk2 hr3 hr2 h7 hv3 hv2 (.inr hw2)
    · cases hb3
      exact ⟨b2, k2, r2, hk2, hr2, rfl, hv2, fun _ => hw2⟩
  have oldN : ∀ (b2 : Nat), (setB H b2 none).length = H.length ∧ (∀ i k, blkAt (setB H b2 none) i = some k → blkAt H i = some k ∧ ∀ r, e[i]? = some r → k.virt = false → some r.1 ≠ none) := fun b2 =>
    ⟨by rw [setB_eq, List.length_set], fun i k3 hk3 => ⟨(setB_none hk3).2, fun _ _ _ h => by cases h⟩⟩
  unfold evAppend at h
  split at h
  · rename_i t u s b m h1
    split at h
    · rename_i hc
      subst hc
      have hats : ats = #[t, t] := by rw [← Array.toArray_toList (xs := ats), h1]
      split at h
      · rename_i el hu
        obtain ⟨sv, xv, g1, g2, g3⟩ := denA _ _ rfl
        exact did_appendV hp E ho hats hu g3 g1 g2 h
      · cases h
    · cases h
  · rename_i t u s b z q m h1
    split at h
    · rename_i hc
      subst hc
      have hats : ats = #[t, t] := by rw [← Array.toArray_toList (xs := ats), h1]
      split at h
      · rename_i el hu
        obtain ⟨sv, xv, g1, g2, g3⟩ := denA _ _ rfl
        exact did_appendV hp E ho hats hu g3 g1 g2 h
      · cases h
    · cases h
  · rename_i t u b2 len b q n c h1
    split at h
    · rename_i hc
      obtain ⟨rfl, rfl⟩ := hc
      have hats : ats = #[t, t] := by rw [← Array.toArray_toList (xs := ats), h1]
      split at h
      · rename_i el hu
        split at h
        · rename_i k hk
          unfold evAppendR at h
          split at h
          · rename_i size hsz
            split at h
            · rename_i hgr
              obtain ⟨inf, z, hi1, hi2, hi3, hi4, hi5, hi6⟩ := growableR_info hgr
              split at h
              · rename_i xs hxs
                split at h
                · rename_i sh row0 hun
                  obtain ⟨hrow, hshl⟩ := uncell_eq _ _ _ hun
                  obtain ⟨r, us, hr, hdx, hln, hone, hnews⟩ := src b q 1 k size xs (by omega) hk (by omega) (by rw [Nat.one_mul]; exact hxs)
                  have hsh : sh.length = size := by rw [hshl]; exact (slice_get hxs).1
                  have hden : ∀ (len g cap : Nat), len + 1 ≤ cap → denV pv (e ++ [(g, cap)]) (.c (.slr H.length (len + 1))) = some (.slice (some ⟨g, 0, none⟩) (len + 1) cap) := fun len g cap hcap => by
                    simp only [denV, den]
                    rw [List.getElem?_append_right (by have := E.len; omega), show H.length - e.length = 0 by have := E.len; omega]
                    simp only [List.getElem?_cons_zero, Option.bind_some]
                    rw [if_neg (by omega), if_pos (by omega)]
                  have key : ∀ (k2 : Blk) (kn : Blk) (m : Nat) (us0 : List Value), blkAt H b2 = some k2 → k2.win = none → k2.grown = true → k2.elem = el → k2.wid = size → k2.virt = decide (m = 0) → m = len → len ≤ 1000 → denL pv e k2.real = some us0 → us0.length = m * size →
                      kn.ok → kn.win = none → kn.wid = size → kn.grown = true → kn.elem = el → denL pv e kn.real = some (us0 ++ us) → v = .c (.slr H.length (len + 1)) → H' = newB (setB H b2 none) kn → Did P pv ra o e H w v H' := by
                    intro k2 kn m us0 hk2 hwn hg2 hel2 hwd hvr hm hle hd0 hl0 kok kw kwd kg kel hkd hv' hH'
                    subst hm
                    by_cases h0 : m = 0
                    · subst h0
                      obtain ⟨r2, cs2, hr2, hd2, _⟩ := E.lies b2 k2 hk2
                      obtain ⟨sv, hsv⟩ := denS _ _ rfl
                      have hz0 : zeroS r2 = some sv := by simpa only [den, hr2, Option.bind_some, if_true] using hsv
                      obtain rfl : us0 = [] := by simpa using hl0
                      obtain ⟨o1, o2⟩ := oldN b2
                      subst hv'
                      exact did_grow (kn := kn) (sv := .slice none 0 0) (sv' := sv) (len := 0) (us := []) (row := none) E ho hats hu hi1 hi2 hi3 hi4 hi5 (by omega) (args2 _ b q 1 c _ r rfl hsv hr) ((zeroS_eq hz0).2.imp id fun h => ⟨rfl, h⟩) ⟨by simp, .inl ⟨rfl, rfl⟩⟩ hnews hln hone (by omega) (by omega) rfl o1 o2 (fun b h => by cases h)
                        hkd kok kw kwd kg kel (hden 0) hH'
                    · have hvf : k2.virt = false := by rw [hvr]; simpa using h0
                      obtain ⟨r2, cs2, tl2, hr2, hd2, hw2, _, hgr2⟩ := E.row b2 k2 hk2 hwn hvf (by
                        have hx0 : 0 < us0.length := by rw [hl0]; exact Nat.mul_pos (by omega) (by omega)
                        exact Blk.mapped_some hd0 (List.getElem?_eq_getElem hx0))
                      rw [hd0, Option.some.injEq] at hd2
                      subst hd2
                      obtain ⟨hgr3, hgr4⟩ := hgr2 hg2
                      rw [hwd] at hgr3
                      have hcap : m ≤ r2.2 := by
                        rw [List.length_append, hl0] at hgr3
                        exact Nat.le_of_mul_le_mul_right (show m * size ≤ r2.2 * size by omega) (by omega)
                      have hsv : den pv e (.slr b2 m) = some (.slice (some ⟨r2.1, 0, none⟩) m r2.2) := by
                        simp only [den, hr2, Option.bind_some]
                        rw [if_neg h0, if_pos hcap]
                      obtain ⟨o1, o2, o3⟩ := old b2 k2 r2 hk2 hwn hvf hr2
                      subst hv'
                      refine did_grow (kn := kn) (len := m) (us := us0) (row := some r2.1) E ho hats hu hi1 hi2 hi3 hi4 hi5 (by omega) (args2 _ b q 1 c _ r rfl hsv hr) (.inl rfl) ⟨hl0, .inr ⟨r2.1, r2.2, (us0 ++ tl2).toArray, rfl, Nat.zero_le _, by rw [← hel2]; exact hw2, hcap, hgr4, by simpa using hgr3, ?_⟩⟩ hnews hln hone (by omega) (by omega) rfl o1 o2 o3
                        hkd kok kw kwd kg kel (hden m) hH'
                      rw [List.take_left' hl0]
                  simp only at h
                  · split at h
                    · rename_i k2 hk2
                      obtain ⟨r2, cs2, hr2, hd2, _⟩ := E.lies b2 k2 hk2
                      split at h
                      · rename_i sh2 l htb2
                        split at h
                        · rename_i hc2
                          obtain ⟨rfl, hg2, hel2⟩ := hc2
                          simp only [Option.some.injEq, Stp.val.injEq, Bool.and_eq_true] at h
                          obtain ⟨⟨hbl, hle⟩, hv', hH'⟩ := h
                          have hll := Nat.eq_of_beq_eq_true hbl
                          have hle2 := Nat.le_of_ble_eq_true hle
                          have hcl := denL_length hd2
                          rw [Blk.real_some htb2] at hcl
                          simp only [Tab.cells, flat_length, hsh] at hcl
                          refine key k2 ⟨[], el, true, some (.rows sh2 (l ++ [row0]))⟩ l.length cs2 hk2 (by unfold Blk.win; rw [htb2]) hg2 hel2 (by unfold Blk.wid; rw [htb2]; exact hsh) (by rw [rows_virt htb2 hg2]; cases l <;> simp [emptyL]) hll hle2 hd2 hcl (fun t _ => rfl) rfl hsh rfl rfl ?_ hv'.symm hH'.symm
                          show denL pv e (List.flatMap (rowC sh2) (l ++ [row0])) = _
                          rw [List.flatMap_append]
                          simp only [List.flatMap_cons, List.flatMap_nil, List.append_nil]
                          rw [hrow]
                          rw [Blk.real_some htb2] at hd2
                          exact denL_append hd2 hdx
                        · cases h
                      · rename_i kd l htb2
                        split at h
                        · rename_i hc2
                          obtain ⟨hsh1, hg2, hel2⟩ := hc2
                          subst hsh1
                          obtain rfl : 1 = size := hsh
                          simp only [Option.some.injEq, Stp.val.injEq, Bool.and_eq_true] at h
                          obtain ⟨⟨hbl, hle⟩, hv', hH'⟩ := h
                          have hll := Nat.eq_of_beq_eq_true hbl
                          have hle2 := Nat.le_of_ble_eq_true hle
                          have hcl := denL_length hd2
                          rw [Blk.real_some htb2] at hcl
                          simp only [Tab.cells, List.length_map] at hcl
                          obtain ⟨x0, hx0⟩ : ∃ x0, row0 = [x0] := by
                            match xs, hun with
                            | [.int k' n'], hun => simp only [uncell, Option.some.injEq, Prod.mk.injEq] at hun; exact ⟨n', hun.2.symm⟩
                            | [], hun => simp [uncell] at hun
                            | .int _ _ :: y :: ys, hun => simp at hshl
                            | .bool _ :: ys, hun => simp only [uncell] at hun; split at hun <;> simp at hun
                            | .nilp :: _, hun | .ptr _ _ :: _, hun | .nils :: _, hun | .nilm :: _, hun | .sl _ _ _ _ :: _, hun | .slg _ _ _ :: _, hun | .pr _ _ _ _ _ :: _, hun | .slw _ _ _ _ _ :: _, hun | .slr _ _ :: _, hun | .slv _ _ _ _ :: _, hun | .fn _ _ :: _, hun | .meth _ _ :: _, hun | .nilf :: _, hun | .nili :: _, hun | .port :: _, hun | .mp _ :: _, hun | .ifc _ _ :: _, hun => simp [uncell] at hun
                          subst hx0
                          refine key k2 ⟨[], el, true, some (.col kd (l ++ [x0]))⟩ l.length cs2 hk2 (by unfold Blk.win; rw [htb2]) hg2 hel2 (by unfold Blk.wid; rw [htb2]) (by rw [col_virt htb2 hg2]; cases l <;> simp [emptyL]) hll hle2 hd2 (by rw [Nat.mul_one]; exact hcl) (fun t _ => rfl) rfl rfl rfl rfl ?_ hv'.symm hH'.symm
                          show denL pv e (List.map (C.int kd) (l ++ [x0])) = _
                          rw [List.map_append]
                          rw [Blk.real_some htb2] at hd2
                          refine denL_append hd2 ?_
                          rw [← hrow] at hdx
                          exact hdx
                        · cases h
                      · cases h
                    · cases h
                · cases h
              · cases h
            · cases h
          · cases h
        · cases h
      · cases h
    · cases h
  · rename_i t u s b q n c _ h1
    split at h
    · rename_i hc
      obtain ⟨rfl, hn0, hn1⟩ := hc
      have hats : ats = #[t, t] := by rw [← Array.toArray_toList (xs := ats), h1]
      split at h
      · rename_i el hu
        split at h
        · rename_i hgr
          obtain ⟨inf, z, hi1, hi2, hi3, hi4, hi5⟩ := growable_info hgr
          split at h
          · rename_i k hk
            split at h
            · rename_i xs hxs
              obtain ⟨r, us, hr, hdx, hln, hone, hnews⟩ := src b q n k 1 xs hn0 hk (by omega) (by rw [Nat.mul_one]; exact hxs)
              have hden : ∀ (len g cap : Nat), len + n ≤ cap → denV pv (e ++ [(g, cap)]) (.c (.slg H.length 0 (len + n))) = some (.slice (some ⟨g, 0, none⟩) (len + n) cap) := fun len g cap hcap => by
                simp only [denV, den]
                rw [List.getElem?_append_right (by have := E.len; omega), show H.length - e.length = 0 by have := E.len; omega]
                simp only [List.getElem?_cons_zero, Option.bind_some]
                rw [if_pos (by omega)]
                simp
              split at h
              · cases h
                have h9 := hden 0
                simp only [Nat.zero_add] at h9
                exact did_grow (len := 0) (us := []) (row := none) E ho hats hu hi1 hi2 hi3 (by omega) hi5 (by decide) (args2 _ b q n c (.slice none 0 0) r rfl rfl hr) (.inl rfl) ⟨rfl, .inl ⟨rfl, rfl⟩⟩ hnews hln hone (by omega) hn0 rfl rfl (fun i k hk => ⟨hk, fun r _ _ h => by cases h⟩) (fun b h => by cases h)
                  (by rw [Blk.real_none rfl]; exact hdx) (Blk.ok_none rfl) (Blk.win_none rfl) rfl rfl rfl (by simpa using h9) rfl
              · rename_i b2 len _
                split at h
                · rename_i k2 hk2
                  split at h
                  · rename_i hc2
                    obtain ⟨htb2, hg2, hel2, hcl2, hle2⟩ := hc2
                    cases h
                    have htb2' : k2.tab = none := by simpa using htb2
                    obtain ⟨r2, cs2, tl2, hr2, hd2, hw2, _, hgr2⟩ := E.row b2 k2 hk2 (Blk.win_none htb2') (Blk.virt_none htb2')
                    rw [Blk.real_none htb2'] at hd2
                    obtain ⟨hgr3, hgr4⟩ := hgr2 hg2
                    have hwd : k2.wid = 1 := by unfold Blk.wid; rw [htb2']
                    rw [hwd, Nat.mul_one] at hgr3
                    have hcl := denL_length hd2
                    have hsv : den pv e (.slg b2 0 len) = some (.slice (some ⟨r2.1, 0, none⟩) len r2.2) := by
                      simp only [den, hr2, Option.bind_some]
                      rw [if_pos (by rw [← hgr3, List.length_append, hcl, hcl2]; omega)]
                      simp
                    obtain ⟨o1, o2, o3⟩ := old b2 k2 r2 hk2 (Blk.win_none htb2') (Blk.virt_none htb2') hr2
                    refine did_grow (len := len) (us := cs2) (row := some r2.1) E ho hats hu hi1 hi2 hi3 (by omega) hi5 (by decide) (args2 _ b q n c _ r rfl hsv hr) (.inl rfl) ⟨by omega, .inr ⟨r2.1, r2.2, (cs2 ++ tl2).toArray, rfl, Nat.zero_le _, by rw [← hel2]; exact hw2, ?_, hgr4, ?_, ?_⟩⟩ hnews hln hone (by omega) hn0 rfl o1 o2 o3
                      (by rw [Blk.real_none rfl]; exact denL_append hd2 hdx) (Blk.ok_none rfl) (Blk.win_none rfl) rfl rfl rfl (hden len) rfl
                    · rw [← hgr3, List.length_append]; omega
                    · simpa using hgr3
                    · simp only [Nat.mul_one]
                      rw [List.take_left' (by omega)]
                  · cases h
                · cases h
              · cases h
            · cases h
          · cases h
        · unfold evAppendN at h
          split at h
          rotate_left
          · cases h
          split at h
          rotate_left
          · cases h
          rename_i hn1'
          subst hn1'
          split at h
          rotate_left
          · cases h
          rename_i k hk
          split at h
          rotate_left
          · cases h
          rename_i size hsz
          split at h
          rotate_left
          · cases h
          rename_i hgr
          obtain ⟨inf, z, hi1, hi2, hi3, hi4, hi5, hi6⟩ := growableR_info hgr
          split at h
          rotate_left
          · cases h
          rename_i xs hxs
          split at h
          rotate_left
          · cases h
          rename_i sh row0 hun
          simp only [Option.some.injEq, Stp.val.injEq, true_and] at h
          obtain ⟨rfl, hH'⟩ := h
          obtain ⟨hrow, hshl⟩ := uncell_eq _ _ _ hun
          obtain ⟨r, us, hr, hdx, hln, hone, hnews⟩ := src b q 1 k size xs (by omega) hk (by omega) (by rw [Nat.one_mul]; exact hxs)
          have hsh : sh.length = size := by rw [hshl]; exact (slice_get hxs).1
          refine did_grow (kn := ⟨[], el, true, some (.rows sh [row0])⟩) (sv := .slice none 0 0) (sv' := .slice none 0 0) (len := 0) (us := []) (row := none) E ho hats hu hi1 hi2 hi3 hi4 hi5 (by omega) (args2 _ b q 1 c _ r rfl rfl hr) (.inl rfl) ⟨by simp, .inl ⟨rfl, rfl⟩⟩ hnews hln hone (by omega) (by omega) rfl rfl (fun i k hk => ⟨hk, fun _ _ _ h => by cases h⟩) (fun b h => by cases h)
            ?_ (fun t _ => rfl) rfl hsh rfl rfl (fun g cap hcap => ?_) hH'.symm
          · show denL pv e (List.flatMap (rowC sh) [row0]) = _
            simp only [List.flatMap_cons, List.flatMap_nil, List.append_nil, List.nil_append]
            rw [hrow]; exact hdx
          · simp only [denV, den]
            rw [List.getElem?_append_right (by have := E.len; omega), show H.length - e.length = 0 by have := E.len; omega]
            simp only [List.getElem?_cons_zero, Option.bind_some]
            rw [if_neg (by omega), if_pos (by omega)]
      · cases h
    · cases h
  · cases h
/-! ### maps -/
theorem mapT_eq {t k : TypeId} {g : Bool} {sh : List CK} {r0 : List Int} (h : mapT P t = some (k, g, sh, r0)) : ∃ el z, P.underlying t = some (.map k el) ∧ P.underlying k = some (.int .i64) ∧ zeroT P el = some z ∧ rowOf z = some (g, sh, r0) := by
  unfold mapT at h
  split at h
  · rename_i k' el hu
    split at h
    · rename_i z hk hz
      split at h
      · rename_i g' sh' r hr
        cases h
        exact ⟨el, z, hu, hk, hz, hr⟩
      · cases h
    · cases h
  · cases h
theorem den_flat {c : C} (h : flatC c = true) : den pv e c = some (flatV c) := by cases c <;> first | rfl | (simp [flatC] at h)
theorem denL_flat : ∀ {l : List C}, l.all flatC = true → denL pv e l = some (l.map flatV)
  | [], h => rfl
  | c :: l, h => by
    simp only [List.all_cons, Bool.and_eq_true] at h
    simp only [denL, den_flat h.1, denL_flat h.2, List.map_cons]
theorem ofRow_den (g : Bool) (sh : List CK) (r : List Int) : denV pv e (ofRow g sh r) = some (rowV g sh r) := by
  have hf := rowC_flat sh r
  cases g with
  | true => simp only [ofRow, denV, denL_flat hf, Option.map_some, rowV]
  | false =>
    simp only [ofRow, rowV]
    cases hr : rowC sh r with
    | nil => rfl
    | cons c l =>
      rw [hr] at hf
      simp only [List.all_cons, Bool.and_eq_true] at hf
      exact den_flat hf.1
theorem rowOf_eq {v : V} {g : Bool} {sh : List CK} {r : List Int} (h : rowOf v = some (g, sh, r)) : v = ofRow g sh r := by
  unfold rowOf at h
  split at h
  · rename_i x
    split at h
    · rename_i sh' r' hu
      cases h
      obtain ⟨h1, _⟩ := uncell_eq _ _ _ hu
      simp only [ofRow]
      rw [h1]
    · cases h
  · rename_i l
    split at h
    · rename_i sh' r' hu
      cases h
      obtain ⟨h1, _⟩ := uncell_eq _ _ _ hu
      simp only [ofRow, ← h1]
    · cases h
  · cases h
theorem did_makeMap {t k : TypeId} {g : Bool} {sh : List CK} {r0 : List Int} (E : Emb pv e H w) (ho : o.op = .makeMap t none) (ht : mapT P t = some (k, g, sh, r0)) : Did P pv ra o e H w (.c (.mp H.length)) (newB H ⟨[], t, false, some (.imap g sh [])⟩) := by
  refine ⟨.value (.map (some w.heap.size)), w.alloc (.map #[] 0), e ++ [(w.heap.size, 0)], _, ?_, .inl rfl, ⟨_, rfl⟩, ?_, E.madeMap g sh t, ?_, fun q b hb => ?_⟩
  · simp [execOp, ho, RowKit.run_makeMap]
  · simp [denV, den, E.len]
  · refine ⟨rfl, rfl, rfl, by rw [heap_alloc]; simp, fun b hb _ => ?_⟩
    rw [heap_alloc, Array.getElem?_push, if_neg (by omega)]
  · rcases own_made E hb with h | h
    · exact .inl h
    · exact .inr (by omega)
theorem den_mp {x : Operand} {b : Nat} {k : Blk} {m : Bool × List CK × List (List Int)} (hρ : Says pv e ρ ra) (E : Emb pv e H w) (hx : ρ x = some (.c (.mp b))) (hk : blkAt H b = some k) (hm : k.mapped = some m) : ∃ r, e[b]? = some r ∧ ra x = .map (some r.1) ∧ MapIs w r.1 m := by
  have h1 := hρ x _ hx
  obtain ⟨r, cs, hr, hd, hl⟩ := E.lies b k hk
  simp only [denV, den, hr, Option.map_some, Option.some.injEq] at h1
  exact ⟨r, hr, h1.symm, hl.map hm⟩
theorem did_lookup {t : TypeId} {m x : Operand} {ok : Bool} {v : V} {H' : Heap} (hρ : Says pv e ρ ra) (E : Emb pv e H w) (ho : o.op = .lookup t m x ok) (h : evLookup P t (ρ m) (ρ x) ok H = some (.val true v H')) : Did P pv ra o e H w v H' := by
  unfold evLookup at h
  split at h
  rotate_left
  · cases h
  rename_i b z hm hx
  split at h
  rotate_left
  · cases h
  rename_i k kt g0 sh0 r0 hk ht
  split at h
  rotate_left
  · cases h
  rename_i g sh l hmp
  split at h
  rotate_left
  · cases h
  rename_i hgs
  obtain ⟨rfl, rfl⟩ := hgs
  obtain ⟨r, hr, hrm, hM⟩ := den_mp hρ E hm hk hmp
  obtain ⟨el, zv, hu, hkt, hz, hrow⟩ := mapT_eq ht
  have h1 := den_int hρ hx
  obtain ⟨rz, hz1, hz2⟩ := zeroT_run hz pv e
  rw [rowOf_eq hrow, ofRow_den] at hz2
  have hz3 : (zeroValue el).run P w = .ok (rowV g sh r0) w := by rw [hz1]; exact congrArg (fun v => Result.ok v w) (Option.some.inj hz2).symm
  split at h
  · split at h
    · rename_i v1 hv1
      simp only [Option.some.injEq, Stp.val.injEq] at h
      obtain ⟨hin, rfl, rfl⟩ := h
      refine did_pure E (rv := .tuple #[rowV g sh (mgetD z l r0), .bool (mhas z l)]) ?_ ?_
      · simp [execOp, ho, hrm, h1, hM.look_ok hu hkt hz3 hin]
      · have : denV1 pv e v1 = some (rowV g sh (mgetD z l r0)) := by
          rw [← ofRow_den (pv := pv) (e := e) g sh (mgetD z l r0)]
          generalize ofRow g sh (mgetD z l r0) = y at hv1
          cases y <;> simp only [V.one, Option.some.injEq, reduceCtorEq] at hv1 <;> subst hv1 <;> rfl
        show (allSome (denV1 pv e) [v1, .c (.bool (mhas z l))]).map _ = _
        simp only [allSome, this]
        rfl
    · cases h
  · simp only [Option.some.injEq, Stp.val.injEq] at h
    obtain ⟨hin, rfl, rfl⟩ := h
    refine did_pure E (rv := rowV g sh (mgetD z l r0)) ?_ (ofRow_den _ _ _)
    simp [execOp, ho, hrm, h1, hM.look hu hkt hz3 hin]
theorem did_turned {b : Nat} {k kn : Blk} {r : Nat × Nat} {m m' : Bool × List CK × List (List Int)} {v : V} {rv : Value} {w' : World} {nx : Next} (E : Emb pv e H w) (hk : blkAt H b = some k) (hr : e[b]? = some r) (hm : k.mapped = some m) (hn : kn.mapped = some m') (hok : kn.ok)
    (hw : MapIs w' r.1 m') (hg : w.grownBy w' (some r.1)) (h : (execOp ra o).run P w = .ok nx w') (hnx : nx = .value rv ∨ nx = .skip ∧ rv = undef) (hv : denV pv e v = some rv) : Did P pv ra o e H w v (setB H b (some kn)) := by
  obtain ⟨hkw, hkv, _, _⟩ := Blk.mapped_win hm
  refine ⟨nx, w', e, rv, h, hnx, Ext.refl e, hv, E.turned hk hr hm hn hok hw hg, ⟨hg.os, hg.tape, hg.output, hg.size, fun b' hb' hn' => hg.block b' hb' fun hc => ?_⟩, fun q b' hb => .inl (own_stored hk (fun _ => hkw) hkv hb)⟩
  simp only [Option.some.injEq] at hc
  exact hn' ⟨b, k, r, hk, hr, hc.symm, hkv, fun _ => hkw⟩
theorem did_update {t : TypeId} {m x y : Operand} {v : V} {H' : Heap} (hρ : Says pv e ρ ra) (E : Emb pv e H w) (ho : o.op = .mapUpdate t m x y) (h : evUpdate P t (ρ m) (ρ x) (ρ y) H = some (.val true v H')) : Did P pv ra o e H w v H' := by
  unfold evUpdate at h
  split at h
  rotate_left
  · cases h
  rename_i b z u hm hx hy
  split at h
  rotate_left
  · cases h
  rename_i k kt g0 sh0 r0 g1 sh1 row hk ht hrow
  split at h
  rotate_left
  · cases h
  rename_i g sh l hmp
  split at h
  rotate_left
  · cases h
  rename_i hgs
  obtain ⟨⟨rfl, rfl⟩, rfl, rfl⟩ := hgs
  simp only [Option.some.injEq, Stp.val.injEq, Bool.and_eq_true] at h
  obtain ⟨⟨hin, hle⟩, rfl, rfl⟩ := h
  obtain ⟨r, hr, hrm, hM⟩ := den_mp hρ E hm hk hmp
  obtain ⟨el, zv, hu, hkt, hz, _⟩ := mapT_eq ht
  have h1 := den_int hρ hx
  have h2 := hρ y _ hy
  rw [rowOf_eq hrow, ofRow_den, Option.some.injEq] at h2
  obtain ⟨w', hrun, hM', hg⟩ := hM.put hu hkt hin (Nat.le_of_ble_eq_true hle) row
  refine did_turned E hk hr hmp (m' := (g, sh, mput z row l)) rfl (fun t _ => ?_) hM' hg (nx := .skip) (rv := undef) ?_ (.inr ⟨rfl, rfl⟩) rfl
  · unfold Blk.mapped at hmp
    split at hmp
    · rename_i ht'
      exact E.ok b k hk _ ht'
    · cases hmp
  · simp [execOp, ho, hrm, h1, ← h2, hrun]
theorem did_delete {args : Array Operand} {ats : Array TypeId} {vs : List V} {v : V} {H' : Heap} (hρ : Says pv e ρ ra) (E : Emb pv e H w) (ho : o.op = .call { callee := .builtin .delete, args := args, argTypes := ats }) (hv : allSome ρ args.toList = some vs)
    (h : evDelete P ats.toList vs H = some (.val true v H')) : Did P pv ra o e H w v H' := by
  have ha := says_all hρ _ _ hv
  have hargs : args.map ra = (args.toList.map ra).toArray := by rw [← Array.toList_map]
  unfold evDelete at h
  split at h
  rotate_left
  · cases h
  rename_i t kt b z hts
  split at h
  rotate_left
  · cases h
  rename_i k kt0 g0 sh0 r0 hk ht
  split at h
  rotate_left
  · cases h
  rename_i g sh l hmp
  split at h
  rotate_left
  · cases h
  rename_i hgs
  obtain ⟨⟨rfl, rfl⟩, rfl⟩ := hgs
  simp only [Option.some.injEq, Stp.val.injEq] at h
  obtain ⟨hin, rfl, rfl⟩ := h
  obtain ⟨r, cs, hr, hd, hl⟩ := E.lies b k hk
  have hM := hl.map hmp
  obtain ⟨el, zv, hu, hkt, hz, _⟩ := mapT_eq ht
  simp only [allSome, denV, den, hr, Option.map_some, Option.some.injEq] at ha
  have hats : ats = #[t, kt] := by rw [← Array.toArray_toList (xs := ats), hts]
  obtain ⟨w', hrun, hM', hg⟩ := hM.del hu hkt hin o.type
  refine did_turned E hk hr hmp (m' := (g, sh, mdel z l)) rfl (fun t _ => ?_) hM' hg (nx := .value (.tuple #[])) (rv := .tuple #[]) ?_ (.inl rfl) rfl
  · unfold Blk.mapped at hmp
    split at hmp
    · rename_i ht'
      exact E.ok b k hk _ ht'
    · cases hmp
  · simp [execOp, ho, resolve, invoke, builtin, hargs, ← ha, hats, hrun, Result.andThen]
/-! ### rows of zeros -/
theorem did_makeSlice {t el : TypeId} {l c : Operand} {kd k k' : IntKind} {n n' : Int} (hρ : Says pv e ρ ra) (E : Emb pv e H w) (ho : o.op = .makeSlice t l c) (hu : P.underlying t = some (.slice el)) (hl : ρ l = some (.c (.int k n))) (hc : ρ c = some (.c (.int k' n'))) (hz : zeroT P el = some (.c (.int kd 0))) (hgr : growableR P el 1 = true)
    (hg : n' = n ∧ 0 ≤ n ∧ n ≤ 1000) : Did P pv ra o e H w (.c (.slr H.length n.toNat)) (newB H ⟨[], el, true, some (.col kd (List.replicate n.toNat 0))⟩) := by
  obtain ⟨rfl, hn0, hn1⟩ := hg
  obtain ⟨inf, z, hi1, hi2, hi3, hi4, hi5, _⟩ := growableR_info hgr
  obtain ⟨zv, h1, h2⟩ := zeroT_run hz pv e
  obtain rfl : z = .int kd 0 := by
    have h3 := h1 w
    simp [zeroValue, typeInfo, hi1, hi2] at h3
    simp only [denV, den, Option.some.injEq] at h2
    rw [h2]; exact h3
  have hm : ((inf.bytes : Int) * n' ≤ 281474976710656) := by
    have : (inf.bytes : Int) * n' ≤ 512 * 1000 := Int.mul_le_mul (by omega) hn1 hn0 (by omega)
    omega
  have hrun : (execOp ra o).run P w = .ok (.value (.slice (some ⟨w.heap.size, 0, none⟩) n'.toNat n'.toNat)) (w.alloc (.cells (List.replicate n'.toNat (.int kd 0)).toArray el)) := by
    simp only [execOp, ho, den_int hρ hl, den_int hρ hc, Sem.run_bind, run_make w t el inf _ hu hi1 hi2 k k' n' n' hn0 (Int.le_refl _) hm (by omega), Result.andThen_ok, Sem.run_pure]
    have : madeCells (Value.int kd 0).cells (n'.toNat * inf.size) = (List.replicate n'.toNat (.int kd 0)).toArray := by
      rw [hi3, Nat.mul_one]
      apply Array.ext
      · simp [madeCells]
      · intro i g1 g2
        simp [madeCells, Value.cells, Nat.mod_one]
    rw [this]
  have hreal : denL pv e (List.map (C.int kd) (List.replicate n'.toNat 0)) = some (List.replicate n'.toNat (.int kd 0)) := by
    rw [denL_flat (by simp [flatC])]
    simp [flatV]
  have kp : ∀ S, Keeps S w (w.alloc (.cells (List.replicate n'.toNat (.int kd 0)).toArray el)) := fun S => ⟨rfl, rfl, rfl, by rw [heap_alloc]; simp, fun b hb _ => by rw [heap_alloc, Array.getElem?_push, if_neg (by omega)]⟩
  by_cases h0 : n'.toNat = 0
  · have E1 : Emb pv e H (w.alloc (.cells (List.replicate n'.toNat (.int kd 0)).toArray el)) := E.ofSame fun b hb => (kp (fun _ => False)).block b (E.own_lt hb) (fun h => h)
    obtain ⟨E2, hown⟩ := E1.virtNew (H1 := H) (kn := ⟨[], el, true, some (.col kd (List.replicate n'.toNat 0))⟩) rfl (fun i k hk => hk) (by rw [h0]; rfl) (by rw [h0]; rfl) (fun t _ => rfl) (w.heap.size + 1, 0)
    refine ⟨_, _, e ++ [(w.heap.size + 1, 0)], _, hrun, .inl rfl, ⟨_, rfl⟩, ?_, E2, kp _, fun q b hb => .inl (hown q b hb)⟩
    simp only [denV, den]
    rw [List.getElem?_append_right (by have := E.len; omega), show H.length - e.length = 0 by have := E.len; omega, h0]
    simp [zeroS]
  · have hE := E.grew (H1 := H) (kn := ⟨[], el, true, some (.col kd (List.replicate n'.toNat 0))⟩) (row := none) rfl (fun i k hk => ⟨hk, fun r _ _ h => by cases h⟩) (World.grownBy_alloc w (.cells (List.replicate n'.toNat (.int kd 0)).toArray el) none) (fun t _ => rfl) rfl rfl rfl hreal (heap_alloc_new w _) (cap := n'.toNat) (by unfold maxLen; omega) (by simp [Blk.wid]) (by simp) (.inr (Nat.le_refl _)) rfl
    refine ⟨_, _, e ++ [(w.heap.size, n'.toNat)], _, hrun, .inl rfl, ⟨_, rfl⟩, ?_, hE, kp _, fun q b hb => ?_⟩
    · simp only [denV, den]
      rw [List.getElem?_append_right (by have := E.len; omega), show H.length - e.length = 0 by have := E.len; omega]
      simp only [List.getElem?_cons_zero, Option.bind_some]
      rw [if_neg h0, if_pos (Nat.le_refl _)]
    · rcases own_grew E.len rfl (fun i k hk => hk) hb with h | rfl
      · exact .inl h
      · exact .inr (Nat.le_refl _)
end
end Go.Proofs.Ytjcdojcbdfblbaa.Lx
