/- The local executor: own maps, keyed by int, their elements told as rows. -/
import Derived.Test.YtjcdojcbdfblbaaIMapOps
import Derived.Test.YtjcdojcbdfblbaaLxDef
import Derived.Carry
namespace Go.Proofs.Ytjcdojcbdfblbaa.Lx
open Go Go.RowKit Go.Maps
def flatV : C → Value
  | .bool b => .bool b
  | .int k n => .int k n
  | _ => .bool false
/-- a row as an element's value. -/
def rowV (g : Bool) (sh : List CK) (r : List Int) : Value := match g with
  | true => .agg ((rowC sh r).map flatV).toArray
  | false => match rowC sh r with
    | c :: _ => flatV c
    | [] => .bool false
def litV : Value → Option (DataW Unit)
  | .int k n => some (.lit (.int k n))
  | .bool b => some (.lit (.bool b))
  | _ => none
def litsV : List Value → Option (List (DataW Unit))
  | [] => some []
  | v :: l => match litV v with
    | some d => match litsV l with
      | some ds => some (d :: ds)
      | none => none
    | none => none
def readV (g : Bool) (v : Value) : Option (DataW Unit × List MemPlace) := match g with
  | true => match v with
    | .agg cs => match litsV cs.toList with
      | some l => some (.agg l, [])
      | none => none
    | _ => none
  | false => match litV v with
    | some d => some (d, [])
    | none => none
theorem litV_inj {v v' : Value} {d : DataW Unit} (h : litV v = some d) (h' : litV v' = some d) : v = v' := by
  unfold litV at h h'
  split at h <;> split at h' <;> simp only [Option.some.injEq, reduceCtorEq] at h h' <;> subst h <;> simp at h' <;> first | (obtain ⟨rfl, rfl⟩ := h'; rfl) | (subst h'; rfl)
theorem litsV_inj : ∀ {l l' : List Value} {d : List (DataW Unit)}, litsV l = some d → litsV l' = some d → l = l'
  | [], [], d, h, h' => rfl
  | [], v :: l, d, h, h' => by
    simp only [litsV, Option.some.injEq] at h; subst h
    simp only [litsV] at h'
    split at h' <;> (try split at h') <;> simp at h'
  | v :: l, [], d, h, h' => by
    simp only [litsV, Option.some.injEq] at h'; subst h'
    simp only [litsV] at h
    split at h <;> (try split at h) <;> simp at h
  | v :: l, v' :: l', d, h, h' => by
    simp only [litsV] at h h'
    split at h
    · rename_i x hx
      split at h
      · rename_i xs hxs
        cases h
        split at h'
        · rename_i y hy
          split at h'
          · rename_i ys hys
            simp only [Option.some.injEq, List.cons.injEq] at h'
            obtain ⟨rfl, rfl⟩ := h'
            rw [litV_inj hx hy, litsV_inj hxs hys]
          · cases h'
        · cases h'
      · cases h
    · cases h
theorem readV_inj {g : Bool} {v v' : Value} {d : DataW Unit} {p p' : List MemPlace} (h : readV g v = some (d, p)) (h' : readV g v' = some (d, p')) : v = v' := by
  cases g with
  | false =>
    simp only [readV] at h h'
    split at h
    · rename_i x hx
      split at h'
      · rename_i y hy
        simp only [Option.some.injEq, Prod.mk.injEq] at h h'
        obtain ⟨rfl, _⟩ := h
        obtain ⟨rfl, _⟩ := h'
        exact litV_inj hx hy
      · cases h'
    · cases h
  | true =>
    simp only [readV] at h h'
    split at h
    · rename_i cs
      split at h
      · rename_i x hx
        split at h'
        · rename_i cs'
          split at h'
          · rename_i y hy
            simp only [Option.some.injEq, Prod.mk.injEq] at h h'
            obtain ⟨rfl, _⟩ := h
            simp only [DataW.agg.injEq] at h'
            obtain ⟨rfl, _⟩ := h'
            have := litsV_inj hx hy
            rw [← Array.toArray_toList (xs := cs), ← Array.toArray_toList (xs := cs'), this]
          · cases h'
        · cases h'
      · cases h
    · cases h
theorem litV_flat {c : C} : ∃ d, litV (flatV c) = some d := by cases c <;> exact ⟨_, rfl⟩
theorem litsV_flat : ∀ l : List C, ∃ d, litsV (l.map flatV) = some d
  | [] => ⟨[], rfl⟩
  | c :: l => by
    obtain ⟨d, hd⟩ := litV_flat (c := c)
    obtain ⟨ds, hds⟩ := litsV_flat l
    exact ⟨d :: ds, by simp only [List.map_cons, litsV, hd, hds]⟩
theorem readV_row (g : Bool) (sh : List CK) (r : List Int) : ∃ d, readV g (rowV g sh r) = some (d, []) := by
  cases g with
  | true =>
    obtain ⟨d, hd⟩ := litsV_flat (rowC sh r)
    exact ⟨.agg d, by simp only [readV, rowV, hd]⟩
  | false =>
    simp only [readV, rowV]
    split
    · rename_i x hx
      exact ⟨x, rfl⟩
    · rename_i hx
      exfalso
      split at hx
      · rename_i c l _
        obtain ⟨d, hd⟩ := litV_flat (c := c)
        rw [hd] at hx; cases hx
      · cases hx
noncomputable def datV (g : Bool) (sh : List CK) (r : List Int) : DataW Unit := (readV_row g sh r).choose
theorem datV_eq (g : Bool) (sh : List CK) (r : List Int) : readV g (rowV g sh r) = some (datV g sh r, []) := (readV_row g sh r).choose_spec
/-- elements told as rows. -/
noncomputable def rowEl (g : Bool) (sh : List CK) : IM.El (List Int) where
  val := rowV g sh
  dv := datV g sh
  R := readV g
  rd := datV_eq g sh
  inv := fun v x ps h => readV_inj h (datV_eq g sh x)
/-- rows as pairs. -/
def pairR (r : List Int) : Int × List Int := (keyR r, tailR r)
theorem get_pair (z : Int) : ∀ l : List (List Int), IM.getI z (l.map pairR) = mget z l
  | [] => rfl
  | r :: l => by
    have ih := get_pair z l
    unfold IM.getI at ih ⊢
    simp only [List.map_cons, List.find?_cons, mget]
    by_cases h : keyR r = z
    · rw [if_pos h]; simp [pairR, h]
    · rw [if_neg h, ← ih]; simp [pairR, h]
theorem del_pair (z : Int) : ∀ l : List (List Int), IM.delI z (l.map pairR) = (mdel z l).map pairR
  | [] => rfl
  | r :: l => by
    have ih := del_pair z l
    unfold IM.delI at ih ⊢
    simp only [List.map_cons, List.filter_cons, mdel]
    by_cases h : keyR r = z
    · rw [if_pos h, ← ih]; simp [pairR, h]
    · rw [if_neg h, List.map_cons, ← ih]; simp [pairR, h]
theorem ins_pair (z : Int) (x : List Int) : ∀ l : List (List Int), IM.insI (z, x) (l.map pairR) = (mins z x l).map pairR
  | [] => rfl
  | r :: l => by
    have ih := ins_pair z x l
    simp only [List.map_cons, IM.insI, mins]
    by_cases h : z < keyR r
    · rw [if_pos h, if_pos (show (z, x).1 < (pairR r).1 from h)]; rfl
    · rw [if_neg h, if_neg (show ¬ (z, x).1 < (pairR r).1 from h), ih]; rfl
theorem put_pair (z : Int) (x : List Int) (l : List (List Int)) : IM.putI z x (l.map pairR) = (mput z x l).map pairR := by
  unfold IM.putI mput
  rw [del_pair, ins_pair]
/-- block b is a map of just these rows. -/
def MapIs (w : World) (b : Nat) (m : Bool × List CK × List (List Int)) : Prop :=
  ∀ (P : Program) (k : TypeId), P.underlying k = some (.int .i64) → IM.Own (rowEl m.1 m.2.1) P k w b m.2.2.length (m.2.2.map pairR)
theorem keyOf_any {P P' : Program} {k k' : TypeId} (h : P.underlying k = some (.int .i64)) (h' : P'.underlying k' = some (.int .i64)) (v : Value) : keyOf P k v = keyOf P' k' v := by
  unfold keyOf
  rw [h, h']
  unfold mapKey
  rw [h, h']
theorem own_any' {P P' : Program} {k k' : TypeId} (h : P.underlying k = some (.int .i64)) (h' : P'.underlying k' = some (.int .i64)) {E : IM.El (List Int)} {w : World} {b n : Nat} {l : List (Int × List Int)} (ho : IM.Own E P k w b n l) : IM.Own E P' k' w b n l := by
  obtain ⟨es, clock, hb, F, hs, hD⟩ := ho
  have e1 : WideElems.rd P k E.R = WideElems.rd P' k' E.R := by
    funext x
    unfold WideElems.rd
    rw [keyOf_any h h']
  have e2 : WideElems.rg P k E.R = WideElems.rg P' k' E.R := by
    funext x
    unfold WideElems.rg
    rw [e1]
  exact ⟨es, clock, hb, ⟨F.size, F.stamped, by rw [← e1]; exact F.reads⟩, hs, by rw [← e2]; exact hD⟩
theorem own_size {P : Program} {k : TypeId} {E : IM.El (List Int)} {w : World} {b n : Nat} {l : List (Int × List Int)} (ho : IM.Own E P k w b n l) : IM.Own E P k w b l.length l := by
  have ho' := ho
  obtain ⟨es, clock, hb, F, hs, hD⟩ := ho
  refine ⟨es, clock, hb, F, ?_, hD⟩
  have := congrArg Maps.size hD
  rw [IM.toD_size] at this
  rw [this]
  simp [Maps.size, length_sorted]
theorem MapIs.of {P : Program} {k : TypeId} (h : P.underlying k = some (.int .i64)) {w : World} {b n : Nat} {g : Bool} {sh : List CK} {l : List (List Int)} (ho : IM.Own (rowEl g sh) P k w b n (l.map pairR)) : MapIs w b (g, sh, l) := by
  intro P' k' h'
  have := own_size (own_any' h h' ho)
  rwa [List.length_map] at this
theorem MapIs.made (w : World) (g : Bool) (sh : List CK) : MapIs (w.alloc (.map #[] 0)) w.heap.size (g, sh, []) := fun P k _ => IM.Own.made (rowEl g sh) P k w
theorem MapIs.lt {w : World} {b : Nat} {m : Bool × List CK × List (List Int)} (h : MapIs w b m) {P : Program} {k : TypeId} (hk : P.underlying k = some (.int .i64)) : b < w.heap.size := (h P k hk).lt
theorem MapIs.same {w w' : World} {b : Nat} {m : Bool × List CK × List (List Int)} (h : MapIs w b m) (e : w'.heap[b]? = w.heap[b]?) : MapIs w' b m := fun P k hk => (h P k hk).of_heap e
theorem key_in {P : Program} {k : TypeId} (hk : P.underlying k = some (.int .i64)) {z : Int} (h : in64 z = true) : keyOf P k (.int .i64 z) = some (.int .i64 z) := by
  unfold in64 at h
  rw [decide_eq_true_eq] at h
  exact IM.key_ok hk h.1 h.2
section
variable {P : Program} {t k e : TypeId} {w : World} {b : Nat} {g : Bool} {sh : List CK} {l : List (List Int)} {r0 : List Int} {z : Int}
theorem MapIs.look (h : MapIs w b (g, sh, l)) (ht : P.underlying t = some (.map k e)) (hk : P.underlying k = some (.int .i64)) (hz : (zeroValue e).run P w = .ok (rowV g sh r0) w) (hin : in64 z = true) :
    (Instr.lookup t (.map (some b)) (.int .i64 z) false).run P w = .ok (rowV g sh (mgetD z l r0)) w := by
  obtain ⟨v, ps, hrun, hv⟩ := World.ownsMap.lookup (h P k hk) (int_keyed hk) ht hz ((rowEl g sh).rd r0) (key_in hk hin)
  rw [IM.toD_at, get_pair] at hv
  have e1 : ((mget z l).map (rowEl g sh).dv).getD ((rowEl g sh).dv r0) = (rowEl g sh).dv (mgetD z l r0) := by unfold mgetD; cases mget z l <;> rfl
  rw [e1] at hv
  rw [hrun, (rowEl g sh).inv _ _ _ hv]
  rfl
theorem MapIs.look_ok (h : MapIs w b (g, sh, l)) (ht : P.underlying t = some (.map k e)) (hk : P.underlying k = some (.int .i64)) (hz : (zeroValue e).run P w = .ok (rowV g sh r0) w) (hin : in64 z = true) :
    (Instr.lookup t (.map (some b)) (.int .i64 z) true).run P w = .ok (.tuple #[rowV g sh (mgetD z l r0), .bool (mhas z l)]) w := by
  obtain ⟨v, ps, hrun, hv⟩ := World.ownsMap.look_ok (h P k hk) (int_keyed hk) ht hz ((rowEl g sh).rd r0) (key_in hk hin)
  rw [IM.toD_at, get_pair] at hv
  have e1 : ((mget z l).map (rowEl g sh).dv).getD ((rowEl g sh).dv r0) = (rowEl g sh).dv (mgetD z l r0) := by unfold mgetD; cases mget z l <;> rfl
  rw [e1] at hv
  rw [hrun, (rowEl g sh).inv _ _ _ hv, IM.toD_has, get_pair]
  have e2 : (mget z l).isSome = mhas z l := by unfold mhas; cases mget z l <;> rfl
  rw [e2]
  rfl
theorem MapIs.put (h : MapIs w b (g, sh, l)) (ht : P.underlying t = some (.map k e)) (hk : P.underlying k = some (.int .i64)) (hin : in64 z = true) (hl : l.length ≤ 1000000) (r : List Int) :
    ∃ w', (Instr.mapUpdate t (.map (some b)) (.int .i64 z) (rowV g sh r)).run P w = .ok () w' ∧ MapIs w' b (g, sh, mput z r l) ∧ w.grownBy w' (some b) := by
  obtain ⟨w', h1, h2, h3⟩ := IM.Own.run_update (h P k hk) hk ht (by show l.length < maxLen; unfold maxLen; omega) z r (key_in hk hin)
  rw [put_pair] at h2
  exact ⟨w', h1, MapIs.of hk h2, h3⟩
theorem MapIs.del (h : MapIs w b (g, sh, l)) (ht : P.underlying t = some (.map k e)) (hk : P.underlying k = some (.int .i64)) (hin : in64 z = true) (ty : TypeId) :
    ∃ w', (Builtin.delete_ #[t, k] ty #[.map (some b), .int .i64 z]).run P w = .ok (.tuple #[]) w' ∧ MapIs w' b (g, sh, mdel z l) ∧ w.grownBy w' (some b) := by
  obtain ⟨w', h1, h2, h3⟩ := World.ownsMap.drop (h P k hk) (int_keyed hk) ht (key_in hk hin) ty
  rw [IM.toD_del, del_pair] at h2
  exact ⟨w', h1, MapIs.of hk h2, h3.grown⟩
end
end Go.Proofs.Ytjcdojcbdfblbaa.Lx
