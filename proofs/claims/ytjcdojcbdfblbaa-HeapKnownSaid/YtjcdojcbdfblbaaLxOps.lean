/- The local executor: each operation does what the model's does. -/
import Derived.Test.YtjcdojcbdfblbaaLxEmb
namespace Go.Proofs.Ytjcdojcbdfblbaa.Lx
open Go

/-- an operation is done: its value is v, the own blocks are H' behind it. -/
def Did (P : Program) (pv : Value) (ra : Operand → Value) (o : Oper) (e : Env) (H : Heap) (w : World) (v : V) (H' : Heap) : Prop :=
  ∃ nx w' e' rv, (execOp ra o).run P w = .ok nx w' ∧ (nx = .value rv ∨ nx = .skip ∧ rv = undef) ∧ Ext e e' ∧ denV pv e' v = some rv ∧ Emb pv e' H' w' ∧ Keeps (Own true e H) w w' ∧
    ∀ q b, Own q e' H' b → Own q e H b ∨ w.heap.size ≤ b
/-- what operands are known to be, they are. -/
def Says (pv : Value) (e : Env) (ρ : Operand → Option V) (ra : Operand → Value) : Prop := ∀ x v, ρ x = some v → denV pv e v = some (ra x)
section
variable {ρ : Operand → Option V} {P : Program} {pv : Value} {ra : Operand → Value} {o : Oper} {e : Env} {H : Heap} {w : World}
theorem did_pure {v : V} {rv : Value} (E : Emb pv e H w) (h : (execOp ra o).run P w = .ok (.value rv) w) (hd : denV pv e v = some rv) : Did P pv ra o e H w v H :=
  ⟨.value rv, w, e, rv, h, .inl rfl, Ext.refl e, hd, E, Keeps.refl _ w, fun _ _ hb => .inl hb⟩
theorem did_made {cs : List C} {vs : List Value} {t : TypeId} {v : V} {rv : Value} {cap : Nat} (E : Emb pv e H w) (hd : denL pv e cs = some vs)
    (h : (execOp ra o).run P w = .ok (.value rv) (w.alloc (.cells vs.toArray t))) (hv : denV pv (e ++ [(w.heap.size, cap)]) v = some rv) : Did P pv ra o e H w v (newB H ⟨cs, t, false, none⟩) := by
  refine ⟨.value rv, _, e ++ [(w.heap.size, cap)], rv, h, .inl rfl, ⟨_, rfl⟩, hv, E.made t hd cap, ?_, fun q b hb => ?_⟩
  · refine ⟨rfl, rfl, rfl, by rw [heap_alloc]; simp, fun b hb _ => ?_⟩
    rw [heap_alloc, Array.getElem?_push, if_neg (by omega)]
  · rcases own_made E hb with h | h
    · exact .inl h
    · exact .inr (by omega)
theorem den_new (b c : Nat) (E : Emb pv e H w) : den pv (e ++ [(b, c)]) (.ptr H.length 0) = some (.pointer (some ⟨b, 0, none⟩)) := by
  simp [den, E.len]
theorem did_move {x : Operand} {v : V} (hρ : Says pv e ρ ra) (E : Emb pv e H w) (ho : o.op = .move x ∨ o.op = .assign x) (h : ρ x = some v) : Did P pv ra o e H w v H := by
  refine did_pure E (rv := ra x) ?_ (hρ x v h)
  rcases ho with ho | ho <;> simp [execOp, ho]
theorem did_pick {c a b : Operand} {t : Bool} {v : V} (hρ : Says pv e ρ ra) (E : Emb pv e H w) (ho : o.op = .pick c a b) (hc : ρ c = some (.c (.bool t))) (h : ρ (cond t a b) = some v) : Did P pv ra o e H w v H := by
  have h1 := hρ c _ hc
  simp only [denV, den, Option.some.injEq] at h1
  refine did_pure E (rv := ra (cond t a b)) ?_ (hρ _ v h)
  cases t <;> simp [execOp, ho, ← h1, asBool]
theorem zeroT_run {t : TypeId} {z : V} (h : zeroT P t = some z) (pv : Value) (e : Env) : ∃ v, (∀ w, (zeroValue t).run P w = .ok v w) ∧ denV pv e z = some v := by
  unfold zeroT at h
  split at h
  · rename_i i hi
    split at h
    · rename_i v hv
      exact ⟨v, fun w => by simp [zeroValue, typeInfo, program, Sem.run, hi, hv, bind, Sem.bind, pure], constV_den h⟩
    · cases h
  · cases h
theorem did_alloc {t : TypeId} {z : V} {cs : List C} (hp : One pv) (E : Emb pv e H w) (ho : o.op = .alloc t) (hz : zeroT P t = some z) (hc : z.cells = some cs) : Did P pv ra o e H w (.c (.ptr H.length 0)) (newB H ⟨cs, t, false, none⟩) := by
  obtain ⟨v, h1, h2⟩ := zeroT_run hz pv e
  refine did_made (cap := 0) E (denV_cells hp h2 hc) (rv := .pointer (some ⟨w.heap.size, 0, none⟩)) ?_ (den_new _ _ E)
  simp [execOp, ho, Instr.alloc, h1, newVar, newRow]
theorem did_box {t : TypeId} {x : Operand} {v : V} {cs : List C} (hρ : Says pv e ρ ra) (hp : One pv) (E : Emb pv e H w) (ho : o.op = .box t x) (hx : ρ x = some v) (hc : v.cells = some cs) : Did P pv ra o e H w (.c (.ptr H.length 0)) (newB H ⟨cs, t, false, none⟩) := by
  refine did_made (cap := 0) E (denV_cells hp (hρ x v hx) hc) (rv := .pointer (some ⟨w.heap.size, 0, none⟩)) ?_ (den_new _ _ E)
  simp [execOp, ho, Instr.box, newVar, newRow]
theorem did_load {t : TypeId} {a : Operand} {b p : Nat} {k : Blk} {v : V} (hρ : Says pv e ρ ra) (E : Emb pv e H w) (ho : o.op = .load t a) (ha : ρ a = some (.c (.ptr b p))) (hk : blkAt H b = some k) (h : loadB P t k p = some (true, v)) : Did P pv ra o e H w v H := by
  obtain ⟨r, cs, hr, hd, hw⟩ := E.lies b k hk
  have h1 := hρ a _ ha
  simp only [denV, den, hr, Option.map_some, Option.some.injEq] at h1
  obtain ⟨rv, h2, h3⟩ := part_loadC (P := P) (q := 0) hd (fun j u hj => by
    obtain ⟨tl, h4, _⟩ := hw.own (loadB_win h) (Blk.virt_some hd hj) (Blk.mapped_some hd hj)
    rw [Nat.zero_add, cell_of h4, List.getElem?_toArray, List.getElem?_append_left (List.getElem?_eq_some_iff.1 hj).1, hj]) (loadB_eq (E.ok b k hk) h)
  rw [Nat.zero_add] at h2
  refine did_pure E (rv := rv) ?_ h3
  simp [execOp, ho, ← h1, Instr.loadAt, Instr.sureAddr, h2]
theorem did_loadP {t : TypeId} {a : Operand} {b off n f : Nat} {i : Int} {k : Blk} {v : V} (hρ : Says pv e ρ ra) (E : Emb pv e H w) (ho : o.op = .load t a) (ha : ρ a = some (.c (.pr b off i n f))) (hk : blkAt H b = some k) (h : loadP P t k off i n f = some (true, v)) : Did P pv ra o e H w v H := by
  obtain ⟨r, cs, hr, hd, hl⟩ := E.lies b k hk
  have h1 := hρ a _ ha
  simp only [denV, den, hr, Option.map_some, Option.some.injEq] at h1
  obtain ⟨hwin, hp⟩ := loadP_eq h
  have hcell : ∀ j u, cs[j]? = some u → w.cell? ⟨r.1, off + j, none⟩ = some u := by
    rcases hwin with ⟨hw, rfl⟩ | hw
    · intro j u hj
      obtain ⟨tl, h4, _⟩ := hl.own hw (Blk.virt_some hd hj) (Blk.mapped_some hd hj)
      rw [Nat.zero_add, cell_of h4, List.getElem?_toArray, List.getElem?_append_left (List.getElem?_eq_some_iff.1 hj).1, hj]
    · intro j u hj
      rcases hl with hl | hl
      · rw [Blk.virt_some hd hj] at hl; cases hl
      · rw [Blk.mapped_some hd hj, hw] at hl
        exact hl.2 j u hj
  obtain ⟨rv, h2, h3⟩ := part_loadC (P := P) hd hcell hp
  refine did_pure E (rv := rv) ?_ h3
  simp [execOp, ho, ← h1, Instr.loadAt, Instr.sureAddr, h2]
theorem prO_eq (off : Nat) (i : Int) (m f : Nat) : prO off i m f = off + (i.toNat * m + f) := by
  unfold prO
  split
  · omega
  · rfl
theorem did_store {t : TypeId} {a x : Operand} {b p n : Nat} {k kn : Blk} {v : V} {xs : List C} (hρ : Says pv e ρ ra) (hp : One pv) (E : Emb pv e H w) (ho : o.op = .store t a x)
    (ha : ∃ r, e[b]? = some r ∧ ra a = .pointer (some ⟨r.1, p, none⟩)) (hx : ρ x = some v) (hk : blkAt H b = some k) (hc : v.cells = some xs) (hn : sizeT P t = some n) (hl : xs.length = n) (hst : storeB k p xs = some (true, kn)) :
    Did P pv ra o e H w .undef (setB H b (some kn)) := by
  obtain ⟨hkw, hnw, hwd⟩ := storeB_win hst
  obtain ⟨hkv, hnv⟩ := storeB_virt hst
  obtain ⟨r, cs, tl, hr, hd, hw, h1, h2⟩ := E.row b k hk hkw hkv (storeB_mapped hst).1
  obtain ⟨hok, hel, hgr, hs⟩ := storeB_eq (E.ok b k hk) hst
  obtain ⟨cs', hcs'⟩ : ∃ cs', cs' = kn.real := ⟨_, rfl⟩
  rw [← hcs'] at hs
  obtain ⟨r', hr', g1⟩ := ha
  obtain rfl : r = r' := by rw [hr] at hr'; exact Option.some.inj hr'
  have g2 := denV_cells hp (hρ x v hx) hc
  have hlen := denL_length g2
  have hlk := denL_length hd
  obtain rfl := splice_put _ _ _ _ hs
  have hfit : p + (ra x).cells.toList.length ≤ cs.length ∨ (ra x).cells.toList = [] := by
    rcases splice_eq _ _ _ _ hs with h | h
    · left; omega
    · right; rw [h] at hlen; exact List.length_eq_zero_iff.1 hlen
  have hrun : (storeCells ⟨r.1, p, none⟩ (ra x).cells.toList).run P w = .ok () { w with heap := w.heap.setIfInBounds r.1 (.cells (put cs p (ra x).cells.toList ++ tl).toArray k.elem (0, 0)) } := by
    rcases hfit with h | h
    · have := storeCells_run P r.1 p k.elem (ra x).cells.toList 0 w (cs ++ tl) hw (denL_one hp g2) (by simp at h ⊢; omega)
      rw [this, put_append _ _ _ _ (by simpa using h)]
      rfl
    · rw [h]
      obtain ⟨hlt, hcc⟩ := Array.getElem?_eq_some_iff.1 hw
      simp only [storeCells, Sem.run_pure, put]
      congr 1
      have : w.heap.setIfInBounds r.1 (.cells (cs ++ tl).toArray k.elem (0, 0)) = w.heap := by
        rw [← hcc, Array.setIfInBounds_def, dif_pos hlt, Array.set_getElem_self]
      rw [this]
  refine ⟨.skip, _, e, undef, ?_, .inr ⟨rfl, rfl⟩, Ext.refl e, rfl, E.stored hk hr (by rw [← hcs']; exact denL_put hd g2) hok hel hgr hkw hnw hkv hnv hwd h1 (fun h => by have := h2 h; simp [put_length] at this ⊢; exact this) (storeB_mapped hst).1 (storeB_mapped hst).2, ?_, fun q b' hb => .inl (own_stored hk (fun _ => hkw) hkv hb)⟩
  · have hsz : (ra x).cells.size = n := by rw [← Array.length_toList, hlen, hl]
    simp only [execOp, ho, g1, Instr.storeAt, Instr.sureAddr, storeVar, Sem.run_bind, Sem.run_pure, Result.andThen_ok, sizeOf_run hn, hsz, ne_eq, not_true_eq_false, if_false, hrun]
  · exact ⟨rfl, rfl, rfl, by simp, fun b' hb' hn' => by
      have : r.1 ≠ b' := fun h => hn' ⟨b, k, r, hk, hr, h, hkv, fun _ => hkw⟩
      simp [Array.getElem?_setIfInBounds, this]⟩
theorem den_int {x : Operand} {k : IntKind} {n : Int} (hρ : Says pv e ρ ra) (h : ρ x = some (.c (.int k n))) : ra x = .int k n := by
  have := hρ x _ h
  simpa [denV, den] using this.symm
theorem did_conv {s d : TypeId} {x : Operand} {k j : IntKind} {n : Int} (hρ : Says pv e ρ ra) (E : Emb pv e H w) (ho : o.op = .convert s d x) (hx : ρ x = some (.c (.int j n))) (hu : P.underlying d = some (.int k)) (hs : ∃ t, P.underlying s = some t) :
    Did P pv ra o e H w (.c (.int k (k.wrap n))) H := by
  refine did_pure E (rv := .int k (k.wrap n)) ?_ rfl
  obtain ⟨t, hs⟩ := hs
  simp only [execOp, ho, den_int hρ hx, convert, Sem.run_bind, underlying_run hs, underlying_run hu, Result.andThen_ok]
  cases t <;> simp [Conv.intToInt]
theorem did_un {op : UnOp} {t : TypeId} {x : Operand} {a r : C} (hρ : Says pv e ρ ra) (E : Emb pv e H w) (ho : o.op = .unOp op t x) (hx : ρ x = some (.c a)) (h : evUn op a = some r) : Did P pv ra o e H w (.c r) H := by
  have h1 := hρ x _ hx
  unfold evUn at h
  split at h <;> cases h <;> simp only [denV, den, Option.some.injEq] at h1
  · exact did_pure E (rv := .int _ _) (by simp [execOp, ho, ← h1, Op.unary, Op.intArith]) rfl
  · exact did_pure E (rv := .int _ _) (by simp [execOp, ho, ← h1, Op.unary, intBits_xor]) rfl
  · exact did_pure E (rv := .bool _) (by simp [execOp, ho, ← h1, Op.unary]) rfl

theorem den_bool {x : Operand} {b : Bool} (hρ : Says pv e ρ ra) (h : ρ x = some (.c (.bool b))) : ra x = .bool b := by
  have := hρ x _ h
  simpa [denV, den] using this.symm
theorem den_ptr {x : Operand} {b p : Nat} (hρ : Says pv e ρ ra) (h : ρ x = some (.c (.ptr b p))) : ∃ r, e[b]? = some r ∧ ra x = .pointer (some ⟨r.1, p, none⟩) := by
  have := hρ x _ h
  simp only [denV, den, Option.map_eq_some_iff] at this
  obtain ⟨r, h1, h2⟩ := this
  exact ⟨r, h1, h2.symm⟩
theorem den_agg {x : Operand} {l : List C} (hρ : Says pv e ρ ra) (h : ρ x = some (.agg l)) : ∃ vs, denL pv e l = some vs ∧ ra x = .agg vs.toArray := by
  have := hρ x _ h
  simp only [denV, Option.map_eq_some_iff] at this
  obtain ⟨r, h1, h2⟩ := this
  exact ⟨r, h1, h2.symm⟩
theorem add_addr (r p n : Nat) : (⟨r, p, none⟩ : Addr).add n = ⟨r, p + n, none⟩ := by
  unfold Addr.add
  split
  · rename_i h; subst h; rfl
  · rfl
theorem did_field {t : TypeId} {x : Operand} {f : Nat} {fs : Array Field} {fd : Field} {cs : List C} {v : V} (hρ : Says pv e ρ ra) (E : Emb pv e H w) (ho : o.op = .field t x f) (hu : P.underlying t = some (.struct fs)) (hx : ρ x = some (.agg cs)) (hf : fs[f]? = some fd)
    (h : partT P fd.type cs fd.offset = some v) : Did P pv ra o e H w v H := by
  obtain ⟨vs, h1, h2⟩ := den_agg hρ hx
  obtain ⟨rv, h3, h4⟩ := part_run (P := P) (w := w) h1 h
  refine did_pure E (rv := rv) ?_ h4
  simp [execOp, ho, h2, Instr.field, underlying_run hu, hf, asAgg, h3]
theorem did_fieldAddr {t : TypeId} {x : Operand} {f : Nat} {fs : Array Field} {fd : Field} {b p n : Nat} (hρ : Says pv e ρ ra) (E : Emb pv e H w) (ho : o.op = .fieldAddr t x f) (hu : P.underlying t = some (.struct fs)) (hx : ρ x = some (.c (.ptr b p))) (hf : fs[f]? = some fd)
    (hn : sizeT P fd.type = some n) (hn0 : n ≠ 0) : Did P pv ra o e H w (.c (.ptr b (p + fd.offset))) H := by
  obtain ⟨r, h1, h2⟩ := den_ptr hρ hx
  refine did_pure E (rv := .pointer (some ⟨r.1, p + fd.offset, none⟩)) ?_ (by simp [denV, den, h1])
  simp [execOp, ho, h2, Instr.fieldAt, underlying_run hu, hf, Instr.sureAddr, fieldPlace, sizeOf_run hn, hn0, add_addr]
theorem den_pr {x : Operand} {b off n f : Nat} {i : Int} (hρ : Says pv e ρ ra) (h : ρ x = some (.c (.pr b off i n f))) : ∃ r, e[b]? = some r ∧ ra x = .pointer (some ⟨r.1, off + (i.toNat * n + f), none⟩) := by
  have := hρ x _ h
  simp only [denV, den, Option.map_eq_some_iff] at this
  obtain ⟨r, h1, h2⟩ := this
  exact ⟨r, h1, h2.symm⟩
theorem did_fieldAddrP {t : TypeId} {x : Operand} {f : Nat} {fs : Array Field} {fd : Field} {b off m q n : Nat} {i : Int} (hρ : Says pv e ρ ra) (E : Emb pv e H w) (ho : o.op = .fieldAddr t x f) (hu : P.underlying t = some (.struct fs)) (hx : ρ x = some (.c (.pr b off i m q))) (hf : fs[f]? = some fd)
    (hn : sizeT P fd.type = some n) (hn0 : n ≠ 0) : Did P pv ra o e H w (.c (.pr b off i m (q + fd.offset))) H := by
  obtain ⟨r, h1, h2⟩ := den_pr hρ hx
  refine did_pure E (rv := .pointer (some ⟨r.1, off + (i.toNat * m + (q + fd.offset)), none⟩)) ?_ (by simp [denV, den, h1])
  rw [show off + (i.toNat * m + (q + fd.offset)) = off + (i.toNat * m + q) + fd.offset by omega]
  simp [execOp, ho, h2, Instr.fieldAt, underlying_run hu, hf, Instr.sureAddr, fieldPlace, sizeOf_run hn, hn0, add_addr]
theorem did_extract {x : Operand} {i : Nat} {l : List V1} {v : V1} (hρ : Says pv e ρ ra) (E : Emb pv e H w) (ho : o.op = .extract x i) (hx : ρ x = some (.tup l)) (h : l[i]? = some v) : Did P pv ra o e H w v.up H := by
  have h1 := hρ x _ hx
  simp only [denV, Option.map_eq_some_iff] at h1
  obtain ⟨vs, h2, h3⟩ := h1
  obtain ⟨y, h4, h5⟩ := allSome_get _ _ _ h2 i v h
  refine did_pure E (rv := y) ?_ (by rw [denV_up]; exact h4)
  simp [execOp, ho, ← h3, Instr.extract, h5]
theorem did_nilCheck {x : Operand} {v : V} (hpi : ∃ t u, pv = .iface t u) (hρ : Says pv e ρ ra) (E : Emb pv e H w) (ho : o.op = .nilCheck x) (hx : ρ x = some v) (h1 : v ≠ .c .nilp) (h2 : v ≠ .c .nili) (h3 : v ≠ .c .nilf) (h4 : ∀ s c, v ≠ .c (.meth s c)) : Did P pv ra o e H w v H := by
  have hd := hρ x v hx
  refine did_pure E (rv := ra x) ?_ hd
  cases v with
  | c a =>
    cases a <;> simp only [denV, den, Option.some.injEq, Option.map_eq_some_iff] at hd
    case nilp => exact absurd rfl h1
    case nili => exact absurd rfl h2
    case nilf => exact absurd rfl h3
    case meth s c => exact absurd rfl (h4 s c)
    case port => obtain ⟨t, u, rfl⟩ := hpi; simp [execOp, ho, ← hd]
    case slg =>
      obtain ⟨r, _, hd⟩ := Option.bind_eq_some_iff.1 hd
      split at hd
      · simp only [Option.some.injEq] at hd; simp [execOp, ho, ← hd]
      · cases hd
    case slr =>
      obtain ⟨r, _, hd⟩ := Option.bind_eq_some_iff.1 hd
      split at hd
      · rcases (zeroS_eq hd).2 with h | ⟨_, h⟩ <;> simp [execOp, ho, h]
      · split at hd
        · simp only [Option.some.injEq] at hd; simp [execOp, ho, ← hd]
        · cases hd
    case slv =>
      obtain ⟨r, _, hd⟩ := Option.bind_eq_some_iff.1 hd
      split at hd
      · split at hd
        · rcases (zeroS_eq hd).2 with h | ⟨_, h⟩ <;> simp [execOp, ho, h]
        · cases hd
      · split at hd
        · simp only [Option.some.injEq] at hd; simp [execOp, ho, ← hd]
        · cases hd
    all_goals first
      | (obtain ⟨_, _, hd⟩ := hd; simp [execOp, ho, ← hd])
      | simp [execOp, ho, ← hd]
  | agg l =>
    simp only [denV, Option.map_eq_some_iff] at hd
    obtain ⟨_, _, hd⟩ := hd
    simp [execOp, ho, ← hd]
  | tup l =>
    simp only [denV, Option.map_eq_some_iff] at hd
    obtain ⟨_, _, hd⟩ := hd
    simp [execOp, ho, ← hd]
theorem did_indexArr {t el : TypeId} {x ix : Operand} {len b p n : Nat} {k : IntKind} {i : Int} (hρ : Says pv e ρ ra) (E : Emb pv e H w) (ho : o.op = .indexAddr t x ix) (hu : P.underlying t = some (.array len el)) (hx : ρ x = some (.c (.ptr b p))) (hi : ρ ix = some (.c (.int k i)))
    (hn : sizeT P el = some n) (hg : 0 ≤ i ∧ i < (len : Int)) : Did P pv ra o e H w (.c (.ptr b (p + i.toNat * n))) H := by
  obtain ⟨r, h1, h2⟩ := den_ptr hρ hx
  refine did_pure E (rv := .pointer (some ⟨r.1, p + i.toNat * n, none⟩)) ?_ (by simp [denV, den, h1])
  simp [execOp, ho, h2, den_int hρ hi, Instr.indexAt, asIntOf, underlying_run hu, Instr.sureAddr, hg, sizeOf_run hn, add_addr]
theorem did_indexSl {t el : TypeId} {x ix : Operand} {len cap b p n : Nat} {k : IntKind} {i : Int} (hρ : Says pv e ρ ra) (E : Emb pv e H w) (ho : o.op = .indexAddr t x ix) (hu : P.underlying t = some (.slice el)) (hx : ρ x = some (.c (.sl b p len cap))) (hi : ρ ix = some (.c (.int k i)))
    (hn : sizeT P el = some n) (hg : 0 ≤ i ∧ i < (len : Int)) : Did P pv ra o e H w (.c (.ptr b (p + i.toNat * n))) H := by
  have := hρ x _ hx
  simp only [denV, den, Option.map_eq_some_iff] at this
  obtain ⟨r, h1, h2⟩ := this
  refine did_pure E (rv := .pointer (some ⟨r.1, p + i.toNat * n, none⟩)) ?_ (by simp [denV, den, h1])
  simp [execOp, ho, ← h2, den_int hρ hi, Instr.indexAt, asIntOf, underlying_run hu, hg, sizeOf_run hn, add_addr]
theorem did_indexSlg {t el : TypeId} {x ix : Operand} {len b q : Nat} {k : IntKind} {i : Int} (hρ : Says pv e ρ ra) (E : Emb pv e H w) (ho : o.op = .indexAddr t x ix) (hu : P.underlying t = some (.slice el)) (hx : ρ x = some (.c (.slg b q len))) (hi : ρ ix = some (.c (.int k i)))
    (hn : sizeT P el = some 1) (hg : 0 ≤ i ∧ i < (len : Int)) : Did P pv ra o e H w (.c (.ptr b (q + i.toNat))) H := by
  have := hρ x _ hx
  simp only [denV, den, Option.bind_eq_some_iff] at this
  obtain ⟨r, h1, h2⟩ := this
  split at h2
  · rename_i hle
    simp only [Option.some.injEq] at h2
    have hne : r.2 ≠ q := by omega
    rw [if_neg hne] at h2
    refine did_pure E (rv := .pointer (some ⟨r.1, q + i.toNat, none⟩)) ?_ (by simp [denV, den, h1])
    simp [execOp, ho, ← h2, den_int hρ hi, Instr.indexAt, asIntOf, underlying_run hu, hg, sizeOf_run hn, add_addr]
  · cases h2
theorem did_indexSlw {t el : TypeId} {x ix : Operand} {z : Option Addr} {len cap b p n : Nat} {k : IntKind} {i : Int} (hρ : Says pv e ρ ra) (E : Emb pv e H w) (ho : o.op = .indexAddr t x ix) (hu : P.underlying t = some (.slice el)) (hx : ρ x = some (.c (.slw b p z len cap))) (hi : ρ ix = some (.c (.int k i)))
    (hn : sizeT P el = some n) (hg : 0 ≤ i ∧ i < (len : Int)) : Did P pv ra o e H w (.c (.pr b p i n 0)) H := by
  have := hρ x _ hx
  simp only [denV, den, Option.map_eq_some_iff] at this
  obtain ⟨r, h1, h2⟩ := this
  rw [if_neg (by omega)] at h2
  refine did_pure E (rv := .pointer (some ⟨r.1, p + (i.toNat * n + 0), none⟩)) ?_ (by simp [denV, den, h1])
  rw [Nat.add_zero]
  simp [execOp, ho, ← h2, den_int hρ hi, Instr.indexAt, asIntOf, underlying_run hu, hg, sizeOf_run hn, add_addr]
theorem did_indexSlr {t el : TypeId} {x ix : Operand} {len b n : Nat} {k : IntKind} {i : Int} (hρ : Says pv e ρ ra) (E : Emb pv e H w) (ho : o.op = .indexAddr t x ix) (hu : P.underlying t = some (.slice el)) (hx : ρ x = some (.c (.slr b len))) (hi : ρ ix = some (.c (.int k i)))
    (hn : sizeT P el = some n) (hg : 0 ≤ i ∧ i < (len : Int)) : Did P pv ra o e H w (.c (.pr b 0 i n 0)) H := by
  have := hρ x _ hx
  simp only [denV, den, Option.bind_eq_some_iff] at this
  obtain ⟨r, h1, h2⟩ := this
  rw [if_neg (by omega)] at h2
  split at h2
  · simp only [Option.some.injEq] at h2
    refine did_pure E (rv := .pointer (some ⟨r.1, 0 + (i.toNat * n + 0), none⟩)) ?_ (by simp [denV, den, h1])
    rw [Nat.add_zero]
    simp [execOp, ho, ← h2, den_int hρ hi, Instr.indexAt, asIntOf, underlying_run hu, hg, sizeOf_run hn, add_addr]
  · cases h2
theorem did_index {t el : TypeId} {x ix : Operand} {len n : Nat} {k : IntKind} {i : Int} {cs : List C} {v : V} (hρ : Says pv e ρ ra) (E : Emb pv e H w) (ho : o.op = .index t x ix) (hu : P.underlying t = some (.array len el)) (hx : ρ x = some (.agg cs)) (hi : ρ ix = some (.c (.int k i)))
    (hn : sizeT P el = some n) (hg : 0 ≤ i ∧ i < (len : Int)) (h : partT P el cs (i.toNat * n) = some v) : Did P pv ra o e H w v H := by
  obtain ⟨vs, h1, h2⟩ := den_agg hρ hx
  obtain ⟨rv, h3, h4⟩ := part_run (P := P) (w := w) h1 h
  refine did_pure E (rv := rv) ?_ h4
  simp [execOp, ho, h2, den_int hρ hi, Instr.index, asIntOf, underlying_run hu, hg, sizeOf_run hn, h3]
theorem intBin_run {op : BinOp} {k : IntKind} {a b : Int} {c : C} (h : intBin op k a b = some (true, c)) (t : TypeId) (hs : op ≠ .shl ∧ op ≠ .shr) : ∃ rv, (binOp op t (.int k a) (.int k b)) = pure rv ∧ den pv e c = some rv := by
  unfold intBin at h
  split at h <;> (try simp only [Option.some.injEq, Prod.mk.injEq, Bool.not_eq_eq_eq_not, Bool.not_true, beq_eq_false_iff_ne] at h)
  all_goals first
    | (obtain ⟨h1, rfl⟩ := h; exact ⟨_, by simp [binOp, Op.intArith, Op.intDiv, h1, intBits_and, intBits_or, intBits_xor, intBits_andNot, Op.intCmp], rfl⟩)
    | exact absurd h (by simp)
theorem shiftBin_run {op : BinOp} {k k' : IntKind} {a b : Int} {c : C} (h : shiftBin op k a b = some (true, c)) (t : TypeId) : ∃ rv, (binOp op t (.int k a) (.int k' b)) = pure rv ∧ den pv e c = some rv := by
  unfold shiftBin at h
  split at h <;> (try simp only [Option.some.injEq, Prod.mk.injEq, Bool.not_eq_eq_eq_not, Bool.not_true, decide_eq_false_iff_not] at h)
  · obtain ⟨h1, rfl⟩ := h
    exact ⟨_, by simp [binOp, Op.shift, h1], rfl⟩
  · obtain ⟨h1, rfl⟩ := h
    exact ⟨_, by simp [binOp, Op.shift, h1], rfl⟩
  · exact absurd h (by simp)

theorem const_of {X : Operand} (h : isConstO X = true) : ∃ v, X = .const v := by
  cases X <;> simp [isConstO] at h
  exact ⟨_, rfl⟩
def EqOk (P : Program) (w : World) (t : TypeId) (q r : Bool) (x y : Value) : Prop :=
  (∀ n, (Op.equalIn (n + 1) t x y).run P w = .ok r w) ∧ (∀ op (X Y : Operand), (q = true → isConstO X = true ∨ isConstO Y = true) → (eqGuard op t X Y x y).run P w = .ok () w) ∧ binOp .eql t x y = (do pure (.bool (← Op.equal t x y))) ∧ binOp .neq t x y = (do pure (.bool (!(← Op.equal t x y))))
theorem eqC_run {d : TypeDesc} {t : TypeId} {q : Bool} {a b : C} {r : Bool} {x y : Value} (hu : P.underlying t = some d) (hpi : ∃ t u, pv = .iface t u) (ha : den pv e a = some x) (hb : den pv e b = some y) (h : eqC d q a b = some r) :
    EqOk P w t q r x y := by
  obtain ⟨tp, up, rfl⟩ := hpi
  have plain : ∀ {x y : Value} {r : Bool}, (∀ n, (Op.equalIn (n + 1) t x y).run P w = .ok r w) → (∀ op (X Y : Operand), (eqGuard op t X Y x y).run P w = .ok () w) → binOp .eql t x y = (do pure (.bool (← Op.equal t x y))) → binOp .neq t x y = (do pure (.bool (!(← Op.equal t x y)))) → EqOk P w t q r x y := fun h1 h2 h3 h4 => ⟨h1, fun op X Y _ => h2 op X Y, h3, h4⟩
  have g : ∀ {x y : Value}, (∀ op (X Y : Operand), (eqGuard op t X Y x y) = (do if !(op matches .eql | .neq) then return; pure ())) → ∀ op (X Y : Operand), (eqGuard op t X Y x y).run P w = .ok () w := by
    intro x y h op X Y
    rw [h]
    cases op <;> simp
  unfold eqC at h
  split at h
  · split at h
    · cases h
      simp only [den, Option.some.injEq] at ha hb
      subst ha; subst hb
      exact plain (fun n => by simp [Op.equalIn, underlying_run hu]) (g fun op X Y => by cases op <;> rfl) rfl rfl
    · cases h
  · split at h
    · cases h
      simp only [den, Option.some.injEq] at ha hb
      subst ha; subst hb
      exact plain (fun n => by simp [Op.equalIn, underlying_run hu]) (g fun op X Y => by cases op <;> rfl) rfl rfl
    · cases h
      simp only [den, Option.some.injEq, Option.map_eq_some_iff] at ha hb
      obtain ⟨_, _, rfl⟩ := hb; subst ha
      exact plain (fun n => by simp [Op.equalIn, underlying_run hu]) (g fun op X Y => by cases op <;> rfl) rfl rfl
    · cases h
      simp only [den, Option.some.injEq, Option.map_eq_some_iff] at ha hb
      obtain ⟨_, _, rfl⟩ := ha; subst hb
      exact plain (fun n => by simp [Op.equalIn, underlying_run hu]) (g fun op X Y => by cases op <;> rfl) rfl rfl
    · cases h
  · split at h
    · split at h
      · rename_i hq
        cases h
        simp only [den, Option.some.injEq] at ha hb
        subst ha; subst hb
        refine ⟨fun n => by simp [Op.equalIn, underlying_run hu], fun op X Y hc => ?_, rfl, rfl⟩
        rcases hc hq with h | h <;> obtain ⟨v, rfl⟩ := const_of h <;> cases op <;> simp [eqGuard]
      · cases h
    · cases h
      simp only [den, Option.some.injEq] at ha hb
      subst ha; subst hb
      exact plain (fun n => by simp [Op.equalIn, underlying_run hu]) (g fun op X Y => by cases op <;> rfl) rfl rfl
    · cases h
      simp only [den, Option.some.injEq] at ha hb
      subst ha; subst hb
      exact plain (fun n => by simp [Op.equalIn, underlying_run hu]) (g fun op X Y => by cases op <;> rfl) rfl rfl
    · cases h
      simp only [den, Option.some.injEq, Option.map_eq_some_iff] at ha hb
      obtain ⟨_, _, rfl⟩ := hb; subst ha
      exact plain (fun n => by simp [Op.equalIn, underlying_run hu]) (g fun op X Y => by cases op <;> rfl) rfl rfl
    · cases h
      simp only [den, Option.some.injEq, Option.map_eq_some_iff] at ha hb
      obtain ⟨_, _, rfl⟩ := ha; subst hb
      exact plain (fun n => by simp [Op.equalIn, underlying_run hu]) (g fun op X Y => by cases op <;> rfl) rfl rfl
    · cases h
  · split at h
    · cases h
      simp only [den, Option.some.injEq] at ha hb
      subst ha; subst hb
      exact plain (fun n => by simp [Op.equalIn, underlying_run hu]) (g fun op X Y => by cases op <;> rfl) rfl rfl
    · cases h
      simp only [den, Option.some.injEq, Option.map_eq_some_iff] at ha hb
      obtain ⟨_, _, rfl⟩ := hb; subst ha
      exact plain (fun n => by simp [Op.equalIn, underlying_run hu]) (g fun op X Y => by cases op <;> rfl) rfl rfl
    · cases h
      simp only [den, Option.some.injEq, Option.map_eq_some_iff] at ha hb
      obtain ⟨_, _, rfl⟩ := ha; subst hb
      exact plain (fun n => by simp [Op.equalIn, underlying_run hu]) (g fun op X Y => by cases op <;> rfl) rfl rfl
    · cases h
  · split at h
    · cases h
      simp only [den, Option.some.injEq] at ha hb
      subst ha; subst hb
      exact plain (fun n => by simp [Op.equalIn, underlying_run hu]) (g fun op X Y => by cases op <;> rfl) rfl rfl
    · cases h
      simp only [den, Option.some.injEq, Option.map_eq_some_iff] at ha hb
      obtain ⟨_, _, rfl⟩ := hb; subst ha
      exact plain (fun n => by simp [Op.equalIn, underlying_run hu]) (g fun op X Y => by cases op <;> rfl) rfl rfl
    · cases h
      simp only [den, Option.some.injEq, Option.map_eq_some_iff] at ha hb
      obtain ⟨_, _, rfl⟩ := ha; subst hb
      exact plain (fun n => by simp [Op.equalIn, underlying_run hu]) (g fun op X Y => by cases op <;> rfl) rfl rfl
    · cases h
      simp only [den, Option.some.injEq, Option.bind_eq_some_iff] at ha hb
      obtain ⟨_, _, hb⟩ := hb; subst ha
      split at hb <;> cases hb
      exact plain (fun n => by simp [Op.equalIn, underlying_run hu]) (g fun op X Y => by cases op <;> rfl) rfl rfl
    · cases h
      simp only [den, Option.some.injEq, Option.bind_eq_some_iff] at ha hb
      obtain ⟨_, _, ha⟩ := ha; subst hb
      split at ha <;> cases ha
      exact plain (fun n => by simp [Op.equalIn, underlying_run hu]) (g fun op X Y => by cases op <;> rfl) rfl rfl
    · cases h
  · cases h
end
end Go.Proofs.Ytjcdojcbdfblbaa.Lx
