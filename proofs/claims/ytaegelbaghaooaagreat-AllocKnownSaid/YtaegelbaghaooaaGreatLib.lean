/- Small laws of no one function: a struct stored whole into a variable that was just made. -/
import Derived.WalkKit
import Derived.Deep.WholeRow
import Derived.Deep.MidRow
namespace Go.Proofs.YtaegelbaghaooaaGreat
open Go.RowKit
variable {P : Program}
theorem ret_int {k : IntKind} {a b : Int} (h : a = b) : Ending.returned (.int k a) = .returned (.int k b) := by rw [h]
theorem ret_bool {a b : Bool} (h : a = b) : Ending.returned (.bool a) = .returned (.bool b) := by rw [h]
theorem wp_store_fresh {op : Oper} {a : Act} {w : World} {K : Act → World → Prop} {Q : Exit → Act → World → Prop} (ty : TypeId) (x y : Operand) (ho : op.op = .store ty x y)
    (c c' : Array Value) (hx : a.eval x = .pointer (some ⟨w.heap.size, 0, none⟩)) (hy : a.eval y = .agg c')
    (hi : (P.info? ty).map (·.size) = some c'.size) (hc : c.size = c'.size) (h1 : c'.all (·.oneCell') = true)
    (h : K (a.put op.dst undef) (w.alloc (.cells c' ty))) : op.wp P a (w.alloc (.cells c ty)) K Q := by
  unfold Oper.wp execOp
  simp only [ho, hx, hy, run_storeAt_new w ty c c' hi hc h1, Sem.run_bind, Sem.run_pure, Result.andThen_ok]
  exact h
theorem wpList_store_fresh {ops : Array Oper} {rest : List Oper} {op : Oper} {a : Act} {w : World} {Q : Exit → Act → World → Prop} (hgd : op.guard = none) (ty : TypeId) (x y : Operand) (ho : op.op = .store ty x y)
    (c c' : Array Value) (hx : a.eval x = .pointer (some ⟨w.heap.size, 0, none⟩)) (hy : a.eval y = .agg c')
    (hi : (P.info? ty).map (·.size) = some c'.size) (hc : c.size = c'.size) (h1 : c'.all (·.oneCell') = true)
    (h : wpList P ops Q rest (a.put op.dst undef) (w.alloc (.cells c' ty))) : wpList P ops Q (op :: rest) a (w.alloc (.cells c ty)) :=
  wpList_plain hgd fun _ hK => wp_store_fresh ty x y ho c c' hx hy hi hc h1 (hK _ _ h)
/-- the same, the world under a name: it fails at once where the operation is another. -/
theorem wpList_store_new {ops : Array Oper} {rest : List Oper} {op : Oper} {a : Act} {W : World} {Q : Exit → Act → World → Prop} (hgd : op.guard = none) (ty : TypeId) (x y : Operand) (ho : op.op = .store ty x y)
    (w : World) (c c' : Array Value) (hW : W = w.alloc (.cells c ty)) (hx : a.eval x = .pointer (some ⟨w.heap.size, 0, none⟩)) (hy : a.eval y = .agg c')
    (hi : (P.info? ty).map (·.size) = some c'.size) (hc : c.size = c'.size) (h1 : c'.all (·.oneCell') = true)
    (h : wpList P ops Q rest (a.put op.dst undef) (w.alloc (.cells c' ty))) : wpList P ops Q (op :: rest) a W := by
  subst hW
  exact wpList_store_fresh hgd ty x y ho c c' hx hy hi hc h1 h
theorem set_all (c : List Value) (zs : List Value) (h : c.length = zs.length) : (c.zipIdx.foldl (fun cs x => cs.setIfInBounds x.2 x.1) zs.toArray) = c.toArray := by
  have gen : ∀ (c1 c2 z : List Value), c2.length = z.length → (c2.zipIdx c1.length).foldl (fun (cs : Array Value) x => cs.setIfInBounds x.2 x.1) (c1 ++ z).toArray = (c1 ++ c2).toArray := by
    intro c1 c2
    induction c2 generalizing c1 with
    | nil => intro z hz; have : z = [] := List.eq_nil_of_length_eq_zero hz.symm; subst this; rfl
    | cons v c2 ih =>
      intro z hz
      cases z with
      | nil => simp at hz
      | cons y z =>
        rw [List.zipIdx_cons, List.foldl_cons]
        simp only [List.setIfInBounds_toArray]
        rw [List.set_append_right _ _ (Nat.le_refl _), Nat.sub_self, List.set_cons_zero]
        have := ih (c1 ++ [v]) z (by simpa using hz)
        simp only [List.length_append, List.length_singleton, List.append_assoc, List.singleton_append] at this
        exact this
  exact gen [] c zs h
theorem fill_one (k : Nat) (cells c : Array Value) (hc : c.size = k) (hs : cells.size = k) : Instr.fill (fun i => some (i * k, k)) cells [(0, .agg c)] = some c := by
  have h := set_all c.toList cells.toList (by simp [hc, hs])
  simp only [Array.toArray_toList] at h
  unfold Instr.fill
  simp only [Value.cells, hc, hs, Nat.zero_mul, Nat.zero_add]
  rw [if_neg (by simp)]
  unfold Instr.fill
  rw [← Array.foldl_toList, Array.toList_zipIdx]
  exact congrArg some h
theorem run_buildSlice_one {t elem : TypeId} {z : Value} {k : Nat} (ht : P.underlying t = some (.slice elem)) (hi : (P.info? elem).map (fun i => (i.zero, i.size)) = some (some z, k)) (c : Array Value) (hc : c.size = k) (hk : 0 < k) (hk2 : k ≤ 65536) (w : World) :
    (Instr.buildSlice t 1 #[(0, .agg c)]).run P w = .ok (.slice (some ⟨w.heap.size, 0, none⟩) 1 1) (w.alloc (.cells c elem)) := by
  cases hq : P.info? elem with
  | none => simp [hq] at hi
  | some i =>
    simp only [hq, Option.map_some, Option.some.injEq, Prod.mk.injEq] at hi
    obtain ⟨h1, h2⟩ := hi
    have hS : (Go.sizeOf elem).run P w = .ok k w := by simp [Go.sizeOf, typeInfo, hq, h2]
    have hZ : (zeroValue elem).run P w = .ok z w := by simp [zeroValue, typeInfo, hq, h1]
    have e1 : ¬ (16777216 < k) := by omega
    have e2 : ¬ (k = 0) := by omega
    have hf := fill_one k ((Array.range k).map fun x => z.cells[x % z.cells.size]!) c hc (by simp)
    simp [Instr.buildSlice, run_underlying ht, hS, hZ, e1, e2, hf, newRow]
theorem wpList_buildSlice_one {ops : Array Oper} {rest : List Oper} {op : Oper} {a : Act} {w : World} {Q : Exit → Act → World → Prop} (hgd : op.guard = none) (t : TypeId) (x : Operand) (ho : op.op = .buildSlice t 1 #[(0, x)])
    (elem : TypeId) (z : Value) (k : Nat) (ht : P.underlying t = some (.slice elem)) (hi : (P.info? elem).map (fun i => (i.zero, i.size)) = some (some z, k)) (c : Array Value) (hx : a.eval x = .agg c) (hc : c.size = k) (hk : 0 < k) (hk2 : k ≤ 65536)
    (h : wpList P ops Q rest (a.put op.dst (.slice (some ⟨w.heap.size, 0, none⟩) 1 1)) (w.alloc (.cells c elem))) : wpList P ops Q (op :: rest) a w := by
  refine wpList_plain hgd fun _ hK => ?_
  unfold Oper.wp execOp
  simp only [ho, List.map_toArray, List.map_cons, List.map_nil, hx, Sem.run_bind, Sem.run_pure, Result.andThen_ok, run_buildSlice_one ht hi c hc hk hk2]
  exact hK _ _ h
theorem cells_new (w : World) (c : List Value) (t : TypeId) : ∀ (j : Nat) (u : Value), c[j]? = some u → (w.alloc (.cells c.toArray t)).cell? ((⟨w.heap.size, 0, none⟩ : Addr).add j) = some u := by
  intro j u hu
  rw [Addr.add_mid, Nat.zero_add, cell_of_row _ _ _ _ _ _ (heap_alloc_new w _)]
  simpa using hu
end Go.Proofs.YtaegelbaghaooaaGreat
