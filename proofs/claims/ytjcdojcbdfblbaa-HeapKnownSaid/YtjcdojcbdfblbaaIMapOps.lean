/- maps keyed by int at the operation: what they hold said as sorted lists. -/
import Derived.Test.YtjcdojcbdfblbaaIMap
import Derived.Maps.OwnOps
import Derived.Maps.OwnSet
import Derived.WalkKit
namespace Go.Proofs.Ytjcdojcbdfblbaa.IM
open Go.RowKit Go.Maps
/-- how a map's elements are laid and read. -/
structure El (α : Type) where
  val : α → Value
  dv : α → DataW Unit
  R : Value → Option (DataW Unit × List MemPlace)
  rd : ∀ x, R (val x) = some (dv x, [])
  inv : ∀ v x ps, R v = some (dv x, ps) → v = val x
/-- block b is a map of at most n entries that holds just l. -/
def Own {α : Type} (E : El α) (P : Program) (k : TypeId) (w : World) (b n : Nat) (l : List (Int × α)) : Prop := w.ownsMap P k E.R b n (toD E.dv l)
theorem key_ok {P : Program} {k : TypeId} (hk : P.underlying k = some (.int .i64)) {z : Int} (h1 : -9223372036854775808 ≤ z) (h2 : z ≤ 9223372036854775807) : keyOf P k (.int .i64 z) = some (.int .i64 z) :=
  keyOf_int_mk hk (by simp only [Lit.wf, Bool.and_eq_true, decide_eq_true_eq]; exact ⟨h1, h2⟩)
section
variable {α : Type} {E : El α} {P : Program} {k : TypeId} {w : World} {b n : Nat} {l : List (Int × α)}
theorem Own.made (E : El α) (P : Program) (k : TypeId) (w : World) : Own E P k (w.alloc (.map #[] 0)) w.heap.size 0 [] := World.ownsMap_made _ _ _ _
theorem Own.mono (h : Own E P k w b n l) {n' : Nat} (hn : n ≤ n') : Own E P k w b n' l := World.ownsMap.mono h hn
theorem Own.lt (h : Own E P k w b n l) : b < w.heap.size := World.ownsMap.lt h
theorem Own.alloc (h : Own E P k w b n l) (o : Obj) : Own E P k (w.alloc o) b n l := World.ownsMap.alloc h o
theorem Own.drew (h : Own E P k w b n l) : Own E P k w.drew b n l := h
theorem Own.kept {w' : World} {row : Option Nat} (h : Own E P k w b n l) (hg : w.grownBy w' row) (hne : some b ≠ row) : Own E P k w' b n l := World.ownsMap.kept h hg hne
theorem Own.length (h : Own E P k w b n l) : l.length ≤ n := by
  have := World.ownsMap.size_le h
  rwa [toD_size] at this
theorem Own.of_heap {w' : World} (h : Own E P k w b n l) (e : w'.heap[b]? = w.heap[b]?) : Own E P k w' b n l := by
  obtain ⟨es, clock, hb, F, hs, hD⟩ := h
  exact ⟨es, clock, e.trans hb, F, hs, hD⟩
theorem Own.below {w' : World} {m : Nat} (h : Own E P k w b n l) (hb : Below m w w') (hlt : b < m) : Own E P k w' b n l := h.of_heap (hb.block b hlt)
end
section
variable {α : Type} (E : El α) {P : Program} (w : World) {ops : Array Oper} {rest : List Oper} {o : Oper} {a : Act} {Q : Exit → Act → World → Prop}
theorem wp_lookup (hg : o.guard = none) (m x : Operand) (t : TypeId) (hop : o.op = Op.lookup t m x false) (k e : TypeId) (hk : P.underlying k = some (.int .i64)) (ht : P.underlying t = some (.map k e)) (z0 : α) (hz : (zeroValue e).run P w = .ok (E.val z0) w)
    (b n : Nat) (l : List (Int × α)) (hm : a.eval m = .map (some b)) (hown : Own E P k w b n l) (z : Int) (hx : a.eval x = .int .i64 z) (hkey : keyOf P k (.int .i64 z) = some (.int .i64 z)) (r : α) (hr : (getI z l).getD z0 = r)
    (hK : wpList P ops Q rest (a.put o.dst (E.val r)) w) : wpList P ops Q (o :: rest) a w := by
  refine wpList_plain hg fun K' hK' => ?_
  obtain ⟨v, ps, hrun, hv⟩ := World.ownsMap.lookup hown (int_keyed hk) ht hz (E.rd z0) hkey
  rw [toD_at] at hv
  have e1 : ((getI z l).map E.dv).getD (E.dv z0) = E.dv r := by rw [← hr]; cases getI z l <;> rfl
  rw [e1] at hv
  obtain rfl := E.inv _ _ _ hv
  unfold Oper.wp
  simp [execOp, hop, hm, hx, hrun, Result.andThen]
  exact hK' _ _ hK
theorem wp_lookup_ok (hg : o.guard = none) (m x : Operand) (t : TypeId) (hop : o.op = Op.lookup t m x true) (k e : TypeId) (hk : P.underlying k = some (.int .i64)) (ht : P.underlying t = some (.map k e)) (z0 : α) (hz : (zeroValue e).run P w = .ok (E.val z0) w)
    (b n : Nat) (l : List (Int × α)) (hm : a.eval m = .map (some b)) (hown : Own E P k w b n l) (z : Int) (hx : a.eval x = .int .i64 z) (hkey : keyOf P k (.int .i64 z) = some (.int .i64 z)) (r : α) (hr : (getI z l).getD z0 = r) (there : Bool) (hth : (getI z l).isSome = there)
    (hK : wpList P ops Q rest (a.put o.dst (.tuple #[E.val r, .bool there])) w) : wpList P ops Q (o :: rest) a w := by
  refine wpList_lookup_own_ok w hg m x t hop k e (int_keyed hk) ht E.R hz (E.dv z0) [] (E.rd z0) b n _ hm hown _ _ hx hkey ?_
  intro v ps hv
  rw [toD_at] at hv
  have e1 : ((getI z l).map E.dv).getD (E.dv z0) = E.dv r := by rw [← hr]; cases getI z l <;> rfl
  rw [e1] at hv
  obtain rfl := E.inv _ _ _ hv
  rw [toD_has, hth]
  exact hK
theorem wp_update (hg : o.guard = none) (m x v : Operand) (t : TypeId) (hop : o.op = Op.mapUpdate t m x v) (k e : TypeId) (hk : P.underlying k = some (.int .i64)) (ht : P.underlying t = some (.map k e))
    (b n : Nat) (l : List (Int × α)) (hm : a.eval m = .map (some b)) (hown : Own E P k w b n l) (hn : n < maxLen) (z : Int) (y : α) (hx : a.eval x = .int .i64 z) (hv : a.eval v = E.val y) (hkey : keyOf P k (.int .i64 z) = some (.int .i64 z))
    (hK : ∀ w', Own E P k w' b (n + 1) (putI z y l) → w.grownBy w' (some b) → wpList P ops Q rest (a.put o.dst undef) w') : wpList P ops Q (o :: rest) a w := by
  refine wpList_mapUpdate_own w hg m x v t hop k e (int_keyed hk) ht E.R b n _ hm hown hn _ _ _ hx hv hkey _ [] (E.rd y) ?_
  intro w' h1 h2
  rw [toD_put] at h1
  exact hK w' h1 h2
theorem wp_delete (hg : o.guard = none) (m x : Operand) (t k : TypeId) (hop : o.op = Op.call { callee := Callee.builtin Builtin.delete, args := #[m, x], argTypes := #[t, k] }) (e : TypeId) (hk : P.underlying k = some (.int .i64)) (ht : P.underlying t = some (.map k e))
    (b n : Nat) (l : List (Int × α)) (hm : a.eval m = .map (some b)) (hown : Own E P k w b n l) (z : Int) (hx : a.eval x = .int .i64 z) (hkey : keyOf P k (.int .i64 z) = some (.int .i64 z))
    (hK : ∀ w', Own E P k w' b n (delI z l) → w.grownBy w' (some b) → wpList P ops Q rest (a.put o.dst (.tuple #[])) w') : wpList P ops Q (o :: rest) a w := by
  refine wpList_delete_own w hg m x t k hop e (int_keyed hk) ht E.R b n _ hm hown _ _ hx hkey ?_
  intro w' h1 h2
  rw [toD_del] at h1
  exact hK w' h1 h2.grown
/-- an update's run: for a region that draws. -/
theorem Own.run_update {E : El α} {k t e : TypeId} {w : World} {b n : Nat} {l : List (Int × α)} (h : Own E P k w b n l) (hk : P.underlying k = some (.int .i64)) (ht : P.underlying t = some (.map k e)) (hn : n < maxLen) (z : Int) (y : α) (hkey : keyOf P k (.int .i64 z) = some (.int .i64 z)) :
    ∃ w', (Instr.mapUpdate t (.map (some b)) (.int .i64 z) (E.val y)).run P w = .ok () w' ∧ Own E P k w' b (n + 1) (putI z y l) ∧ w.grownBy w' (some b) := by
  obtain ⟨w', h1, h2, h3⟩ := World.ownsMap.update h (int_keyed hk) ht hn hkey (E.rd y)
  rw [toD_put] at h2
  exact ⟨w', h1, h2, h3⟩
/-- elements that are integers of a kind. -/
def intEl (q : IntKind) : El Int where
  val := Value.int q
  dv := fun x => .lit (.int q x)
  R := fun v => match v with
    | .int q' x => if q' = q then some (.lit (.int q x), []) else none
    | _ => none
  rd := fun x => by simp
  inv := fun v x ps h => by
    cases v <;> simp at h
    obtain ⟨h1, h2, _⟩ := h
    rw [h1, h2]
end
end Go.Proofs.Ytjcdojcbdfblbaa.IM
