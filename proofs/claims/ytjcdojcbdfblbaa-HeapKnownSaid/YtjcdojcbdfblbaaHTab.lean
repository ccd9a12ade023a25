/- heap.Judge and heap.Bytes at the histories of the law: tables. (printed by wip/spec/heap_tab.py) -/
import Derived.Test.YtjcdojcbdfblbaaHChain
namespace Go.Proofs.Ytjcdojcbdfblbaa
open Go.RowKit Lx
set_option linter.unusedVariables false
set_option maxRecDepth 1000000
/-- the cells of an event. -/
def evSh : List CK := [.int .i64, .int .u8, .int .i64, .int .i64, .int .i64, .int .i64, .int .i64, .int .u8, .int .i64, .int .i64, .int .i64, .int .i64, .bool, .int .i64, .int .i64, .int .u8, .int .u64, .int .u64, .int .u64, .int .u64, .int .u64, .int .i64, .int .i64, .int .i64]
def cellsOf (l : List (List Int)) : List C := l.flatMap (rowC evSh)
def blkOf (l : List (List Int)) : Heap := [some ⟨cellsOf l, 31, false, none⟩]
def argsOf (l : List (List Int)) (p : Int) : List V := [.c (.sl 0 0 l.length l.length), .c (.int .i64 p)]
def eqC : C → C → Bool
  | .int k n, .int k' n' => decide (k = k') && decide (n = n')
  | .bool a, .bool b => a == b
  | _, _ => false
def eqCs : List C → List C → Bool
  | [], [] => true
  | a :: l, b :: m => eqC a b && eqCs l m
  | _, _ => false
theorem eqC_eq {a b : C} (h : eqC a b = true) : a = b := by
  cases a <;> cases b <;> simp [eqC] at h
  · subst h; rfl
  · obtain ⟨rfl, rfl⟩ := h; rfl
theorem eqCs_eq : ∀ {a b : List C}, eqCs a b = true → a = b
  | [], [], _ => rfl
  | x :: a, y :: b, h => by
    simp only [eqCs, Bool.and_eq_true] at h
    rw [eqC_eq h.1, eqCs_eq h.2]
  | [], _ :: _, h => by simp [eqCs] at h
  | _ :: _, [], h => by simp [eqCs] at h
abbrev Row := List (List Int) × Int × V
def findT : List Row → Int → Nat → Nat → List C → Option Row
  | [], _, _, _, _ => none
  | x :: T, p, n, c, l => bif decide (p = x.2.1) && (Nat.beq n x.1.length && (Nat.beq c x.1.length && eqCs l (cellsOf x.1))) then some x else findT T p n c l
theorem findT_eq : ∀ {T : List Row} {p : Int} {n c : Nat} {l : List C} {x : Row}, findT T p n c l = some x → x ∈ T ∧ p = x.2.1 ∧ n = x.1.length ∧ c = x.1.length ∧ l = cellsOf x.1
  | [], p, n, c, l, x, h => by simp [findT] at h
  | y :: T, p, n, c, l, x, h => by
    rw [findT] at h
    cases hb : decide (p = y.2.1) && (Nat.beq n y.1.length && (Nat.beq c y.1.length && eqCs l (cellsOf y.1))) with
    | true =>
      rw [hb, cond_true, Option.some.injEq] at h
      subst h
      simp only [Bool.and_eq_true, decide_eq_true_eq] at hb
      exact ⟨by simp, hb.1, Nat.eq_of_beq_eq_true hb.2.1, Nat.eq_of_beq_eq_true hb.2.2.1, eqCs_eq hb.2.2.2⟩
    | false =>
      rw [hb, cond_false] at h
      obtain ⟨h1, h2⟩ := findT_eq h
      exact ⟨List.mem_cons_of_mem _ h1, h2⟩
/-- a function by a table of its answers. -/
def tabS (T : List Row) : Sm := fun args H => match args, H with
  | [.c (.sl 0 0 n c), .c (.int .i64 p)], [some ⟨l, el, false, none⟩] => match Nat.beq el 31 with
    | true => match findT T p n c l with
      | some x => some (mkS Unit (.ret ()) fun _ => some (x.2.2, H))
      | none => none
    | false => none
  | _, _ => none
theorem ran_of {t : T (V × Heap)} {r : V × Heap} {s : Unit} (h : t = .ret r) : t.run NP.step s = some (r, s) := by rw [h]; rfl
theorem sound_tab {f : FuncId} {Tb : List Row} {k : List (Nat × Sm)} {n : Nat} {fn : Func} (hs : SoundF NP f (inl Try.prog (lookK k) n fn)) (hT : ∀ x ∈ Tb, evF Try.prog (lookK k) n fn (argsOf x.1 x.2.1) (blkOf x.1) = .ret (x.2.2, blkOf x.1)) : SoundF NP f (tabS Tb) := by
  refine ⟨hs.1, fun args H S hS e w s F vs E hv hR hF x v H' s' hrun hfx => ?_⟩
  unfold tabS at hS
  split at hS
  rotate_left
  · cases hS
  rename_i n c p l el
  split at hS
  rotate_left
  · cases hS
  rename_i hel
  split at hS
  rotate_left
  · cases hS
  rename_i r hr
  cases hS
  obtain ⟨hm, rfl, rfl, rfl, rfl⟩ := findT_eq hr
  obtain rfl := Nat.eq_of_beq_eq_true hel
  simp only [T.run, Option.some.injEq, Prod.mk.injEq] at hrun hfx
  obtain ⟨rfl, rfl⟩ := hrun
  obtain ⟨rfl, rfl⟩ := hfx
  exact hs.2 (argsOf r.1 r.2.1) (blkOf r.1) _ rfl e w s F vs E hv hR hF (r.2.2, blkOf r.1) r.2.2 (blkOf r.1) s (ran_of (hT r hm)) rfl
def jr0 : Row := ([[0, 1, 0, 0, 0, 0, 0, 0, 1, 1, 1, (-1), 1, 0, 0, 0, 0, 0, 0, 0, 0, 11, 0, 0], [0, 1, 129, 0, 0, 0, 0, 0, 2, 2, 2, (-1), 1, 0, 0, 0, 0, 0, 0, 0, 0, 11, 0, 0], [0, 1, 128, 0, 0, 0, 0, 0, 3, 3, 3, (-1), 1, 0, 0, 0, 0, 0, 0, 0, 0, 15, 0, 0], [0, 1, 128, 0, 0, 0, 0, 0, 4, 4, 4, (-1), 1, 0, 0, 0, 0, 0, 0, 0, 0, 5, 0, 0]], 2, .c (.bool true))
theorem jt0 : evF Try.prog (lookK kh20) 64 Try.f11 (argsOf jr0.1 jr0.2.1) (blkOf jr0.1) = .ret (jr0.2.2, blkOf jr0.1) := by kernel_rfl
def jr1 : Row := ([[0, 1, 128, 0, 0, 0, 0, 0, 1, 1, 1, (-1), 1, 0, 0, 0, 0, 0, 0, 0, 0, 11, 0, 0]], 2, .c (.bool false))
theorem jt1 : evF Try.prog (lookK kh20) 64 Try.f11 (argsOf jr1.1 jr1.2.1) (blkOf jr1.1) = .ret (jr1.2.2, blkOf jr1.1) := by kernel_rfl
def jr2 : Row := ([[0, 1, 8, 0, 0, 0, 0, 0, 1, 1, 1, (-1), 1, 0, 0, 0, 0, 0, 0, 0, 0, 13, 0, 0]], 2, .c (.bool false))
theorem jt2 : evF Try.prog (lookK kh20) 64 Try.f11 (argsOf jr2.1 jr2.2.1) (blkOf jr2.1) = .ret (jr2.2.2, blkOf jr2.1) := by kernel_rfl
def jr3 : Row := ([[0, 1, 20, 0, 0, 0, 0, 0, 1, 1, 1, (-1), 1, 4, 24, 0, 0, 0, 0, 0, 0, 0, 0, 0]], 2, .c (.bool false))
theorem jt3 : evF Try.prog (lookK kh20) 64 Try.f11 (argsOf jr3.1 jr3.2.1) (blkOf jr3.1) = .ret (jr3.2.2, blkOf jr3.1) := by kernel_rfl
def jr4 : Row := ([[0, 1, 20, 0, 0, 0, 0, 0, 1, 1, 1, (-1), 1, 0, 16, 0, 0, 0, 0, 0, 0, 0, 0, 0]], 2, .c (.bool false))
theorem jt4 : evF Try.prog (lookK kh20) 64 Try.f11 (argsOf jr4.1 jr4.2.1) (blkOf jr4.1) = .ret (jr4.2.2, blkOf jr4.1) := by kernel_rfl
def jr5 : Row := ([[0, 1, 20, 0, 0, 0, 0, 0, 1, 1, 1, (-1), 1, 112, 24, 0, 0, 0, 0, 0, 0, 0, 0, 0]], 2, .c (.bool false))
theorem jt5 : evF Try.prog (lookK kh20) 64 Try.f11 (argsOf jr5.1 jr5.2.1) (blkOf jr5.1) = .ret (jr5.2.2, blkOf jr5.1) := by kernel_rfl
def jr6 : Row := ([[0, 1, 20, 0, 0, 0, 0, 0, 1, 1, 1, (-1), 1, (-8), 24, 0, 0, 0, 0, 0, 0, 0, 0, 0]], 2, .c (.bool false))
theorem jt6 : evF Try.prog (lookK kh20) 64 Try.f11 (argsOf jr6.1 jr6.2.1) (blkOf jr6.1) = .ret (jr6.2.2, blkOf jr6.1) := by kernel_rfl
def jr7 : Row := ([[0, 1, 20, 0, 0, 0, 0, 0, 1, 1, 1, (-1), 1, 0, 24, 0, 0, 0, 0, 0, 0, 0, 0, 0]], 0, .c (.bool false))
theorem jt7 : evF Try.prog (lookK kh20) 64 Try.f11 (argsOf jr7.1 jr7.2.1) (blkOf jr7.1) = .ret (jr7.2.2, blkOf jr7.1) := by kernel_rfl
def jr8 : Row := ([[0, 2, 8, 4, 0, 0, 0, 0, 1, 1, 1, (-1), 1, 0, 32, 0, 0, 0, 0, 0, 0, 0, 0, 0], [0, 2, 8, 4, 0, 0, 0, 0, 2, 2, 2, (-1), 1, 0, 0, 0, 0, 0, 0, 0, 0, 15, 0, 0]], 2, .c (.bool true))
theorem jt8 : evF Try.prog (lookK kh20) 64 Try.f11 (argsOf jr8.1 jr8.2.1) (blkOf jr8.1) = .ret (jr8.2.2, blkOf jr8.1) := by kernel_rfl
def jr9 : Row := ([[0, 2, 4611686018427387904, 4, 0, 0, 0, 0, 1, 1, 1, (-1), 1, 0, 0, 0, 0, 0, 0, 0, 0, 11, 0, 0], [0, 2, 8, 0, 0, 0, 0, 0, 2, 2, 2, (-1), 1, 0, 0, 0, 0, 0, 0, 0, 0, 11, 0, 0]], 2, .c (.bool true))
theorem jt9 : evF Try.prog (lookK kh20) 64 Try.f11 (argsOf jr9.1 jr9.2.1) (blkOf jr9.1) = .ret (jr9.2.2, blkOf jr9.1) := by kernel_rfl
def jr10 : Row := ([[0, 3, 8, 0, 64, 0, 0, 0, 1, 1, 1, (-1), 1, 64, 64, 0, 0, 0, 0, 0, 0, 0, 0, 0]], 2, .c (.bool true))
theorem jt10 : evF Try.prog (lookK kh20) 64 Try.f11 (argsOf jr10.1 jr10.2.1) (blkOf jr10.1) = .ret (jr10.2.2, blkOf jr10.1) := by kernel_rfl
def jr11 : Row := ([[0, 3, 8, 0, 64, 0, 0, 0, 1, 1, 1, (-1), 1, 32, 64, 0, 0, 0, 0, 0, 0, 0, 0, 0]], 2, .c (.bool false))
theorem jt11 : evF Try.prog (lookK kh20) 64 Try.f11 (argsOf jr11.1 jr11.2.1) (blkOf jr11.1) = .ret (jr11.2.2, blkOf jr11.1) := by kernel_rfl
def jr12 : Row := ([[0, 3, 8, 0, 3, 0, 0, 0, 1, 1, 1, (-1), 1, 0, 0, 0, 0, 0, 0, 0, 0, 12, 0, 0]], 2, .c (.bool true))
theorem jt12 : evF Try.prog (lookK kh20) 64 Try.f11 (argsOf jr12.1 jr12.2.1) (blkOf jr12.1) = .ret (jr12.2.2, blkOf jr12.1) := by kernel_rfl
def jr13 : Row := ([[0, 3, 8, 0, 3, 0, 0, 0, 1, 1, 1, (-1), 1, 0, 8, 0, 0, 0, 0, 0, 0, 0, 0, 0]], 2, .c (.bool false))
theorem jt13 : evF Try.prog (lookK kh20) 64 Try.f11 (argsOf jr13.1 jr13.2.1) (blkOf jr13.1) = .ret (jr13.2.2, blkOf jr13.1) := by kernel_rfl
def jr14 : Row := ([[0, 1, 20, 0, 0, 0, 0, 0, 1, 1, 1, (-1), 1, 0, 24, 0, 0, 0, 0, 0, 0, 0, 0, 0], [0, 4, 40, 0, 0, 0, 0, 0, 2, 2, 2, (-1), 1, 64, 64, 0, 0, 0, 0, 0, 0, 0, 0, 0], [0, 5, 0, 0, 0, 0, 0, 0, 3, 3, 3, (-1), 1, 0, 0, 0, 0, 0, 0, 0, 0, 13, 0, 0], [0, 5, 0, 0, 0, 64, 0, 0, 4, 4, 4, (-1), 1, 0, 0, 0, 0, 0, 0, 0, 0, 0, 0, 0]], 2, .c (.bool true))
theorem jt14 : evF Try.prog (lookK kh20) 64 Try.f11 (argsOf jr14.1 jr14.2.1) (blkOf jr14.1) = .ret (jr14.2.2, blkOf jr14.1) := by kernel_rfl
def jr15 : Row := ([[0, 1, 20, 0, 0, 0, 0, 0, 1, 1, 1, (-1), 1, 0, 24, 0, 0, 0, 0, 0, 0, 0, 0, 0], [0, 4, 10, 0, 0, 0, 0, 0, 2, 2, 2, (-1), 1, 0, 24, 0, 0, 0, 0, 0, 0, 0, 0, 0], [0, 7, 0, 0, 0, 0, 10, 0, 3, 3, 3, (-1), 1, 0, 0, 0, 0, 0, 0, 0, 0, 14, 0, 0], [0, 8, 0, 0, 0, 0, 9, 0, 4, 4, 4, (-1), 1, 0, 0, 0, 0, 0, 0, 0, 0, 0, 0, 0]], 2, .c (.bool true))
theorem jt15 : evF Try.prog (lookK kh20) 64 Try.f11 (argsOf jr15.1 jr15.2.1) (blkOf jr15.1) = .ret (jr15.2.2, blkOf jr15.1) := by kernel_rfl
def jr16 : Row := ([[0, 1, 20, 0, 0, 0, 0, 0, 1, 1, 1, (-1), 1, 0, 24, 0, 0, 0, 0, 0, 0, 0, 0, 0], [0, 4, 10, 0, 0, 0, 0, 0, 2, 2, 2, (-1), 1, 0, 16, 0, 0, 0, 0, 0, 0, 0, 0, 0]], 2, .c (.bool false))
theorem jt16 : evF Try.prog (lookK kh20) 64 Try.f11 (argsOf jr16.1 jr16.2.1) (blkOf jr16.1) = .ret (jr16.2.2, blkOf jr16.1) := by kernel_rfl
def jr17 : Row := ([[0, 1, 20, 0, 0, 0, 0, 0, 1, 1, 1, (-1), 1, 0, 24, 0, 0, 0, 0, 0, 0, 0, 0, 0], [0, 4, 40, 0, 0, 0, 0, 0, 2, 2, 2, (-1), 1, 0, 24, 0, 0, 0, 0, 0, 0, 0, 0, 0]], 2, .c (.bool false))
theorem jt17 : evF Try.prog (lookK kh20) 64 Try.f11 (argsOf jr17.1 jr17.2.1) (blkOf jr17.1) = .ret (jr17.2.2, blkOf jr17.1) := by kernel_rfl
def jr18 : Row := ([[0, 4, 40, 0, 0, 0, 0, 0, 1, 1, 1, (-1), 1, 0, 0, 0, 0, 0, 0, 0, 0, 13, 0, 0], [0, 4, 0, 0, 0, 5, 0, 0, 2, 2, 2, (-1), 1, 0, 0, 0, 0, 0, 0, 0, 0, 11, 0, 0]], 2, .c (.bool true))
theorem jt18 : evF Try.prog (lookK kh20) 64 Try.f11 (argsOf jr18.1 jr18.2.1) (blkOf jr18.1) = .ret (jr18.2.2, blkOf jr18.1) := by kernel_rfl
def jr19 : Row := ([[0, 1, 20, 0, 0, 0, 0, 0, 1, 1, 1, (-1), 1, 0, 24, 0, 0, 0, 0, 0, 0, 0, 0, 0], [0, 4, 40, 0, 0, 0, 0, 0, 2, 2, 2, (-1), 1, 0, 0, 0, 0, 0, 0, 0, 0, 15, 0, 0], [0, 6, 0, 0, 0, 0, 0, 0, 3, 3, 3, (-1), 1, 0, 24, 0, 0, 0, 0, 0, 0, 0, 0, 0]], 2, .c (.bool true))
theorem jt19 : evF Try.prog (lookK kh20) 64 Try.f11 (argsOf jr19.1 jr19.2.1) (blkOf jr19.1) = .ret (jr19.2.2, blkOf jr19.1) := by kernel_rfl
def jr20 : Row := ([[0, 1, 20, 0, 0, 0, 0, 0, 1, 1, 1, (-1), 1, 0, 24, 0, 0, 0, 0, 0, 0, 0, 0, 0], [0, 6, 0, 0, 0, 0, 0, 0, 2, 2, 2, (-1), 1, 0, 20, 0, 0, 0, 0, 0, 0, 0, 0, 0]], 2, .c (.bool false))
theorem jt20 : evF Try.prog (lookK kh20) 64 Try.f11 (argsOf jr20.1 jr20.2.1) (blkOf jr20.1) = .ret (jr20.2.2, blkOf jr20.1) := by kernel_rfl
def jr21 : Row := ([[0, 9, 0, 0, 0, 0, 0, 0, 1, 1, 1, (-1), 1, 0, 0, 0, 0, 0, 0, 0, 0, 0, 0, 0], [0, 10, 0, 0, 0, 0, 0, 0, 2, 2, 2, (-1), 1, 0, 0, 0, 0, 0, 0, 0, 0, 5, 0, 0], [0, 11, 0, 0, 0, 0, 0, 0, 3, 3, 3, (-1), 1, 0, 0, 0, 0, 0, 0, 0, 0, 0, 0, 0], [0, 0, 0, 0, 0, 0, 0, 0, 4, 4, 4, (-1), 1, 0, 0, 0, 0, 0, 0, 0, 0, 1, 0, 0], [0, 12, 0, 0, 0, 0, 0, 0, 5, 5, 5, (-1), 1, 0, 0, 0, 0, 0, 0, 0, 0, 1, 0, 0], [0, 8, 0, 0, 0, 3, 0, 0, 6, 6, 6, (-1), 1, 0, 0, 0, 0, 0, 0, 0, 0, 13, 0, 0]], 1, .c (.bool true))
theorem jt21 : evF Try.prog (lookK kh20) 64 Try.f11 (argsOf jr21.1 jr21.2.1) (blkOf jr21.1) = .ret (jr21.2.2, blkOf jr21.1) := by kernel_rfl
def jr22 : Row := ([[0, 9, 0, 0, 0, 0, 0, 0, 1, 1, 1, (-1), 1, 0, 0, 0, 0, 0, 0, 0, 0, 5, 0, 0]], 1, .c (.bool false))
theorem jt22 : evF Try.prog (lookK kh20) 64 Try.f11 (argsOf jr22.1 jr22.2.1) (blkOf jr22.1) = .ret (jr22.2.2, blkOf jr22.1) := by kernel_rfl
def jr23 : Row := ([[0, 12, 0, 0, 0, 0, 0, 0, 1, 1, 1, (-1), 1, 0, 0, 0, 0, 0, 0, 0, 0, 0, 0, 0]], 1, .c (.bool false))
theorem jt23 : evF Try.prog (lookK kh20) 64 Try.f11 (argsOf jr23.1 jr23.2.1) (blkOf jr23.1) = .ret (jr23.2.2, blkOf jr23.1) := by kernel_rfl
def jr24 : Row := ([[0, 1, 20, 0, 0, 0, 0, 0, 1, 1, 1, (-1), 1, 0, 24, 0, 0, 0, 0, 0, 0, 0, 0, 0], [0, 1, 20, 0, 0, 0, 0, 0, 2, 2, 2, (-1), 1, 24, 24, 0, 0, 0, 0, 0, 0, 0, 0, 0], [0, 5, 0, 0, 0, 0, 0, 0, 3, 3, 3, (-1), 1, 0, 0, 0, 0, 0, 0, 0, 0, 0, 0, 0], [0, 5, 0, 0, 0, 0, 0, 0, 4, 4, 3, (-1), 1, 0, 0, 0, 0, 0, 0, 0, 0, 13, 0, 0]], 2, .c (.bool false))
theorem jt24 : evF Try.prog (lookK kh20) 64 Try.f11 (argsOf jr24.1 jr24.2.1) (blkOf jr24.1) = .ret (jr24.2.2, blkOf jr24.1) := by kernel_rfl
def jr25 : Row := ([[0, 1, 20, 0, 0, 0, 0, 0, 1, 1, 1, (-1), 1, 0, 24, 0, 0, 0, 0, 0, 0, 0, 0, 0], [0, 1, 20, 0, 0, 0, 0, 0, 2, 2, 2, (-1), 1, 24, 24, 0, 0, 0, 0, 0, 0, 0, 0, 0], [0, 5, 0, 0, 0, 0, 0, 0, 3, 3, 3, (-1), 1, 0, 0, 0, 0, 0, 0, 0, 0, 0, 0, 0], [0, 5, 0, 0, 0, 0, 0, 0, 4, 4, 5, (-1), 1, 0, 0, 0, 0, 0, 0, 0, 0, 13, 0, 0]], 2, .c (.bool false))
theorem jt25 : evF Try.prog (lookK kh20) 64 Try.f11 (argsOf jr25.1 jr25.2.1) (blkOf jr25.1) = .ret (jr25.2.2, blkOf jr25.1) := by kernel_rfl
def jr26 : Row := ([[0, 1, 20, 0, 0, 0, 0, 0, 1, 1, 1, (-1), 1, 0, 24, 0, 0, 0, 0, 0, 0, 0, 0, 0], [0, 1, 20, 0, 0, 0, 0, 0, 2, 2, 2, (-1), 1, 24, 24, 0, 0, 0, 0, 0, 0, 0, 0, 0], [0, 5, 0, 0, 0, 0, 0, 0, 3, 3, 3, (-1), 1, 0, 0, 0, 0, 0, 0, 0, 0, 0, 0, 0], [0, 5, 0, 0, 0, 0, 0, 0, 4, 4, 5, (-1), 0, 0, 0, 0, 0, 0, 0, 0, 0, 13, 0, 0]], 2, .c (.bool true))
theorem jt26 : evF Try.prog (lookK kh20) 64 Try.f11 (argsOf jr26.1 jr26.2.1) (blkOf jr26.1) = .ret (jr26.2.2, blkOf jr26.1) := by kernel_rfl
def jr27 : Row := ([[0, 1, 20, 0, 0, 0, 0, 0, 1, 1, 1, (-1), 1, 0, 24, 0, 0, 0, 0, 0, 0, 0, 0, 0], [0, 1, 20, 0, 0, 0, 0, 0, 2, 2, 2, (-1), 1, 24, 24, 0, 0, 0, 0, 0, 0, 0, 0, 0], [0, 5, 0, 0, 0, 0, 0, 0, 3, 3, 3, (-1), 1, 0, 0, 0, 0, 0, 0, 0, 0, 0, 0, 0], [0, 5, 0, 0, 0, 0, 0, 0, 4, 4, 0, (-1), 0, 0, 0, 0, 0, 0, 0, 0, 0, 13, 0, 0]], 2, .c (.bool true))
theorem jt27 : evF Try.prog (lookK kh20) 64 Try.f11 (argsOf jr27.1 jr27.2.1) (blkOf jr27.1) = .ret (jr27.2.2, blkOf jr27.1) := by kernel_rfl
def jr28 : Row := ([[0, 1, 20, 0, 0, 0, 0, 0, 1, 1, 1, (-1), 1, 0, 24, 0, 0, 0, 0, 0, 0, 0, 0, 0], [0, 1, 20, 0, 0, 0, 0, 0, 2, 2, 2, (-1), 1, 24, 24, 0, 0, 0, 0, 0, 0, 0, 0, 0], [0, 5, 0, 0, 0, 0, 0, 0, 3, 3, 3, (-1), 1, 0, 0, 0, 0, 0, 0, 0, 0, 0, 0, 0], [0, 5, 0, 0, 0, 0, 0, 0, 4, 4, 0, (-1), 1, 0, 0, 0, 0, 0, 0, 0, 0, 13, 0, 0]], 2, .c (.bool false))
theorem jt28 : evF Try.prog (lookK kh20) 64 Try.f11 (argsOf jr28.1 jr28.2.1) (blkOf jr28.1) = .ret (jr28.2.2, blkOf jr28.1) := by kernel_rfl
def jT : List Row := [jr0, jr1, jr2, jr3, jr4, jr5, jr6, jr7, jr8, jr9, jr10, jr11, jr12, jr13, jr14, jr15, jr16, jr17, jr18, jr19, jr20, jr21, jr22, jr23, jr24, jr25, jr26, jr27, jr28]
theorem s_jT : SoundF NP 11 (tabS jT) := by
  refine sound_tab (sound_in s_kh20 64 Try.func11 (by kernel_rfl) (by kernel_rfl)) fun x hx => ?_
  simp only [jT, List.mem_cons, List.not_mem_nil, or_false] at hx
  rcases hx with rfl | rfl | rfl | rfl | rfl | rfl | rfl | rfl | rfl | rfl | rfl | rfl | rfl | rfl | rfl | rfl | rfl | rfl | rfl | rfl | rfl | rfl | rfl | rfl | rfl | rfl | rfl | rfl | rfl
  · exact jt0
  · exact jt1
  · exact jt2
  · exact jt3
  · exact jt4
  · exact jt5
  · exact jt6
  · exact jt7
  · exact jt8
  · exact jt9
  · exact jt10
  · exact jt11
  · exact jt12
  · exact jt13
  · exact jt14
  · exact jt15
  · exact jt16
  · exact jt17
  · exact jt18
  · exact jt19
  · exact jt20
  · exact jt21
  · exact jt22
  · exact jt23
  · exact jt24
  · exact jt25
  · exact jt26
  · exact jt27
  · exact jt28
def br0 : Row := ([[0, 1, 20, 0, 0, 0, 0, 0, 1, 1, 1, (-1), 1, 0, 24, 0, 0, 0, 0, 0, 0, 0, 0, 0], [0, 7, 0, 0, 0, 0, 3, 7, 2, 4, 2, 4, 1, 0, 0, 0, 0, 0, 0, 0, 0, 0, 0, 0], [0, 8, 0, 0, 0, 0, 3, 0, 3, 5, 3, 5, 1, 0, 0, 7, 0, 0, 0, 0, 0, 0, 0, 0], [0, 8, 0, 0, 0, 0, 2, 0, 6, 7, 6, 7, 1, 0, 0, 99, 0, 0, 0, 0, 0, 0, 0, 0], [0, 4, 40, 0, 0, 0, 0, 0, 30, 30, 30, (-1), 1, 64, 64, 0, 0, 0, 0, 0, 0, 0, 0, 0], [0, 8, 0, 0, 0, 64, 3, 0, 31, 32, 31, 32, 1, 0, 0, 7, 0, 0, 0, 0, 0, 0, 0, 0], [0, 8, 0, 0, 0, 64, 39, 0, 33, 34, 33, 34, 1, 0, 0, 5, 0, 0, 0, 0, 0, 0, 0, 0]], 2, .tup [.c (.bool true), .c (.bool true)])
theorem bt0 : evF Try.prog (lookK kh28) 64 Try.f15 (argsOf br0.1 br0.2.1) (blkOf br0.1) = .ret (br0.2.2, blkOf br0.1) := by kernel_rfl
def br1 : Row := ([[0, 1, 20, 0, 0, 0, 0, 0, 1, 1, 1, (-1), 1, 0, 24, 0, 0, 0, 0, 0, 0, 0, 0, 0], [0, 7, 0, 0, 0, 0, 3, 7, 2, 4, 2, 4, 1, 0, 0, 0, 0, 0, 0, 0, 0, 0, 0, 0], [0, 8, 0, 0, 0, 0, 3, 0, 3, 5, 3, 5, 1, 0, 0, 8, 0, 0, 0, 0, 0, 0, 0, 0], [0, 8, 0, 0, 0, 0, 2, 0, 6, 7, 6, 7, 1, 0, 0, 99, 0, 0, 0, 0, 0, 0, 0, 0], [0, 4, 40, 0, 0, 0, 0, 0, 30, 30, 30, (-1), 1, 64, 64, 0, 0, 0, 0, 0, 0, 0, 0, 0], [0, 8, 0, 0, 0, 64, 3, 0, 31, 32, 31, 32, 1, 0, 0, 7, 0, 0, 0, 0, 0, 0, 0, 0], [0, 8, 0, 0, 0, 64, 39, 0, 33, 34, 33, 34, 1, 0, 0, 5, 0, 0, 0, 0, 0, 0, 0, 0]], 2, .tup [.c (.bool false), .c (.bool true)])
theorem bt1 : evF Try.prog (lookK kh28) 64 Try.f15 (argsOf br1.1 br1.2.1) (blkOf br1.1) = .ret (br1.2.2, blkOf br1.1) := by kernel_rfl
def br2 : Row := ([[0, 1, 20, 0, 0, 0, 0, 0, 1, 1, 1, (-1), 1, 0, 24, 0, 0, 0, 0, 0, 0, 0, 0, 0], [0, 7, 0, 0, 0, 0, 3, 7, 2, 4, 2, 4, 1, 0, 0, 0, 0, 0, 0, 0, 0, 0, 0, 0], [0, 8, 0, 0, 0, 0, 3, 0, 3, 5, 3, 5, 1, 0, 0, 7, 0, 0, 0, 0, 0, 0, 0, 0], [0, 8, 0, 0, 0, 0, 2, 0, 6, 7, 6, 7, 1, 0, 0, 99, 0, 0, 0, 0, 0, 0, 0, 0], [0, 4, 40, 0, 0, 0, 0, 0, 5, 30, 30, (-1), 1, 64, 64, 0, 0, 0, 0, 0, 0, 0, 0, 0], [0, 8, 0, 0, 0, 64, 3, 0, 31, 32, 31, 32, 1, 0, 0, 7, 0, 0, 0, 0, 0, 0, 0, 0], [0, 8, 0, 0, 0, 64, 39, 0, 33, 34, 33, 34, 1, 0, 0, 5, 0, 0, 0, 0, 0, 0, 0, 0]], 2, .tup [.c (.bool false), .c (.bool false)])
theorem bt2 : evF Try.prog (lookK kh28) 64 Try.f15 (argsOf br2.1 br2.2.1) (blkOf br2.1) = .ret (br2.2.2, blkOf br2.1) := by kernel_rfl
def br3 : Row := ([[0, 2, 3, 3, 0, 0, 0, 0, 1, 1, 1, (-1), 1, 0, 16, 0, 0, 0, 0, 0, 0, 0, 0, 0], [0, 8, 0, 0, 0, 0, 8, 0, 2, 3, 2, 3, 1, 0, 0, 0, 0, 0, 0, 0, 0, 0, 0, 0]], 1, .tup [.c (.bool true), .c (.bool true)])
theorem bt3 : evF Try.prog (lookK kh28) 64 Try.f15 (argsOf br3.1 br3.2.1) (blkOf br3.1) = .ret (br3.2.2, blkOf br3.1) := by kernel_rfl
def br4 : Row := ([[0, 2, 3, 3, 0, 0, 0, 0, 1, 1, 1, (-1), 1, 0, 16, 0, 0, 0, 0, 0, 0, 0, 0, 0], [0, 8, 0, 0, 0, 0, 8, 0, 2, 3, 2, 3, 1, 0, 0, 1, 0, 0, 0, 0, 0, 0, 0, 0]], 1, .tup [.c (.bool false), .c (.bool true)])
theorem bt4 : evF Try.prog (lookK kh28) 64 Try.f15 (argsOf br4.1 br4.2.1) (blkOf br4.1) = .ret (br4.2.2, blkOf br4.1) := by kernel_rfl
def br5 : Row := ([[0, 2, 3, 3, 0, 0, 0, 0, 1, 1, 1, (-1), 1, 0, 16, 0, 0, 0, 0, 0, 0, 0, 0, 0], [0, 8, 0, 0, 0, 0, 8, 0, 2, 3, 2, 3, 1, 0, 0, 1, 0, 0, 0, 0, 0, 0, 0, 0]], 0, .tup [.c (.bool false), .c (.bool false)])
theorem bt5 : evF Try.prog (lookK kh28) 64 Try.f15 (argsOf br5.1 br5.2.1) (blkOf br5.1) = .ret (br5.2.2, blkOf br5.1) := by kernel_rfl
def bT : List Row := [br0, br1, br2, br3, br4, br5]
theorem s_bT : SoundF NP 15 (tabS bT) := by
  refine sound_tab (sound_in s_kh28 64 Try.func15 (by kernel_rfl) (by kernel_rfl)) fun x hx => ?_
  simp only [bT, List.mem_cons, List.not_mem_nil, or_false] at hx
  rcases hx with rfl | rfl | rfl | rfl | rfl | rfl
  · exact bt0
  · exact bt1
  · exact bt2
  · exact bt3
  · exact bt4
  · exact bt5
end Go.Proofs.Ytjcdojcbdfblbaa
