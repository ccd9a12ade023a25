/- class.Of. -/
import Derived.Test.YtoaaoggggjjbaaaClass
namespace Go.Proofs.Ytoaaoggggjjbaaa
open Go.RowKit
def clsSize (k : Nat) : Int := match k with | 0 => 8 | 1 => 16 | 2 => 24 | _ => 32
def clsAlign (k : Nat) : Int := match k with | 0 => 8 | 1 => 16 | 2 => 8 | _ => 32
def ofL (size align : Int) : Int :=
  if size ≤ 8 ∧ align ≤ 8 then 0 else if size ≤ 16 ∧ align ≤ 16 then 1 else if size ≤ 24 ∧ align ≤ 8 then 2 else if size ≤ 32 ∧ align ≤ 32 then 3 else -1
def ofV (size align : Int) : Int := if size < 1 ∨ powB align = false then -1 else ofL size align
theorem ofL_hit {size align : Int} {k : Nat} (hk : k < 4) (hno : ∀ j, j < k → ¬ (size ≤ clsSize j ∧ align ≤ clsAlign j)) (h : size ≤ clsSize k ∧ align ≤ clsAlign k) : ofL size align = k := by
  rcases (show k = 0 ∨ k = 1 ∨ k = 2 ∨ k = 3 by omega) with rfl | rfl | rfl | rfl
  · exact if_pos h
  · exact (if_neg (hno 0 (by omega))).trans (if_pos h)
  · exact (if_neg (hno 0 (by omega))).trans ((if_neg (hno 1 (by omega))).trans (if_pos h))
  · exact (if_neg (hno 0 (by omega))).trans ((if_neg (hno 1 (by omega))).trans ((if_neg (hno 2 (by omega))).trans (if_pos h)))
theorem ofL_none {size align : Int} (hno : ∀ j, j < 4 → ¬ (size ≤ clsSize j ∧ align ≤ clsAlign j)) : ofL size align = -1 :=
  (if_neg (hno 0 (by omega))).trans ((if_neg (hno 1 (by omega))).trans ((if_neg (hno 2 (by omega))).trans (if_neg (hno 3 (by omega)))))
theorem Try.table_at0 (w : World) : (Instr.index 112 (.agg tableCells.toArray) (.int .i64 0)).run Try.prog w = .ok (.agg #[.int .i64 8, .int .i64 8, .int .i64 8]) w := by kernel_rfl
theorem Try.table_at1 (w : World) : (Instr.index 112 (.agg tableCells.toArray) (.int .i64 1)).run Try.prog w = .ok (.agg #[.int .i64 16, .int .i64 16, .int .i64 4]) w := by kernel_rfl
theorem Try.table_at2 (w : World) : (Instr.index 112 (.agg tableCells.toArray) (.int .i64 2)).run Try.prog w = .ok (.agg #[.int .i64 24, .int .i64 8, .int .i64 2]) w := by kernel_rfl
theorem Try.table_at3 (w : World) : (Instr.index 112 (.agg tableCells.toArray) (.int .i64 3)).run Try.prog w = .ok (.agg #[.int .i64 32, .int .i64 32, .int .i64 2]) w := by kernel_rfl
set_option maxRecDepth 100000 in
set_option maxHeartbeats 1000000 in
theorem of_any (size align : Int) (w : World) : Calls Try.prog 59 #[.int .i64 size, .int .i64 align] w fun e w' => e = .returned (.int .i64 (ofV size align)) ∧ Below w.heap.size w w' := by
  unfold ofV
  by_cases h1 : size < 1
  · rw [if_pos (.inl h1)]
    go_enter Try.func59, Try.ntmps59
    go_wp2
    go_ret
    exact ⟨rfl, Below.refl _ _⟩
  · have HP := Lib.hid (cpower_any align)
    have HT := Lib.hid table_any
    cases hp : powB align
    · rw [if_pos (.inr rfl)]
      go_enter Try.func59, Try.ntmps59
      go_wp2_with fail
      refine (HP.out _).mono ?_
      rintro e w1 ⟨rfl, rfl⟩
      rw [hp]
      go_wp2
      go_ret
      exact ⟨rfl, Below.refl _ _⟩
    · rw [if_neg (by rintro (h | h); exact h1 h; cases h)]
      go_enter Try.func59, Try.ntmps59
      go_wp2_with fail
      refine (HP.out _).mono ?_
      rintro e w1 ⟨rfl, rfl⟩
      rw [hp]
      go_wp2_with fail
      refine (HT.out _).mono ?_
      rintro e w1 ⟨rfl, hb⟩
      clear HP HT hp
      have i0 := Try.table_at0
      have i1 := Try.table_at1
      have i2 := Try.table_at2
      have i3 := Try.table_at3
      go_wp2
      go_loopw [15] (fun i wr => ∃ k : Nat, k ≤ 4 ∧ i = .int .i64 k ∧ (∀ j, j < k → ¬ (size ≤ clsSize j ∧ align ≤ clsAlign j)) ∧ Below w.heap.size w wr) (fun i _ => 4 - (intOf i).toNat)
      case atStart => exact ⟨0, by omega, rfl, fun j hj => by omega, hb⟩
      case round =>
        obtain ⟨k, hk, rfl, hno, hbel⟩ := hrel
        have hbs := hbel.size
        have HN := Lib.hid hno
        clear hno
        rcases (show k = 0 ∨ k = 1 ∨ k = 2 ∨ k = 3 ∨ k = 4 by omega) with rfl | rfl | rfl | rfl | rfl
        · clear i1 i2 i3
          by_cases a1 : size ≤ 8
          · by_cases a2 : align ≤ 8
            · have hit := ofL_hit (k := 0) (by omega) HN.out ⟨a1, a2⟩
              go_wp2
              go_ret
              exact ⟨ret_int hit.symm, hbel.alloc hbs _⟩
            · have hno2 : ∀ j, j < 1 → ¬ (size ≤ clsSize j ∧ align ≤ clsAlign j) := fun j hj => by
                rcases Nat.lt_or_ge j 0 with h | h
                · exact HN.out j h
                · obtain rfl : j = 0 := by omega
                  exact fun h => a2 h.2
              go_wp2
              go_roundw
              case rel => exact ⟨1, by omega, by go_num, hno2, hbel.alloc hbs _⟩
              case measure => simp [intOf]
          · have hno2 : ∀ j, j < 1 → ¬ (size ≤ clsSize j ∧ align ≤ clsAlign j) := fun j hj => by
              rcases Nat.lt_or_ge j 0 with h | h
              · exact HN.out j h
              · obtain rfl : j = 0 := by omega
                exact fun h => a1 h.1
            go_wp2
            go_roundw
            case rel => exact ⟨1, by omega, by go_num, hno2, hbel.alloc hbs _⟩
            case measure => simp [intOf]
        · clear i0 i2 i3
          by_cases a1 : size ≤ 16
          · by_cases a2 : align ≤ 16
            · have hit := ofL_hit (k := 1) (by omega) HN.out ⟨a1, a2⟩
              go_wp2
              go_ret
              exact ⟨ret_int hit.symm, hbel.alloc hbs _⟩
            · have hno2 : ∀ j, j < 2 → ¬ (size ≤ clsSize j ∧ align ≤ clsAlign j) := fun j hj => by
                rcases Nat.lt_or_ge j 1 with h | h
                · exact HN.out j h
                · obtain rfl : j = 1 := by omega
                  exact fun h => a2 h.2
              go_wp2
              go_roundw
              case rel => exact ⟨2, by omega, by go_num, hno2, hbel.alloc hbs _⟩
              case measure => simp [intOf]
          · have hno2 : ∀ j, j < 2 → ¬ (size ≤ clsSize j ∧ align ≤ clsAlign j) := fun j hj => by
              rcases Nat.lt_or_ge j 1 with h | h
              · exact HN.out j h
              · obtain rfl : j = 1 := by omega
                exact fun h => a1 h.1
            go_wp2
            go_roundw
            case rel => exact ⟨2, by omega, by go_num, hno2, hbel.alloc hbs _⟩
            case measure => simp [intOf]
        · clear i0 i1 i3
          by_cases a1 : size ≤ 24
          · by_cases a2 : align ≤ 8
            · have hit := ofL_hit (k := 2) (by omega) HN.out ⟨a1, a2⟩
              go_wp2
              go_ret
              exact ⟨ret_int hit.symm, hbel.alloc hbs _⟩
            · have hno2 : ∀ j, j < 3 → ¬ (size ≤ clsSize j ∧ align ≤ clsAlign j) := fun j hj => by
                rcases Nat.lt_or_ge j 2 with h | h
                · exact HN.out j h
                · obtain rfl : j = 2 := by omega
                  exact fun h => a2 h.2
              go_wp2
              go_roundw
              case rel => exact ⟨3, by omega, by go_num, hno2, hbel.alloc hbs _⟩
              case measure => simp [intOf]
          · have hno2 : ∀ j, j < 3 → ¬ (size ≤ clsSize j ∧ align ≤ clsAlign j) := fun j hj => by
              rcases Nat.lt_or_ge j 2 with h | h
              · exact HN.out j h
              · obtain rfl : j = 2 := by omega
                exact fun h => a1 h.1
            go_wp2
            go_roundw
            case rel => exact ⟨3, by omega, by go_num, hno2, hbel.alloc hbs _⟩
            case measure => simp [intOf]
        · clear i0 i1 i2
          by_cases a1 : size ≤ 32
          · by_cases a2 : align ≤ 32
            · have hit := ofL_hit (k := 3) (by omega) HN.out ⟨a1, a2⟩
              go_wp2
              go_ret
              exact ⟨ret_int hit.symm, hbel.alloc hbs _⟩
            · have hno2 : ∀ j, j < 4 → ¬ (size ≤ clsSize j ∧ align ≤ clsAlign j) := fun j hj => by
                rcases Nat.lt_or_ge j 3 with h | h
                · exact HN.out j h
                · obtain rfl : j = 3 := by omega
                  exact fun h => a2 h.2
              go_wp2
              go_roundw
              case rel => exact ⟨4, by omega, by go_num, hno2, hbel.alloc hbs _⟩
              case measure => simp [intOf]
          · have hno2 : ∀ j, j < 4 → ¬ (size ≤ clsSize j ∧ align ≤ clsAlign j) := fun j hj => by
              rcases Nat.lt_or_ge j 3 with h | h
              · exact HN.out j h
              · obtain rfl : j = 3 := by omega
                exact fun h => a1 h.1
            go_wp2
            go_roundw
            case rel => exact ⟨4, by omega, by go_num, hno2, hbel.alloc hbs _⟩
            case measure => simp [intOf]
        · have hit := ofL_none HN.out
          go_wp2
          go_ret
          exact ⟨ret_int hit.symm, hbel⟩
end Go.Proofs.Ytoaaoggggjjbaaa
