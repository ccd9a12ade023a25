/- package class. -/
import Derived.Test.YtaegelbaghaooaaGreatProg
import Derived.Test.YtaegelbaghaooaaGreatLib
import Derived.WalkSpells
import Derived.WalkLawsBesides
import Derived.Lib.Hide
import Derived.OwnWalk
import Derived.Laws.AppendOwn
namespace Go.Proofs.YtaegelbaghaooaaGreat
open Go.RowKit
def powB (n : Int) : Bool := decide (0 < n) && (bits BinOp.and IntKind.i64 n (wrap64 (n - 1)) == 0)
theorem cpower_any (n : Int) (w : World) : Calls Tryz.prog 153 #[.int .i64 n] w fun e w' => e = .returned (.bool (powB n)) ∧ w = w' := by
  unfold powB
  by_cases h : 0 < n
  · rw [show decide (0 < n) = true by simpa using h, Bool.true_and]
    go_enter Tryz.func153, Tryz.ntmps153
    go_wp2
    go_ret
    exact ⟨rfl, rfl⟩
  · rw [show decide (0 < n) = false by simpa using h, Bool.false_and]
    go_enter Tryz.func153, Tryz.ntmps153
    go_wp2
    go_ret
    exact ⟨rfl, rfl⟩
def pagesV (n : Int) : Int := if n < 1 then 0 else (n - 1) / 64 + 1
theorem cpages_any (n : Int) (w : World) (h : n ≤ 9223372036854775807) : Calls Tryz.prog 78 #[.int .i64 n] w fun e w' => e = .returned (.int .i64 (pagesV n)) ∧ w = w' := by
  unfold pagesV
  by_cases h1 : n < 1
  · rw [if_pos h1]
    go_enter Tryz.func78, Tryz.ntmps78
    go_wp2
    go_ret
    exact ⟨rfl, rfl⟩
  · rw [if_neg h1]
    have hd : Int.tdiv (n - 1) 64 = (n - 1) / 64 := Int.tdiv_eq_ediv_of_nonneg (by omega)
    have hw : wrap64 ((n - 1) / 64 + 1) = (n - 1) / 64 + 1 := IntWalk.wrap64_in _ (by omega)
    go_enter Tryz.func78, Tryz.ntmps78
    go_wp2
    go_ret
    exact ⟨rfl, rfl⟩
/-- the table's cells. -/
def tableCells : List Value := [.int .i64 8, .int .i64 8, .int .i64 8, .int .i64 16, .int .i64 16, .int .i64 4, .int .i64 24, .int .i64 8, .int .i64 2, .int .i64 32, .int .i64 32, .int .i64 2]
theorem Tryz.info_class : (Tryz.prog.info? 135).map (fun i => (i.zero, i.size, i.bytes)) = some (some (.agg #[.int .i64 0, .int .i64 0, .int .i64 0]), 3, 24) := by kernel_rfl
def clsCells (k : Nat) : List Value := (tableCells.drop (3 * k)).take 3
theorem table_oneCell : ∀ v ∈ tableCells, v.oneCell' = true := by
  intro v hv
  simp only [tableCells, List.mem_cons, List.mem_nil_iff, or_false] at hv
  rcases hv with h | h | h | h | h | h | h | h | h | h | h | h <;> subst h <;> rfl
set_option maxRecDepth 100000 in
set_option maxHeartbeats 1000000 in
theorem make_any (g : Nat) (w : World) (hg : g < w.heap.size) (h0 : w.cell? ⟨g, 0, none⟩ = some (.int .i64 8)) (h1 : w.cell? ⟨g, 1, none⟩ = some (.int .i64 16)) (h2 : w.cell? ⟨g, 2, none⟩ = some (.int .i64 24)) (h3 : w.cell? ⟨g, 3, none⟩ = some (.int .i64 32)) :
    Calls Tryz.prog 160 #[.slice (some ⟨g, 0, none⟩) 4 4] w fun e w' => ∃ v, e = .returned v ∧ w'.ownsRow w.heap.size 135 3 v 4 tableCells ∧ Below w.heap.size w w' := by
  obtain ⟨i0, hi, hz0, hz1, hz2⟩ := info_parts Tryz.info_class
  have HZ0 := Lib.hid hz0
  clear hz0
  have HC := Lib.hid (And.intro h0 (And.intro h1 (And.intro h2 h3)))
  clear h0 h1 h2 h3
  go_enter Tryz.func160, Tryz.ntmps160
  go_wp2
  go_loopw [3, 8] (fun v i wr => ∃ k : Nat, k ≤ 4 ∧ i = .int .i64 k ∧ wr.ownsRow w.heap.size 135 3 v k (tableCells.take (3 * k)) ∧ Below w.heap.size w wr) (fun _ i _ => 4 - (intOf i).toNat)
  case atStart => exact ⟨0, Nat.zero_le _, rfl, ⟨rfl, .inl ⟨rfl, rfl⟩⟩, Below.refl _ _⟩
  case round =>
    obtain ⟨k, hk, rfl, hown, hbel⟩ := hrel
    have hbs := hbel.size
    obtain ⟨h0, h1, h2, h3⟩ := HC.out
    have c0 := (hbel.cell (p := ⟨g, 0, none⟩) hg).trans h0
    have c1 := (hbel.cell (p := ⟨g, 1, none⟩) hg).trans h1
    have c2 := (hbel.cell (p := ⟨g, 2, none⟩) hg).trans h2
    have c3 := (hbel.cell (p := ⟨g, 3, none⟩) hg).trans h3
    clear h0 h1 h2 h3
    have b0 : bits BinOp.and IntKind.i64 8 (-8) = 8 := by kernel_rfl
    have b1 : bits BinOp.and IntKind.i64 16 (-16) = 16 := by kernel_rfl
    have b2 : bits BinOp.and IntKind.i64 24 (-24) = 8 := by kernel_rfl
    have b3 : bits BinOp.and IntKind.i64 32 (-32) = 32 := by kernel_rfl
    rcases (show k = 0 ∨ k = 1 ∨ k = 2 ∨ k = 3 ∨ k = 4 by omega) with rfl | rfl | rfl | rfl | rfl
    · clear c1 b1 c2 b2 c3 b3
      go_wp2_with (first
        | (at_builtin; refine wpList_append_own _ rfl _ _ 225 rfl w.heap.size 135 i0 _ 3 24 Tryz.underlying225 hi HZ0.out hz1 hz2 rfl (by decide) _ _ _ rfl (hown.alloc _) _ 1 1 (clsCells 0) rfl rfl ?q1_0 ?q2_0 ?q3_0 ?q4_0 ?q5_0 ?_))
      case q1_0 => exact cells_new _ _ _
      case q2_0 => exact fun v hv => table_oneCell v (List.mem_of_mem_drop (List.mem_of_mem_take hv))
      case q3_0 => decide
      case q4_0 => decide
      case q5_0 => simp; omega
      intro v' w1 hown1 hgrow _
      have hown2 : w1.ownsRow w.heap.size 135 3 v' 1 (tableCells.take (3 * 1)) := hown1
      have hb2 : Below w.heap.size w w1 := (hbel.alloc hbs _).grown hgrow (by simp; omega) (fun g hg => (hown.lt g hg).1)
      clear hown1 hgrow hown hbel
      go_wp2
      go_roundw
      case rel => exact ⟨1, by omega, by go_num, hown2, hb2⟩
      case measure => simp [intOf]
    · clear c0 b0 c2 b2 c3 b3
      go_wp2_with (first
        | (at_builtin; refine wpList_append_own _ rfl _ _ 225 rfl w.heap.size 135 i0 _ 3 24 Tryz.underlying225 hi HZ0.out hz1 hz2 rfl (by decide) _ _ _ rfl (hown.alloc _) _ 1 1 (clsCells 1) rfl rfl ?q1_1 ?q2_1 ?q3_1 ?q4_1 ?q5_1 ?_))
      case q1_1 => exact cells_new _ _ _
      case q2_1 => exact fun v hv => table_oneCell v (List.mem_of_mem_drop (List.mem_of_mem_take hv))
      case q3_1 => decide
      case q4_1 => decide
      case q5_1 => simp; omega
      intro v' w1 hown1 hgrow _
      have hown2 : w1.ownsRow w.heap.size 135 3 v' 2 (tableCells.take (3 * 2)) := hown1
      have hb2 : Below w.heap.size w w1 := (hbel.alloc hbs _).grown hgrow (by simp; omega) (fun g hg => (hown.lt g hg).1)
      clear hown1 hgrow hown hbel
      go_wp2
      go_roundw
      case rel => exact ⟨2, by omega, by go_num, hown2, hb2⟩
      case measure => simp [intOf]
    · clear c0 b0 c1 b1 c3 b3
      go_wp2_with (first
        | (at_builtin; refine wpList_append_own _ rfl _ _ 225 rfl w.heap.size 135 i0 _ 3 24 Tryz.underlying225 hi HZ0.out hz1 hz2 rfl (by decide) _ _ _ rfl (hown.alloc _) _ 1 1 (clsCells 2) rfl rfl ?q1_2 ?q2_2 ?q3_2 ?q4_2 ?q5_2 ?_))
      case q1_2 => exact cells_new _ _ _
      case q2_2 => exact fun v hv => table_oneCell v (List.mem_of_mem_drop (List.mem_of_mem_take hv))
      case q3_2 => decide
      case q4_2 => decide
      case q5_2 => simp; omega
      intro v' w1 hown1 hgrow _
      have hown2 : w1.ownsRow w.heap.size 135 3 v' 3 (tableCells.take (3 * 3)) := hown1
      have hb2 : Below w.heap.size w w1 := (hbel.alloc hbs _).grown hgrow (by simp; omega) (fun g hg => (hown.lt g hg).1)
      clear hown1 hgrow hown hbel
      go_wp2
      go_roundw
      case rel => exact ⟨3, by omega, by go_num, hown2, hb2⟩
      case measure => simp [intOf]
    · clear c0 b0 c1 b1 c2 b2
      go_wp2_with (first
        | (at_builtin; refine wpList_append_own _ rfl _ _ 225 rfl w.heap.size 135 i0 _ 3 24 Tryz.underlying225 hi HZ0.out hz1 hz2 rfl (by decide) _ _ _ rfl (hown.alloc _) _ 1 1 (clsCells 3) rfl rfl ?q1_3 ?q2_3 ?q3_3 ?q4_3 ?q5_3 ?_))
      case q1_3 => exact cells_new _ _ _
      case q2_3 => exact fun v hv => table_oneCell v (List.mem_of_mem_drop (List.mem_of_mem_take hv))
      case q3_3 => decide
      case q4_3 => decide
      case q5_3 => simp; omega
      intro v' w1 hown1 hgrow _
      have hown2 : w1.ownsRow w.heap.size 135 3 v' 4 (tableCells.take (3 * 4)) := hown1
      have hb2 : Below w.heap.size w w1 := (hbel.alloc hbs _).grown hgrow (by simp; omega) (fun g hg => (hown.lt g hg).1)
      clear hown1 hgrow hown hbel
      go_wp2
      go_roundw
      case rel => exact ⟨4, by omega, by go_num, hown2, hb2⟩
      case measure => simp [intOf]
    · go_wp2
      go_ret
      exact ⟨_, rfl, hown, hbel⟩
theorem Tryz.size_table : (Tryz.prog.info? 136).map (·.size) = some 12 := by kernel_rfl
def zero12 : Array Value := #[.int .i64 0, .int .i64 0, .int .i64 0, .int .i64 0, .int .i64 0, .int .i64 0, .int .i64 0, .int .i64 0, .int .i64 0, .int .i64 0, .int .i64 0, .int .i64 0]
theorem results_cell {P : Program} {fn : Func} {p : Tmp} {ty : TypeId} {tmps : Array Value} {w : World} {b : Nat} {v : Value} (h : fn.results = #[.cell p ty]) (hp : tmps.getD p undef = .pointer (some ⟨b, 0, none⟩)) (hl : (loadVar ty ⟨b, 0, none⟩).run P w = .ok v w) :
    (results fn tmps).run P w = .ok v w := by
  have hp' : tmps[p]?.getD undef = .pointer (some ⟨b, 0, none⟩) := by simpa using hp
  simp [results, h, hp', asAddr, hl]
theorem below_setCells {B : Nat} {a : World} {b : Nat} (hb : B ≤ b) : ∀ (vs : List Value) (o : Nat) {w : World}, Below B a w → Below B a (w.setCells b o vs)
  | [], _, _, h => h
  | v :: vs, o, _, h => below_setCells hb vs (o + 1) (h.setCell (p := ⟨b, o, none⟩) hb v)
theorem Tryz.arrayAt_table (g cap : Nat) (w : World) : (Instr.arrayAt 136 (.slice (some ⟨g, 0, none⟩) 4 cap)).run Tryz.prog w = .ok (.pointer (some ⟨g, 0, none⟩)) w := by kernel_rfl
set_option maxRecDepth 100000 in
theorem table_any (w : World) : Calls Tryz.prog 77 #[] w fun e w' => e = .returned (.agg tableCells.toArray) ∧ Below w.heap.size w w' := by
  have hmk := make_any (w.heap.size + 1) ((w.alloc (.cells zero12 136)).alloc (.cells #[.int .i64 8, .int .i64 16, .int .i64 24, .int .i64 32] 3)) (by simp) (by simp) (by simp) (by simp) (by simp)
  have hlen : tableCells.length = 12 := rfl
  have hone := table_oneCell
  generalize tableCells = T at hmk hlen hone ⊢
  have HM := Lib.hid hmk
  have HONE := Lib.hid hone
  have hsize : (Tryz.prog.info? 136).map (·.size) = some T.length := by rw [hlen]; exact Tryz.size_table
  have hsize2 : (Tryz.prog.info? 136).map (·.size) = some T.toArray.size := hsize
  have HSZ := Lib.hid hsize
  have HSZ2 := Lib.hid hsize2
  have HLN := Lib.hid hlen
  clear hmk hsize hsize2 hone hlen
  go_enter Tryz.func77, Tryz.ntmps77
  go_wp2_with fail
  refine HM.out.mono ?_
  rintro e w1 ⟨v, rfl, hown, hb⟩
  clear HM
  rcases hown.2 with ⟨rfl, h0⟩ | ⟨g, cap, cur, rfl, hbase, hb', h1, h2, h3, h4⟩
  · omega
  · have hr : w1.rangeAt g 0 T := fun j u hu => by
      rw [Nat.zero_add, cell_of_row w1 g _ cur _ (0, 0) hb', ← Array.getElem?_toList]
      have hlt : j < 4 * 3 := by have := (List.getElem?_eq_some_iff.1 hu).1; rw [HLN.out] at this; exact this
      rw [← List.getElem?_take_of_lt hlt, h4]
      exact hu
    have hblk : w1.heap[w.heap.size]? = some (.cells zero12 136) := by
      rw [hb.block w.heap.size (by simp; omega), Below.heap_alloc _ _ _ (by simp)]
      exact heap_alloc_last _ _
    have hth : w1.there w.heap.size 0 T.length := fun j hj => by
      rw [HLN.out] at hj
      have hz : zero12[j]? = some (.int .i64 0) := by
        rcases (show j = 0 ∨ j = 1 ∨ j = 2 ∨ j = 3 ∨ j = 4 ∨ j = 5 ∨ j = 6 ∨ j = 7 ∨ j = 8 ∨ j = 9 ∨ j = 10 ∨ j = 11 by omega) with h | h | h | h | h | h | h | h | h | h | h | h <;> subst h <;> rfl
      constructor
      · rw [Nat.zero_add, cell_of_row w1 _ _ _ _ _ hblk, hz]; rfl
      · simp [World.frozen?, hblk]
    have hret := run_loadVar_mid (P := Tryz.prog) (w1.setCells w.heap.size 0 T) w.heap.size 0 136 T _ (World.rangeAt_setCells_same w1 _ _ _ hth) Tryz.underlying136 rfl HSZ.out
    have hbb : Below w.heap.size w (w1.setCells w.heap.size 0 T) := below_setCells (Nat.le_refl _) _ _ ((((Below.refl _ w).alloc (Nat.le_refl _) _).alloc (by simp) _).trans (hb.mono (by simp; omega)))
    have HR := Lib.hid hr
    have HT := Lib.hid hth
    clear hr hth hb hown hblk h3 h4 hb'
    have hcap : 4 ≤ cap := h1
    have harr := Tryz.arrayAt_table g cap w1
    go_wp2_with (first
      | (refine wpList_load_mid rfl 136 (.tmp 3) rfl g 0 rfl T _ HR.out Tryz.underlying136 rfl HSZ.out ?_)
      | (refine wpList_store_mid rfl 136 (.tmp 0) (.tmp 4) rfl w.heap.size 0 T.toArray rfl rfl HT.out HSZ2.out (all_oneCell_toArray HONE.out) ?_))
    refine bodyPost_ret (results_cell (b := w.heap.size) rfl rfl hret) rfl ?_
    exact ⟨rfl, hbb⟩
end Go.Proofs.YtaegelbaghaooaaGreat
