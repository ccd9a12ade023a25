/- heap.taken: the events that took effect, by their steps, stably. -/
import Derived.Test.YtoaaoggggjjbaaaStableTopE
import Derived.Test.YtoaaoggggjjbaaaEvSort
import Derived.Test.YtoaaoggggjjbaaaEvents
import Derived.Test.YtoaaoggggjjbaaaLib
import Derived.Test.YtoaaoggggjjbaaaShelf
import Derived.Deep.AppendLies
namespace Go.Proofs.Ytoaaoggggjjbaaa
open Go.RowKit Go.Deep Go.Sort Go.Lib
theorem Try.info_event : (Try.prog.info? 35).map (fun i => (i.zero, i.size, i.bytes)) = some (some (.agg #[.int .i64 0, .int .u8 0, .int .i64 0, .int .i64 0, .int .i64 0, .int .i64 0, .int .i64 0, .int .u8 0, .int .i64 0, .int .i64 0, .int .i64 0, .int .i64 0, .bool false, .int .i64 0, .int .i64 0, .int .u8 0, .int .u64 0, .int .u64 0, .int .u64 0, .int .u64 0, .int .u64 0, .int .i64 0, .int .i64 0, .int .i64 0]), 24, 192) := by kernel_rfl
theorem Try.size_event : (Try.prog.info? 35).map (·.size) = some 24 := by kernel_rfl
theorem Try.zero_event : (Try.prog.info? 35).map (fun i => (i.zero, i.size)) = some (some (.agg #[.int .i64 0, .int .u8 0, .int .i64 0, .int .i64 0, .int .i64 0, .int .i64 0, .int .i64 0, .int .u8 0, .int .i64 0, .int .i64 0, .int .i64 0, .int .i64 0, .bool false, .int .i64 0, .int .i64 0, .int .u8 0, .int .u64 0, .int .u64 0, .int .u64 0, .int .u64 0, .int .u64 0, .int .i64 0, .int .i64 0, .int .i64 0]), 24) := by kernel_rfl
theorem cmp_neg (x y : Int) : compareInt x y < 0 ↔ x < y := by unfold compareInt; split <;> (try split) <;> omega
/-- taken's comparison. -/
theorem taken1_any (x y : Ev) (w : World) : Calls Try.prog 44 #[.agg x.cells.toArray, .agg y.cells.toArray] w fun e w' =>
    e = .returned (.int .i64 (compareInt x.lin y.lin)) ∧ w' = (w.alloc (.cells x.cells.toArray 35)).alloc (.cells y.cells.toArray 35) := by
  have c1 : x.cells[10]? = some (.int .i64 x.lin) := rfl
  have c2 : y.cells[10]? = some (.int .i64 y.lin) := rfl
  go_enter Try.func44, Try.ntmps44
  go_wp2_with fail
  refine (Try.cmp_Compare_int x.lin y.lin _).mono ?_
  rintro e w' ⟨rfl, hw⟩
  subst hw
  clear c1 c2
  go_wp2
  go_ret
  exact ⟨rfl, rfl⟩
def takenF (es : List Ev) (step : Int) : List Ev := es.filter fun e => decide (1 ≤ e.lin) && decide (e.lin ≤ step)
def takenV (es : List Ev) (step : Int) : List Ev := St.ssort Ev.lin (takenF es step)
theorem takenF_length (es : List Ev) (step : Int) : (takenF es step).length ≤ es.length := List.length_filter_le _ _
theorem takenF_snoc (es : List Ev) (e : Ev) (step : Int) : takenF (es ++ [e]) step = takenF es step ++ (if decide (1 ≤ e.lin) && decide (e.lin ≤ step) then [e] else []) := by
  unfold takenF
  rw [List.filter_append]
  by_cases h : (decide (1 ≤ e.lin) && decide (e.lin ≤ step)) = true <;> simp [h]
/-- a slice of the call's own is returned. -/
def RetRow (w : World) (t : TypeId) (k n : Nat) (xs : List Value) (e : Ending) (w' : World) : Prop := ∃ v, e = .returned v ∧ w'.ownsRow w.heap.size t k v n xs ∧ Below w.heap.size w w'
open St in
/-- the sort of an owned row of events. -/
theorem sort_events (v : Value) (base : Nat) (L : List Ev) (w : World) (hown : w.ownsRow base 35 24 v L.length (L.flatMap Ev.cells)) (hl : L.length ≤ 1000000) :
    Calls Try.prog 43 #[v, .func (.func 44) #[] #[]] w fun e w' =>
      e = .returned (.tuple #[]) ∧ w'.ownsRow base 35 24 v L.length ((ssort Ev.lin L).flatMap Ev.cells) ∧ w.grownBy w' v.ownBlock := by
  rcases hown.2 with ⟨rfl, h0⟩ | ⟨g, cap, cur, rfl, hbase, hb, h1, h2, h3, h4⟩
  · have : L = [] := List.eq_nil_of_length_eq_zero h0
    subst this
    refine (sortStable_none _ _ _ w).mono ?_
    rintro e w' ⟨rfl, rfl⟩
    exact ⟨rfl, hown, World.grownBy.refl _ _⟩
  · have R := row_of_own (enc := Ev.cells) (k := 24) Ev.cells_length Ev.oneCell hb rfl h4
    refine (sortStable (enc := Ev.cells) Ev.lin (fun x y => compareInt x.lin y.lin) (fun x y => cmp_neg _ _) 44 #[] (enters_of Try.func44 (by kernel_rfl) rfl) cap L.length L rfl w R ?_ (by omega)).mono ?_
    · intro m os dk _ x y
      refine (taken1_any x y _).mono ?_
      rintro e w' ⟨rfl, rfl⟩
      exact ⟨rfl, 0, #[_, _], by rw [alloc_eq_grow, alloc_eq_grow, grow_grow]; rfl⟩
    · rintro e w' ⟨rfl, S⟩
      obtain ⟨h5, h6⟩ := own_of_swk (enc := Ev.cells) (k := 24) Ev.cells_length hbase hb (length_ssort Ev.lin L) h1 h2 h3 S
      exact ⟨rfl, h5, h6⟩
set_option maxHeartbeats 1000000 in
set_option maxRecDepth 100000 in
theorem taken_any (A : Option Addr) (n c : Nat) (es : List Ev) (step : Int) (w : World) (hE : EvRow w w.heap.size A n c es) (hn : n ≤ 1000) :
    Calls Try.prog 27 #[.slice A n c, .int .i64 step] w (RetRow w 35 24 (takenV es step).length ((takenV es step).flatMap Ev.cells)) := by
  obtain ⟨i0, hi, hz0, hz1, hz2⟩ := info_parts Try.info_event
  have HZ0 := Lib.hid hz0
  clear hz0
  have hlen := hE.1
  have HL := Lib.hid hlen
  clear hlen
  go_enter Try.func27, Try.ntmps27
  go_wp2
  go_loopw [5, 10] (fun v i wr => ∃ k : Nat, k ≤ n ∧ i = .int .i64 k ∧ wr.ownsRow w.heap.size 35 24 v (takenF (es.take k) step).length ((takenF (es.take k) step).flatMap Ev.cells) ∧ Below w.heap.size w wr) (fun _ i _ => n - (intOf i).toNat)
  case atStart => exact ⟨0, Nat.zero_le _, rfl, ⟨rfl, .inl ⟨rfl, rfl⟩⟩, Below.refl _ _⟩
  case round =>
    obtain ⟨k, hk, rfl, hown, hbel⟩ := hrel
    by_cases hlt : k < n
    · obtain ⟨b, o, rfl, hb, hr⟩ := (hE.below hbel).2.2.2.2 (by omega)
      have hkl : k < es.length := by have := HL.out; omega
      have hrk := hr k es[k] (List.getElem?_eq_getElem hkl)
      have hts := List.take_succ_eq_append_getElem hkl
      have hsn := takenF_snoc (es.take k) es[k] step
      rw [← hts] at hsn
      generalize es[k] = e at hrk hsn
      have HS := Lib.hid hsn
      clear hsn hts
      have c10 : e.cells[10]? = some (.int .i64 e.lin) := rfl
      have hrl := takenF_length (es.take k) step
      have hlk : (es.take k).length ≤ k := List.length_take_le _ _
      have hbs := hbel.size
      have hnew : (wr.alloc (.cells e.cells.toArray 35)).rangeAt wr.heap.size 0 e.cells := fun j v hv => by
        rw [Nat.zero_add, cell_of_row _ _ _ _ _ _ (heap_alloc_new wr _)]
        simpa using hv
      have HNew := Lib.hid hnew
      clear hnew
      by_cases hd : 1 ≤ e.lin ∧ e.lin ≤ step
      · obtain ⟨d2, d3⟩ := hd
        have hv := HS.out
        rw [if_pos (by simp [d2, d3])] at hv
        have HV := Lib.hid hv
        clear hv HS
        go_wp2_with (first
          | (refine wpList_load_mid rfl 35 (.tmp 12) rfl b (o + k * 24) rfl e.cells _ hrk Try.underlying35 rfl Try.size_event ?_)
          | (refine wpList_load_mid rfl 35 (.tmp 7) rfl wr.heap.size 0 rfl e.cells _ HNew.out Try.underlying35 rfl Try.size_event ?_)
          | (refine wpList_store_new rfl 35 (.tmp 7) (.tmp 13) rfl wr _ e.cells.toArray rfl rfl rfl Try.size_event rfl (all_oneCell_toArray e.oneCell) ?_)
          | (refine wpList_buildSlice_one rfl 22 (.tmp 24) rfl 35 _ 24 Try.underlying22 Try.zero_event e.cells.toArray rfl rfl (by decide) (by decide) ?_)
          | (at_builtin; refine wpList_append_own _ rfl _ _ 22 rfl w.heap.size 35 i0 _ 24 192 Try.underlying22 hi HZ0.out hz1 hz2 rfl (by decide) _ _ _ rfl ((hown.alloc _).alloc _) _ 1 1 e.cells rfl rfl ?c1 ?c2 ?c3 ?c4 ?c5 ?_))
        case c1 => exact cells_new _ _ _
        case c2 => exact e.oneCell
        case c3 => unfold maxLen; omega
        case c4 => omega
        case c5 => simp; omega
        intro v' w1 hown1 hgrow _
        have hown2 : w1.ownsRow w.heap.size 35 24 v' (takenF (es.take (k + 1)) step).length ((takenF (es.take (k + 1)) step).flatMap Ev.cells) := by
          rw [HV.out]; simpa using hown1
        have hb2 : Below w.heap.size w w1 := ((hbel.alloc hbs _).alloc (by simp; omega) _).grown hgrow (by simp; omega) (fun g hg => (hown.lt g hg).1)
        clear hown1 hgrow hown hbel
        go_wp2
        go_roundw
        case rel => exact ⟨k + 1, by omega, by go_num, hown2, hb2⟩
        case measure => simp [intOf]; omega
      · have hv : takenF (es.take (k + 1)) step = takenF (es.take k) step := by
          rw [HS.out, if_neg (by simp only [Bool.and_eq_true, decide_eq_true_eq]; exact hd), List.append_nil]
        have hown3 : (wr.alloc (.cells e.cells.toArray 35)).ownsRow w.heap.size 35 24 u5 (takenF (es.take (k + 1)) step).length ((takenF (es.take (k + 1)) step).flatMap Ev.cells) := by
          rw [hv]; exact hown.alloc _
        have hb2 : Below w.heap.size w (wr.alloc (.cells e.cells.toArray 35)) := hbel.alloc hbs _
        clear hv HS hown hbel
        rcases (show e.lin < 1 ∨ 1 ≤ e.lin ∧ step < e.lin by
          by_cases h2 : e.lin < 1
          · exact .inl h2
          · exact .inr ⟨by omega, Int.not_le.1 fun h => hd ⟨by omega, h⟩⟩) with d2 | ⟨d2, d3⟩
        all_goals
          clear hd
          go_wp2_with (first
            | (refine wpList_load_mid rfl 35 (.tmp 12) rfl b (o + k * 24) rfl e.cells _ hrk Try.underlying35 rfl Try.size_event ?_)
            | (refine wpList_store_new rfl 35 (.tmp 7) (.tmp 13) rfl wr _ e.cells.toArray rfl rfl rfl Try.size_event rfl (all_oneCell_toArray e.oneCell) ?_))
          go_roundw
          case rel => exact ⟨k + 1, by omega, by go_num, hown3, hb2⟩
          case measure => simp [intOf]; omega
    · obtain rfl : k = n := by omega
      have hall : es.take k = es := List.take_of_length_le (by rw [HL.out]; omega)
      rw [hall] at hown
      have hrl := takenF_length es step
      rw [HL.out] at hrl
      clear hall
      have hbs := hbel.size
      have HSo := Lib.hid (sort_events u5 w.heap.size (takenF es step) wr hown (by omega))
      have HLT := Lib.hid (fun g hg => (hown.lt g hg).1)
      have HB := Lib.hid hbel
      clear hown hbel
      go_wp2_with fail
      refine HSo.out.mono ?_
      rintro e w1 ⟨rfl, hown1, hg1⟩
      have hb1 : Below w.heap.size w w1 := HB.out.grown hg1 hbs HLT.out
      have hfin : w1.ownsRow w.heap.size 35 24 u5 (takenV es step).length ((takenV es step).flatMap Ev.cells) := by
        unfold takenV; rw [St.length_ssort]; exact hown1
      have HF := Lib.hid hfin
      clear HSo hown1 hg1 hfin
      go_wp2
      go_ret
      exact ⟨_, rfl, HF.out, hb1⟩
end Go.Proofs.Ytoaaoggggjjbaaa
