/- The contract of bound.Longest. -/
import Derived.Test.YtojcfpbgncemcaaEvents
import Derived.Test.YtojcfpbgncemcaaLib
import Derived.Test.YtojcfpbgncemcaaShelf
import Derived.WalkKit
import Derived.WalkSpells
import Derived.WalkLawsBesides
import Derived.Lib.Hide
import Derived.Deep.WholeRow
import Derived.Deep.AppendLies
import Derived.Sort.OwnSortedInts
namespace Go.Proofs.Ytojcfpbgncemcaa
open Go.RowKit Go.Deep

/-- the steps at which something returned. -/
def rets (es : List Ev) (steps : Int) : List Int := (es.filter fun e => e.done && decide (1 ≤ e.to) && decide (e.to ≤ steps)).map (·.to)
theorem rets_length (es : List Ev) (steps : Int) : (rets es steps).length ≤ es.length := by
  unfold rets; rw [List.length_map]; exact List.length_filter_le _ _
theorem rets_snoc (es : List Ev) (e : Ev) (steps : Int) : rets (es ++ [e]) steps = rets es steps ++ (if e.done && decide (1 ≤ e.to) && decide (e.to ≤ steps) then [e.to] else []) := by
  unfold rets
  rw [List.filter_append, List.map_append]
  by_cases h : (e.done && decide (1 ≤ e.to) && decide (e.to ≤ steps)) = true <;> simp [h]
/-- the longest gap: what Longest's second loop reckons, in 64 bits. -/
def gapsW : List Int → Int → Int → Int
  | [], most, _ => most
  | a :: l, most, last => gapsW l (max most (wrap64 (wrap64 (a - last) - 1))) a
def longestV (es : List Ev) (steps : Int) : Int := gapsW ((rets es steps).mergeSort (fun x y => decide (x ≤ y)) ++ [steps + 1]) 0 0

open Go.Sort in
/-- slices.Sort on a row of ints that the call has made, nil or not. -/
theorem sort_own (v : Value) (base : Nat) (ss : List Int) (w : World) (hown : w.ownsRow base 3 1 v ss.length (ss.map (Value.int .i64))) (hl : ss.length ≤ 1000000) :
    Calls Try.prog 14 #[v] w fun e w' => e = .returned (.tuple #[]) ∧ w'.ownsRow base 3 1 v ss.length ((ss.mergeSort fun x y => decide (x ≤ y)).map (Value.int .i64)) ∧ w.grownBy w' v.ownBlock := by
  rcases hown.2 with ⟨rfl, h0⟩ | ⟨g, cap, cur, rfl, hbase, hb, h1, h2, h3, h4⟩
  · have : ss = [] := by simpa using h0
    subst this
    refine (Try.slices_Sort_int_none none 0 w).mono ?_
    rintro e w' ⟨rfl, rfl⟩
    exact ⟨rfl, by simpa using hown, World.grownBy.refl _ _⟩
  · refine (Try.slices_Sort_int g 0 cap ss w (holds_of_blockI hb (by simpa using h4)) (Array.getElem?_eq_some_iff.1 hb).1 (by omega)).mono ?_
    rintro e w' ⟨rfl, nn, os, rfl⟩
    exact ⟨rfl, ownsRow_sortedI (by simp) hbase hb h1 h2 h3, grownBy_sortedI _⟩

theorem Try.info_int : (Try.prog.info? 3).map (fun i => (i.zero, i.size, i.bytes)) = some (some (.int .i64 0), 1, 8) := by kernel_rfl
theorem Try.size_event : (Try.prog.info? 38).map (·.size) = some 24 := by kernel_rfl

set_option maxHeartbeats 1000000 in
theorem longest_any (A : Option Addr) (n c : Nat) (es : List Ev) (steps : Int) (w : World) (hE : EvRow w w.heap.size A n c es) (hn : n ≤ 1000) (hs : -9223372036854775808 ≤ steps ∧ steps ≤ 1000000) :
    Calls Try.prog 11 #[.slice A n c, .int .i64 steps] w fun e w' => e = .returned (.int .i64 (longestV es steps)) ∧ Below w.heap.size w w' := by
  obtain ⟨hs1, hs2⟩ := hs
  obtain ⟨i0, hi, hz0, hz1, hz2⟩ := info_parts Try.info_int
  have hlen := hE.1
  have HL := Lib.hid hlen
  clear hlen
  go_enter Try.func11, Try.ntmps11
  go_wp2
  go_loopw [5, 14] (fun v i wr => ∃ k : Nat, k ≤ n ∧ i = .int .i64 k ∧ wr.ownsRow w.heap.size 3 1 v (rets (es.take k) steps).length ((rets (es.take k) steps).map (Value.int .i64)) ∧ Below w.heap.size w wr) (fun _ i _ => n - (intOf i).toNat)
  case atStart => exact ⟨0, Nat.zero_le _, rfl, ⟨rfl, .inl ⟨rfl, rfl⟩⟩, Below.refl _ _⟩
  case round =>
    obtain ⟨k, hk, rfl, hown, hbel⟩ := hrel
    by_cases hlt : k < n
    · obtain ⟨b, o, rfl, hb, hr⟩ := (hE.below hbel).2.2.2.2 (by omega)
      have hkl : k < es.length := by have := HL.out; omega
      have hrk := hr k es[k] (List.getElem?_eq_getElem hkl)
      have hts := List.take_succ_eq_append_getElem hkl
      have hsn := rets_snoc (es.take k) es[k] steps
      rw [← hts] at hsn
      have hok := hE.2.2.2.1 es[k] (List.getElem_mem hkl)
      generalize es[k] = e at hrk hsn hok
      have HS := Lib.hid hsn
      clear hsn hts
      have c12 : e.cells[12]? = some (.bool e.done) := rfl
      have c9 : e.cells[9]? = some (.int .i64 e.to) := rfl
      have hrl := rets_length (es.take k) steps
      have hlk : (es.take k).length ≤ k := List.length_take_le _ _
      have hbs := hbel.size
      by_cases hd : e.done = true ∧ 1 ≤ e.to ∧ e.to ≤ steps
      · obtain ⟨d1, d2, d3⟩ := hd
        have hv := HS.out
        rw [if_pos (by simp [d1, d2, d3])] at hv
        have HV := Lib.hid hv
        clear hv HS
        rw [d1] at c12
        have D1 := Lib.hid d1
        clear d1
        go_wp2_with (first
          | (refine wpList_load_mid rfl 38 _ rfl b (o + k * 24) rfl e.cells _ hrk Try.underlying38 rfl Try.size_event ?_)
          | (refine wpList_store_fresh rfl 38 _ _ rfl _ e.cells.toArray rfl rfl Try.size_event rfl (all_oneCell_toArray e.oneCell) ?_)
          | (at_builtin; refine wpList_append_own _ rfl _ _ 41 rfl w.heap.size 3 i0 (.int .i64 0) 1 8 Try.underlying41 hi hz0 hz1 hz2 rfl (by decide) _ _ _ rfl ((hown.alloc _).alloc _) ⟨wr.heap.size + 1, 0, none⟩ 1 1 [.int .i64 e.to] rfl rfl ?c1 ?c2 ?c3 ?c4 ?c5 ?_))
        case c1 => have hcn := cell_one_new (wr.alloc (Obj.cells e.cells.toArray 38)) (.int .i64 e.to) 3; simpa using hcn
        case c2 => intro u hu; simp only [List.mem_singleton] at hu; subst hu; rfl
        case c3 => unfold maxLen; omega
        case c4 => omega
        case c5 => simp; omega
        intro v' w1 hown1 hgrow _
        have hown2 : w1.ownsRow w.heap.size 3 1 v' (rets (es.take (k + 1)) steps).length ((rets (es.take (k + 1)) steps).map (Value.int .i64)) := by
          rw [HV.out]; simpa using hown1
        have hb2 : Below w.heap.size w w1 := ((hbel.alloc hbs _).alloc (by simp; omega) _).grown hgrow (by simp; omega) (fun g hg => (hown.lt g hg).1)
        clear hown1 hgrow hown hbel
        go_wp2
        go_roundw
        case rel => exact ⟨k + 1, by omega, by go_num, hown2, hb2⟩
        case measure => simp [intOf]; omega
      · have hv : rets (es.take (k + 1)) steps = rets (es.take k) steps := by
          rw [HS.out, if_neg (by simp only [Bool.and_eq_true, decide_eq_true_eq]; intro h; exact hd ⟨h.1.1, h.1.2, h.2⟩), List.append_nil]
        have hown2 : wr.ownsRow w.heap.size 3 1 u5 (rets (es.take (k + 1)) steps).length ((rets (es.take (k + 1)) steps).map (Value.int .i64)) := by
          rw [hv]; exact hown
        have hb2 : Below w.heap.size w (wr.alloc (.cells e.cells.toArray 38)) := hbel.alloc hbs _
        have hown3 := hown2.alloc (.cells e.cells.toArray 38)
        clear hv HS hown2 hown hbel
        rcases (show e.done = false ∨ e.done = true ∧ e.to < 1 ∨ e.done = true ∧ 1 ≤ e.to ∧ steps < e.to by
          by_cases h1 : e.done = true
          · by_cases h2 : e.to < 1
            · exact .inr (.inl ⟨h1, h2⟩)
            · exact .inr (.inr ⟨h1, by omega, Int.not_le.1 fun h => hd ⟨h1, by omega, h⟩⟩)
          · exact .inl (by simpa using h1)) with d1 | ⟨d1, d2⟩ | ⟨d1, d2, d3⟩
        all_goals
          clear hd
          rw [d1] at c12
          clear d1
          go_wp2_with (first
            | (refine wpList_load_mid rfl 38 _ rfl b (o + k * 24) rfl e.cells _ hrk Try.underlying38 rfl Try.size_event ?_)
            | (refine wpList_store_fresh rfl 38 _ _ rfl _ e.cells.toArray rfl rfl Try.size_event rfl (all_oneCell_toArray e.oneCell) ?_))
          go_roundw
          case rel => exact ⟨k + 1, by omega, by go_num, hown3, hb2⟩
          case measure => simp [intOf]; omega
    · obtain rfl : k = n := by omega
      have hall : es.take k = es := List.take_of_length_le (by rw [HL.out]; omega)
      rw [hall] at hown
      have hrl := rets_length es steps
      rw [HL.out] at hrl
      clear hall
      have hbs := hbel.size
      have HSo := Lib.hid (sort_own u5 w.heap.size (rets es steps) wr hown (by omega))
      have hlt5 : ∀ g, u5.ownBlock = some g → w.heap.size ≤ g := fun g hg => (hown.lt g hg).1
      have HLT := Lib.hid hlt5
      clear hlt5
      go_wp2_with fail
      refine HSo.out.mono ?_
      rintro e w1 ⟨rfl, hown1, hg1⟩
      have hb1 : Below w.heap.size w w1 := hbel.grown hg1 hbs HLT.out
      have hbs1 := hb1.size
      have hml : ((rets es steps).mergeSort (fun x y => decide (x ≤ y))).length = (rets es steps).length := List.length_mergeSort _
      obtain ⟨ss, hss⟩ : ∃ ss, ss = (rets es steps).mergeSort (fun x y => decide (x ≤ y)) := ⟨_, rfl⟩
      have hfin : longestV es steps = gapsW (ss ++ [steps + 1]) 0 0 := by rw [hss]; rfl
      rw [← hss] at hown1 hml
      have HML := Lib.hid hml
      have HF := Lib.hid hfin
      clear HSo hown hg1 hbel hml hss hfin
      go_wp2_with (at_builtin; refine wpList_append_own _ rfl _ _ 41 rfl w.heap.size 3 i0 (.int .i64 0) 1 8 Try.underlying41 hi hz0 hz1 hz2 rfl (by decide) _ _ _ rfl (hown1.alloc _) ⟨w1.heap.size, 0, none⟩ 1 1 [.int .i64 (steps + 1)] rfl rfl (cell_one_new _ _ _) ?c2 ?c3 ?c4 ?c5 ?_)
      case c2 => intro u hu; simp only [List.mem_singleton] at hu; subst hu; rfl
      case c3 => unfold maxLen; omega
      case c4 => omega
      case c5 => simp; omega
      intro v' w2 hown2 hg2 _
      have hb2 : Below w.heap.size w w2 := (hb1.alloc hbs1 _).grown hg2 (by simp; omega) HLT.out
      obtain ⟨g, cap, hv, hbase, hgl⟩ := hown2.form (by omega)
      rw [hv] at hown2 ⊢
      have hown3 : w2.ownsRow w.heap.size 3 1 (.slice (some ⟨g, 0, none⟩) (ss ++ [steps + 1]).length cap) (ss ++ [steps + 1]).length ((ss ++ [steps + 1]).map (Value.int .i64)) := by
        have := HML.out
        simpa [this] using hown2
      clear hown2 hg2 hb1 hown1
      have hlen3 : (ss ++ [steps + 1]).length = (rets es steps).length + 1 := by have := HML.out; simp [this]
      have HL3 := Lib.hid hlen3
      clear hlen3
      generalize ss ++ [steps + 1] = l at *
      generalize (rets es steps).length = q at *
      go_wp2
      go_loop [8, 9, 45] (fun m la i => ∃ (k : Nat) (M L : Int), k ≤ q + 1 ∧ i = .int .i64 k ∧ m = .int .i64 M ∧ la = .int .i64 L ∧ gapsW (l.drop k) M L = gapsW l 0 0) (fun _ _ i => q + 1 - (intOf i).toNat)
      case atStart => exact ⟨0, 0, 0, Nat.zero_le _, rfl, rfl, rfl, rfl⟩
      case round =>
        obtain ⟨j, M, L, hj, rfl, rfl, rfl, hga⟩ := hrel
        by_cases hjl : j < q + 1
        · have hjl' : j < l.length := by have := HL3.out; omega
          have hc := hown3.cellAt j (by omega)
          rw [List.getElem?_map, List.getElem?_eq_getElem hjl'] at hc
          rw [List.drop_eq_getElem_cons hjl'] at hga
          have HG := Lib.hid hga
          clear hga
          generalize l[j] = a at *
          simp only [Option.map_some] at hc
          go_wp2
          go_round
          case rel => exact ⟨j + 1, _, a, by omega, by go_num, rfl, rfl, HG.out⟩
          case measure => simp [intOf]; omega
        · obtain rfl : j = q + 1 := by omega
          have hga2 : gapsW l 0 0 = M := by rw [← hga, List.drop_of_length_le (by have := HL3.out; omega)]; rfl
          have HG := Lib.hid hga2
          clear hga hga2
          go_wp2
          go_ret
          exact ⟨ret_int (a := M) (by rw [HF.out, HG.out]), hb2⟩
end Go.Proofs.Ytojcfpbgncemcaa
