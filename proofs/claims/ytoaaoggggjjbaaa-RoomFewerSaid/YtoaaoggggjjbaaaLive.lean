/- heap.Live: the blocks that live, by their places. -/
import Derived.Test.YtoaaoggggjjbaaaLiveSort
import Derived.Deep.RegionHeld3
import Derived.Deep.DrawnRows
namespace Go.Proofs.Ytoaaoggggjjbaaa
open Go.RowKit Go.Deep Go.Sort Go.Lib Go.Maps Go.Shelf
attribute [local go_sem ↓] Go.wp_at_zero Go.wp_at_succ
theorem Try.info_block : (Try.prog.info? 39).map (fun i => (i.zero, i.size, i.bytes)) = some (some (.agg #[.int .i64 0, .int .i64 0, .int .i64 0]), 3, 24) := by kernel_rfl
theorem Try.zero_block (w : World) : (zeroValue 39).run Try.prog w = .ok (blkEl.val ⟨0, 0, 0⟩) w := by kernel_rfl
theorem Try.zeroi_block : (Try.prog.info? 39).map (fun i => (i.zero, i.size)) = some (some (.agg #[.int .i64 0, .int .i64 0, .int .i64 0]), 3) := by kernel_rfl
theorem taken_mem {es : List Ev} {step : Int} {e : Ev} (h : e ∈ takenV es step) : e ∈ es := by
  unfold takenV at h
  rw [St.mem_ssort] at h
  exact (List.mem_filter.1 h).1
theorem taken_length (es : List Ev) (step : Int) : (takenV es step).length ≤ es.length := by
  unfold takenV
  rw [St.length_ssort]
  exact takenF_length _ _
theorem step_tt {m : List (Int × Blk)} {e : Ev} (h1 : endsB e = true) (h2 : makesB e = true) : liveStep m e = IM.putI e.r.pos ⟨e.r.pos, askedV e.call, e.r.n⟩ (IM.delI e.call.pos m) := by simp [liveStep, h1, h2]
theorem step_tf {m : List (Int × Blk)} {e : Ev} (h1 : endsB e = true) (h2 : makesB e = false) : liveStep m e = IM.delI e.call.pos m := by simp [liveStep, h1, h2]
theorem step_ft {m : List (Int × Blk)} {e : Ev} (h1 : endsB e = false) (h2 : makesB e = true) : liveStep m e = IM.putI e.r.pos ⟨e.r.pos, askedV e.call, e.r.n⟩ m := by simp [liveStep, h1, h2]
theorem step_ff {m : List (Int × Blk)} {e : Ev} (h1 : endsB e = false) (h2 : makesB e = false) : liveStep m e = m := by simp [liveStep, h1, h2]
/-- the state of the first loop behind k events. -/
def LiveIn (w : World) (A : Option Addr) (L : List Ev) (k : Nat) (wr : World) : Prop :=
  IM.Own blkEl Try.prog 3 wr w.heap.size k (liveM (L.take k)) ∧ EvIn wr w.heap.size A L ∧ Below w.heap.size w wr
theorem evcells (w : World) (g : Nat) (e : Ev) (h : w.rangeAt g 0 e.cells) :
    w.cell? ⟨g, 13, none⟩ = some (.int .i64 e.r.pos) ∧ w.cell? ⟨g, 14, none⟩ = some (.int .i64 e.r.n) ∧ w.cell? ⟨g, 1, none⟩ = some (.int .u8 e.call.op) ∧ w.cell? ⟨g, 2, none⟩ = some (.int .i64 e.call.size) ∧ w.cell? ⟨g, 3, none⟩ = some (.int .i64 e.call.n) ∧
    w.cell? ⟨g, 4, none⟩ = some (.int .i64 e.call.align) ∧ w.cell? ⟨g, 5, none⟩ = some (.int .i64 e.call.pos) ∧ w.cell? ⟨g, 6, none⟩ = some (.int .i64 e.call.off) ∧ w.cell? ⟨g, 7, none⟩ = some (.int .u8 e.call.byte) := by
  refine ⟨?_, ?_, ?_, ?_, ?_, ?_, ?_, ?_, ?_⟩
  · simpa using h 13 _ rfl
  · simpa using h 14 _ rfl
  · simpa using h 1 _ rfl
  · simpa using h 2 _ rfl
  · simpa using h 3 _ rfl
  · simpa using h 4 _ rfl
  · simpa using h 5 _ rfl
  · simpa using h 6 _ rfl
  · simpa using h 7 _ rfl
theorem live_mem (L : List Ev) : ∀ p ∈ liveM L, ∃ e ∈ L, makesB e = true ∧ p = (e.r.pos, ⟨e.r.pos, askedV e.call, e.r.n⟩) := by
  induction L using St.snoc_ind with
  | h0 => intro p hp; simp [liveM] at hp
  | h1 l e ih =>
    intro p hp
    rw [liveM_snoc] at hp
    have hm1 : ∀ q ∈ (if endsB e then IM.delI e.call.pos (liveM l) else liveM l), q ∈ liveM l := by
      intro q hq
      split at hq
      · exact (IM.mem_del.1 hq).1
      · exact hq
    have old : p ∈ liveM l → ∃ e' ∈ l ++ [e], makesB e' = true ∧ p = (e'.r.pos, ⟨e'.r.pos, askedV e'.call, e'.r.n⟩) := fun h => by
      obtain ⟨e', h1, h2⟩ := ih p h
      exact ⟨e', List.mem_append_left _ h1, h2⟩
    unfold liveStep at hp
    simp only at hp
    split at hp
    · rename_i hmk
      rcases IM.mem_put.1 hp with rfl | ⟨h1, _⟩
      · exact ⟨e, by simp, hmk, rfl⟩
      · exact old (hm1 _ h1)
    · exact old (hm1 _ hp)
/-- out of what slices.Sorted hands back. -/
theorem ints_of_own {w : World} {base : Nat} {v : Value} {zs : List Int} {n : Nat} (hn : zs.length = n) (h : w.ownsRow base 3 1 v n (zs.map encZ)) : ∃ A c, v = .slice A n c ∧ n ≤ c ∧ (0 < n → ∃ g, A = some ⟨g, 0, none⟩ ∧ g < w.heap.size ∧ ∀ i z, zs[i]? = some z → w.cell? ⟨g, i, none⟩ = some (.int .i64 z)) := by
  rcases h.2 with ⟨rfl, h0⟩ | ⟨g, cap, cur, rfl, hbase, hb', h1, h2, h3, h4⟩
  · exact ⟨none, 0, by rw [h0], by omega, fun h => by omega⟩
  · refine ⟨_, _, rfl, h1, fun h0 => ⟨g, rfl, (Array.getElem?_eq_some_iff.1 hb').1, fun i z hz => ?_⟩⟩
    have hi : i < zs.length := (List.getElem?_eq_some_iff.1 hz).1
    rw [cell_of_row w g _ cur _ (0, 0) hb', ← Array.getElem?_toList]
    have hlt : i < n * 1 := by omega
    rw [← List.getElem?_take_of_lt hlt, h4, List.getElem?_map, hz]
    rfl
theorem get_at {M : List (Int × Blk)} (h : IM.Rising M) {k : Nat} (hk : k < M.length) : (IM.getI M[k].1 M).getD ⟨0, 0, 0⟩ = M[k].2 := by
  rw [(IM.getI_mem h).2 (show (M[k].1, M[k].2) ∈ M from List.getElem_mem hk)]
  rfl
theorem grown_trans {a b c : World} {row : Option Nat} (h : a.grownBy b row) (k : b.grownBy c row) : a.grownBy c row :=
  ⟨k.os.trans h.os, k.tape.trans h.tape, k.output.trans h.output, Nat.le_trans h.size k.size, fun i hi hne => (k.block i (Nat.lt_of_lt_of_le hi h.size) hne).trans (h.block i hi hne)⟩
/-- the map's update behind the call of asked. -/
theorem update_asked {w3 : World} {b n : Nat} {m : List (Int × Blk)} (e : Ev) (h : IM.Own blkEl Try.prog 3 w3 b n m) (hn : n ≤ 1000) (hk : keyOf Try.prog 3 (.int .i64 e.r.pos) = some (.int .i64 e.r.pos)) :
    ∃ w5, (Instr.mapUpdate 57 (.map (some b)) (.int .i64 e.r.pos) (.agg #[.int .i64 e.r.pos, .int .i64 (askedV e.call), .int .i64 e.r.n])).run Try.prog (w3.alloc (.cells e.call.cells.toArray 27)).drew = .ok () w5 ∧
      IM.Own blkEl Try.prog 3 w5 b (n + 1) (IM.putI e.r.pos ⟨e.r.pos, askedV e.call, e.r.n⟩ m) ∧ w3.grownBy w5 (some b) := by
  obtain ⟨w5, h1, h2, h3⟩ := IM.Own.run_update (t := 57) (h.alloc (.cells e.call.cells.toArray 27)).drew Try.underlying3 Try.underlying57 (by unfold maxLen; omega) e.r.pos ⟨e.r.pos, askedV e.call, e.r.n⟩ hk
  have h4 := World.grownBy_alloc w3 (.cells e.call.cells.toArray 27) (some b)
  exact ⟨w5, h1, h2, grown_trans (b := (w3.alloc (.cells e.call.cells.toArray 27)).drew) ⟨h4.os, h4.tape, h4.output, h4.size, h4.block⟩ h3⟩
set_option maxHeartbeats 2000000 in
set_option maxRecDepth 100000 in
theorem live_any (A : Option Addr) (n c : Nat) (es : List Ev) (step : Int) (w : World) (hE : EvRow w w.heap.size A n c es) (hn : n ≤ 1000) :
    Calls Try.prog 11 #[.slice A n c, .int .i64 step] w (RetRow w 39 3 (liveV es step).length ((liveV es step).flatMap Blk.cells)) := by
  have hmm := @run_makeMap Try.prog
  have hok : ∀ e ∈ takenV es step, e.ok := fun e he => hE.2.2.2.1 e (taken_mem he)
  have hlen : (takenV es step).length ≤ 1000 := Nat.le_trans (taken_length es step) (by rw [hE.1]; exact hn)
  have hE2 : EvRow (w.alloc (.map #[] 0)) (w.alloc (.map #[] 0)).heap.size A n c es := ((hE.below ((Below.refl _ w).alloc (Nat.le_refl _) _)).more (by simp))
  have hT := Lib.hid (taken_any A n c es step (w.alloc (.map #[] 0)) hE2 hn)
  unfold liveV
  generalize takenV es step = L at hT hok hlen
  have HOK := Lib.hid hok
  clear hok hE hE2
  go_enter Try.func11, Try.ntmps11
  go_wp2_with fail
  refine hT.out.mono ?_
  rintro e0 w0 ⟨v, rfl, hown, hbel⟩
  rw [show (w.alloc (.map #[] 0)).heap.size = w.heap.size + 1 by simp] at hown hbel
  obtain ⟨A2, c2, rfl, hc2, hin⟩ := EvIn.of_own (b := w.heap.size) hown (by omega)
  have hst : LiveIn w A2 L 0 w0 := ⟨((IM.Own.made blkEl Try.prog 3 w).below hbel (by omega)), hin, ((Below.refl _ w).alloc (Nat.le_refl _) _).trans (hbel.mono (by omega))⟩
  clear hT hown hbel hin hmm
  go_wp2
  go_loopw [16] (fun i wr => ∃ k : Nat, k ≤ L.length ∧ i = .int .i64 k ∧ LiveIn w A2 L k wr) (fun i _ => L.length - (intOf i).toNat)
  case atStart => exact ⟨0, Nat.zero_le _, rfl, hst⟩
  case round =>
    clear hst
    obtain ⟨k, hk, rfl, hown, hin, hbel⟩ := hrel
    by_cases hlt : k < L.length
    · obtain ⟨g, o, rfl, hgne, hg, hr⟩ := hin (by omega)
      have hrk := hr k L[k] (List.getElem?_eq_getElem hlt)
      have hekok : L[k].ok := HOK.out _ (List.getElem_mem hlt)
      have hts := List.take_succ_eq_append_getElem hlt
      have hsn := liveM_snoc (L.take k) L[k]
      rw [← hts] at hsn
      clear hr hts
      generalize L[k] = e at hrk hsn hekok
      have HS := Lib.hid hsn
      clear hsn
      have hkc : keyOf Try.prog 3 (.int .i64 e.call.pos) = some (.int .i64 e.call.pos) := IM.key_ok Try.underlying3 hekok.2.1.2.2.2.2.1.1 hekok.2.1.2.2.2.2.1.2
      have hkr : keyOf Try.prog 3 (.int .i64 e.r.pos) = some (.int .i64 e.r.pos) := IM.key_ok Try.underlying3 hekok.2.2.2.2.2.2.1.1 hekok.2.2.2.2.2.2.1.2
      have HKC := Lib.hid hkc
      have HKR := Lib.hid hkr
      clear hkc hkr hekok
      have hbs := hbel.size
      have hml := hown.lt
      have hnew : (wr.alloc (.cells e.cells.toArray 35)).rangeAt wr.heap.size 0 e.cells := fun j v hv => by
        rw [Nat.zero_add, cell_of_row _ _ _ _ _ _ (heap_alloc_new wr _)]
        simpa using hv
      have HNew := Lib.hid hnew
      clear hnew
      have hrow0 : (wr.alloc (.cells e.cells.toArray 35)).heap.size = wr.heap.size + 1 := by simp
      have HI := Lib.hid (hin.alloc (.cells e.cells.toArray 35))
      have HO := Lib.hid (hown.alloc (.cells e.cells.toArray 35))
      have HB := Lib.hid (hbel.alloc hbs (.cells e.cells.toArray 35))
      clear hin hown hbel
      obtain ⟨be, hbe⟩ : ∃ b, endsB e = b := ⟨_, rfl⟩
      obtain ⟨bm, hbm⟩ : ∃ b, makesB e = b := ⟨_, rfl⟩
      go_wp2_with (first
        | (refine wpList_load_mid rfl 35 (.tmp 18) rfl g (o + k * 24) rfl e.cells _ hrk Try.underlying35 rfl Try.size_event ?_)
        | (refine wpList_load_mid rfl 35 (.tmp 7) rfl wr.heap.size 0 rfl e.cells _ HNew.out Try.underlying35 rfl Try.size_event ?_)
        | (refine wpList_store_new rfl 35 (.tmp 7) (.tmp 19) rfl wr _ e.cells.toArray rfl rfl rfl Try.size_event rfl (all_oneCell_toArray e.oneCell) ?_))
      refine (ends_any e be hbe _).mono ?_
      rintro e1 w1 ⟨rfl, hw1⟩
      have g1 : (wr.alloc (.cells e.cells.toArray 35)).grownBy w1 none := by rw [hw1]; exact World.grownBy_alloc _ _ _
      have g1b : (wr.alloc (.cells e.cells.toArray 35)).grownBy w1 (some w.heap.size) := by rw [hw1]; exact World.grownBy_alloc _ _ _
      have hs1 := g1.size
      rw [hrow0] at hs1
      have hI1 := HI.out.grown g1b
      have hO1 := HO.out.kept g1 (by simp)
      have hB1 := HB.out.grown g1 (by rw [hrow0]; omega) (by simp)
      have hN1 := rangeAt_grown HNew.out g1 (by rw [hrow0]; omega) (by simp)
      clear hw1 g1 g1b HI HO HB HNew hrk
      have hmk : ∀ (m1 : List (Int × Blk)) (w2 : World), (IM.Own blkEl Try.prog 3 w2 w.heap.size k m1 ∧ EvIn w2 w.heap.size (some ⟨g, o, none⟩) L ∧ Below w.heap.size w w2 ∧ w2.rangeAt wr.heap.size 0 e.cells ∧ w.heap.size < w2.heap.size ∧ wr.heap.size < w2.heap.size) →
          ∀ w3, w3 = w2.alloc (.cells e.cells.toArray 35) → (IM.Own blkEl Try.prog 3 w3 w.heap.size k m1 ∧ EvIn w3 w.heap.size (some ⟨g, o, none⟩) L ∧ Below w.heap.size w w3 ∧ w3.rangeAt wr.heap.size 0 e.cells ∧ w.heap.size < w3.heap.size ∧ wr.heap.size < w3.heap.size) := by
        rintro m1 w2 ⟨h1, h2, h3, h4, h5, h6⟩ w3 rfl
        exact ⟨h1.alloc _, h2.alloc _, h3.alloc (by omega) _, rangeAt_grown h4 (World.grownBy_alloc _ _ none) h6 (by simp), by simp; omega, by simp; omega⟩
      have HMK := Lib.hid hmk
      clear hmk
      cases be
      · go_wp2_with (first
          | (refine wpList_load_mid rfl 35 (.tmp 7) rfl wr.heap.size 0 rfl e.cells _ hN1 Try.underlying35 rfl Try.size_event ?_))
        refine (makes_any e bm hbm _).mono ?_
        rintro e2 w3 ⟨rfl, hw3⟩
        obtain ⟨hO3, hI3, hB3, hN3, hs3, hs4⟩ := HMK.out _ w1 ⟨hO1, hI1, hB1, hN1, by omega, by omega⟩ w3 hw3
        clear hw3 hO1 hI1 hB1 hN1 HMK
        cases bm
        · have hfin : LiveIn w (some ⟨g, o, none⟩) L (k + 1) w3 := ⟨by rw [HS.out, step_ff hbe hbm]; exact hO3.mono (by omega), hI3, hB3⟩
          clear hO3 hI3 hB3 hN3
          go_wp2
          go_roundw
          case rel => exact ⟨k + 1, by omega, by go_num, hfin⟩
          case measure => simp [intOf]; omega
        · obtain ⟨hx13, hx14, hx1, hx2, hx3, hx4, hx5, hx6, hx7⟩ := evcells _ _ _ hN3
          have HO3 := Lib.hid hO3
          have HI3 := Lib.hid hI3
          have HB3 := Lib.hid hB3
          have HN3 := Lib.hid hN3
          clear hO3 hI3 hB3 hN3
          go_wp2_with fail
          go_region_held3 (fun w' => w'.cell? ⟨wr.heap.size, 13, none⟩ = some (.int .i64 e.r.pos) ∧ w'.cell? ⟨wr.heap.size, 14, none⟩ = some (.int .i64 e.r.n) ∧ w'.cell? ⟨wr.heap.size, 1, none⟩ = some (.int .u8 e.call.op) ∧ w'.cell? ⟨wr.heap.size, 2, none⟩ = some (.int .i64 e.call.size) ∧ w'.cell? ⟨wr.heap.size, 3, none⟩ = some (.int .i64 e.call.n) ∧
              w'.cell? ⟨wr.heap.size, 4, none⟩ = some (.int .i64 e.call.align) ∧ w'.cell? ⟨wr.heap.size, 5, none⟩ = some (.int .i64 e.call.pos) ∧ w'.cell? ⟨wr.heap.size, 6, none⟩ = some (.int .i64 e.call.off) ∧ w'.cell? ⟨wr.heap.size, 7, none⟩ = some (.int .u8 e.call.byte))
            (first | go_keep | (exact evcells _ _ _ (rangeAt_grown HN3.out g5 hs4 (by simp; omega))))
            (first | (go_at_call 30; refine (asked_any e.call _).mono ?_; rintro e4 w4 ⟨rfl, rfl⟩; obtain ⟨w5, hrun5, hO5, g5⟩ := update_asked e HO3.out (by omega) HKR.out))
          have hfin : LiveIn w (some ⟨g, o, none⟩) L (k + 1) w5 := ⟨by rw [HS.out, step_ft hbe hbm]; exact hO5, HI3.out.grown g5, HB3.out.grown g5 (by omega) (by simp)⟩
          clear HO3 HI3 HB3 HN3 hrun5 hO5 g5 hx13 hx14 hx1 hx2 hx3 hx4 hx5 hx6 hx7
          go_wp2
          go_roundw
          case rel => exact ⟨k + 1, by omega, by go_num, hfin⟩
          case measure => simp [intOf]; omega
      · have hc5 := (evcells _ _ _ hN1).2.2.2.2.2.2.1
        go_wp2_with (first
          | (at_delete; refine IM.wp_delete blkEl _ rfl (.tmp 22) (.tmp 25) 57 3 rfl 39 Try.underlying3 Try.underlying57 w.heap.size k _ rfl hO1 e.call.pos rfl HKC.out ?_; intro w2 hO2 g2)
          | (refine wpList_load_mid rfl 35 (.tmp 7) rfl wr.heap.size 0 rfl e.cells _ (rangeAt_grown hN1 g2 hs1 (by simp; omega)) Try.underlying35 rfl Try.size_event ?_))
        refine (makes_any e bm hbm _).mono ?_
        rintro e2 w3 ⟨rfl, hw3⟩
        have hs2 := g2.size
        obtain ⟨hO3, hI3, hB3, hN3, hs3, hs4⟩ := HMK.out _ w2 ⟨hO2, hI1.grown g2, hB1.grown g2 (by omega) (by simp), rangeAt_grown hN1 g2 hs1 (by simp; omega), by omega, by omega⟩ w3 hw3
        clear hw3 hO1 hI1 hB1 hN1 HMK hc5 hO2 g2
        cases bm
        · have hfin : LiveIn w (some ⟨g, o, none⟩) L (k + 1) w3 := ⟨by rw [HS.out, step_tf hbe hbm]; exact hO3.mono (by omega), hI3, hB3⟩
          clear hO3 hI3 hB3 hN3
          go_wp2
          go_roundw
          case rel => exact ⟨k + 1, by omega, by go_num, hfin⟩
          case measure => simp [intOf]; omega
        · obtain ⟨hx13, hx14, hx1, hx2, hx3, hx4, hx5, hx6, hx7⟩ := evcells _ _ _ hN3
          have HO3 := Lib.hid hO3
          have HI3 := Lib.hid hI3
          have HB3 := Lib.hid hB3
          have HN3 := Lib.hid hN3
          clear hO3 hI3 hB3 hN3
          go_wp2_with fail
          go_region_held3 (fun w' => w'.cell? ⟨wr.heap.size, 13, none⟩ = some (.int .i64 e.r.pos) ∧ w'.cell? ⟨wr.heap.size, 14, none⟩ = some (.int .i64 e.r.n) ∧ w'.cell? ⟨wr.heap.size, 1, none⟩ = some (.int .u8 e.call.op) ∧ w'.cell? ⟨wr.heap.size, 2, none⟩ = some (.int .i64 e.call.size) ∧ w'.cell? ⟨wr.heap.size, 3, none⟩ = some (.int .i64 e.call.n) ∧
              w'.cell? ⟨wr.heap.size, 4, none⟩ = some (.int .i64 e.call.align) ∧ w'.cell? ⟨wr.heap.size, 5, none⟩ = some (.int .i64 e.call.pos) ∧ w'.cell? ⟨wr.heap.size, 6, none⟩ = some (.int .i64 e.call.off) ∧ w'.cell? ⟨wr.heap.size, 7, none⟩ = some (.int .u8 e.call.byte))
            (first | go_keep | (exact evcells _ _ _ (rangeAt_grown HN3.out g5 hs4 (by simp; omega))))
            (first | (go_at_call 30; refine (asked_any e.call _).mono ?_; rintro e4 w4 ⟨rfl, rfl⟩; obtain ⟨w5, hrun5, hO5, g5⟩ := update_asked e HO3.out (by omega) HKR.out))
          have hfin : LiveIn w (some ⟨g, o, none⟩) L (k + 1) w5 := ⟨by rw [HS.out, step_tt hbe hbm]; exact hO5, HI3.out.grown g5, HB3.out.grown g5 (by omega) (by simp)⟩
          clear HO3 HI3 HB3 HN3 hrun5 hO5 g5 hx13 hx14 hx1 hx2 hx3 hx4 hx5 hx6 hx7
          go_wp2
          go_roundw
          case rel => exact ⟨k + 1, by omega, by go_num, hfin⟩
          case measure => simp [intOf]; omega
    · obtain rfl : k = L.length := by omega
      rw [List.take_length] at hown
      have hris := rising_live L
      have hbs := hbel.size
      have hbl := hown.lt
      have hky : ∀ p ∈ liveM L, keyOf Try.prog 3 (.int .i64 p.1) = some (.int .i64 p.1) := fun p hp => by
        obtain ⟨e, he, _, rfl⟩ := live_mem L p hp
        exact IM.key_ok Try.underlying3 (HOK.out e he).2.2.2.2.2.2.1.1 (HOK.out e he).2.2.2.2.2.2.1.2
      generalize hM : liveM L = M at hown hris hky
      have HM := Lib.hid hM
      clear hM
      have HKY := Lib.hid hky
      clear hky
      have HSo := Lib.hid (fun W hW => sorted_any w.heap.size L.length M wr W hown hris (by omega) hW)
      have HO := Lib.hid hown
      have HB := Lib.hid hbel
      have hml := hown.length
      have hris' := Lib.hid hris
      clear hown hbel hin hris
      go_wp2_with fail
      refine (keys_any _ _).mono ?_
      rintro e1 w1 ⟨rfl, hw1⟩
      have HS2 := Lib.hid (HSo.out w1 hw1)
      have HO1 : IM.Own blkEl Try.prog 3 w1 w.heap.size L.length M := by rw [hw1]; exact HO.out.alloc _
      have HB1 : Below w.heap.size w w1 := by rw [hw1]; exact HB.out.alloc (by omega) _
      clear HSo HO HB hw1
      go_wp2_with fail
      refine HS2.out.mono ?_
      rintro e2 w2 ⟨vk, rfl, hrow, hbk⟩
      have hO2 := HO1.below hbk HO1.lt
      have hB2 : Below w.heap.size w w2 := HB1.trans (hbk.mono HB1.size)
      have hb12 := HO1.lt
      clear HS2 HO1 HB1
      obtain ⟨A3, c3, rfl, hc3, hk3⟩ := ints_of_own (by simp) hrow
      have HK3 := Lib.hid hk3
      have HO2 := Lib.hid hO2
      have hlt2 := hO2.lt
      clear hrow hbk hk3 hO2
      obtain ⟨i0, hi, hz0, hz1, hz2⟩ := info_parts Try.info_block
      have HZ0 := Lib.hid hz0
      clear hz0
      go_wp2
      go_loopw [8, 47] (fun v i wr => ∃ k : Nat, k ≤ M.length ∧ i = .int .i64 k ∧ wr.ownsRow w2.heap.size 39 3 v k (((M.take k).map (·.2)).flatMap Blk.cells) ∧ Below w2.heap.size w2 wr) (fun _ i _ => M.length - (intOf i).toNat)
      case atStart => exact ⟨0, Nat.zero_le _, rfl, ⟨rfl, .inl ⟨rfl, rfl⟩⟩, Below.refl _ _⟩
      case round =>
        obtain ⟨k, hk, rfl, hown, hbel⟩ := hrel
        by_cases hlt : k < M.length
        · obtain ⟨g, rfl, hg, hcell⟩ := HK3.out (by omega)
          have hck : wr.cell? ⟨g, k, none⟩ = some (.int .i64 M[k].1) := (hbel.cell (by exact hg)).trans (hcell k _ (by rw [List.getElem?_map, List.getElem?_eq_getElem hlt]; rfl))
          have HOr := Lib.hid (HO2.out.below hbel (by omega))
          have hget := get_at hris'.out hlt
          have hts := List.take_succ_eq_append_getElem hlt
          have hkey : keyOf Try.prog 3 (.int .i64 M[k].1) = some (.int .i64 M[k].1) := HKY.out _ (List.getElem_mem hlt)
          have hv : ((M.take (k + 1)).map (·.2)).flatMap Blk.cells = ((M.take k).map (·.2)).flatMap Blk.cells ++ M[k].2.cells := by
            rw [hts, List.map_append, List.flatMap_append]; simp
          have HV := Lib.hid hv
          clear hv hts hcell
          generalize M[k] = p at hck hget hkey HV
          have HKe := Lib.hid hkey
          have HGe := Lib.hid hget
          clear hkey hget
          have hbs2 := hbel.size
          go_wp2_with (first
            | (at_lookup; refine IM.wp_lookup blkEl _ rfl (.tmp 52) (.tmp 53) 57 rfl 3 39 Try.underlying3 Try.underlying57 ⟨0, 0, 0⟩ (Try.zero_block _) w.heap.size L.length M rfl HOr.out p.1 rfl HKe.out p.2 HGe.out ?_)
            | (refine wpList_buildSlice_one rfl 36 (.tmp 54) rfl 39 _ 3 Try.underlying36 Try.zeroi_block p.2.cells.toArray rfl rfl (by decide) (by decide) ?_)
            | (at_builtin; refine wpList_append_own _ rfl _ _ 36 rfl w2.heap.size 39 i0 _ 3 24 Try.underlying36 hi HZ0.out hz1 hz2 rfl (by decide) _ _ _ rfl (hown.alloc _) _ 1 1 p.2.cells rfl rfl ?c1 ?c2 ?c3 ?c4 ?c5 ?_))
          case c2 => exact p.2.oneCell
          case c3 => unfold maxLen; omega
          case c4 => omega
          case c5 => omega
          intro v' w1 hown1 hgrow _
          have hown2 : w1.ownsRow w2.heap.size 39 3 v' (k + 1) (((M.take (k + 1)).map (·.2)).flatMap Blk.cells) := by
            rw [HV.out, List.map_take]; exact hown1
          have hb2 : Below w2.heap.size w2 w1 := (hbel.alloc hbs2 _).grown hgrow (by simp; omega) (fun g hg => (hown.lt g hg).1)
          clear hown1 hgrow hown hbel
          go_wp2
          go_roundw
          case rel => exact ⟨k + 1, by omega, by go_num, hown2, hb2⟩
          case measure => simp [intOf]; omega
        · obtain rfl : k = M.length := by omega
          rw [List.take_length] at hown
          have hB3 : Below w.heap.size w wr := hB2.trans (hbel.mono hB2.size)
          have hfin : wr.ownsRow w.heap.size 39 3 u8 (M.map (·.2)).length ((M.map (·.2)).flatMap Blk.cells) := by rw [List.length_map]; exact ownsRow_base_a hown hB2.size
          rw [← HM.out] at hfin
          have HF := Lib.hid hfin
          clear hown hbel hfin
          go_wp2
          go_ret
          exact ⟨_, rfl, by simpa using HF.out, hB3⟩
end Go.Proofs.Ytoaaoggggjjbaaa
