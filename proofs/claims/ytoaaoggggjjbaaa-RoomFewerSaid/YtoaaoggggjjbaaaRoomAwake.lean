/- room.Asks where no product is asked; quilletlaw23's awake. -/
import Derived.Test.YtoaaoggggjjbaaaLaw22
import Derived.Test.YtoaaoggggjjbaaaClassOf
import Derived.Test.YtoaaoggggjjbaaaFits
namespace Go.Proofs.Ytoaaoggggjjbaaa
open Go.RowKit Go.Deep
theorem allocates_yes (c : Cl) (w : World) (h1 : 1 ≤ c.op) (h2 : c.op ≤ 4) : Calls Try.prog 72 #[.agg c.cells.toArray] w fun e w' => e = .returned (.bool true) ∧ w' = w.alloc (.cells c.cells.toArray 27) := by
  have c0 : c.cells[0]? = some (.int .u8 c.op) := rfl
  go_enter Try.func72, Try.ntmps72
  go_wp2
  go_ret
  exact ⟨rfl, rfl⟩
set_option maxRecDepth 100000 in
theorem rsize_plain (c : Cl) (w : World) (h1 : 1 ≤ c.op) (h2 : c.op ≤ 4) (h3 : c.op ≠ 2) (h4 : 1 ≤ c.size) : Calls Try.prog 58 #[.agg c.cells.toArray] w fun e w' => e = .returned (.int .i64 c.size) ∧ Below w.heap.size w w' := by
  have c0 : c.cells[0]? = some (.int .u8 c.op) := rfl
  have c1 : c.cells[1]? = some (.int .i64 c.size) := rfl
  have hn2 : (c.op == 2) = false := by simp [h3]
  have hr := new_range w c.cells 27
  go_enter Try.func58, Try.ntmps58
  go_wp2_with (first
    | (refine wpList_load_mid rfl 27 (.tmp 1) rfl w.heap.size 0 rfl c.cells _ hr Try.underlying27 rfl Try.size_call ?_))
  refine (allocates_yes c _ h1 h2).mono ?_
  rintro e w1 ⟨rfl, rfl⟩
  go_wp2
  go_ret
  exact ⟨rfl, ((Below.refl _ w).alloc (Nat.le_refl _) _).alloc (by simp) _⟩
theorem rasks1 (w : World) : Calls Try.prog 40 #[.agg #[.int .u8 1, .int .i64 65, .int .i64 0, .int .i64 0, .int .i64 0, .int .i64 0, .int .u8 0]] w fun e w' => e = .returned (.tuple #[.int .i64 2, .int .i64 1]) ∧ Below w.heap.size w w' := by
  have HS := Lib.hid (rsize_plain ⟨1, 65, 0, 0, 0, 0, 0⟩ (w.alloc (.cells (Cl.cells ⟨1, 65, 0, 0, 0, 0, 0⟩).toArray 27)) (by decide) (by decide) (by decide) (by decide))
  have hr := new_range w (Cl.cells ⟨1, 65, 0, 0, 0, 0, 0⟩) 27
  have HO := Lib.hid (fun w => of_any 65 1 w)
  have hov : ofV 65 1 = -1 := by kernel_rfl
  have HG := Lib.hid (fun w => cpages_any 65 w (by decide))
  have hpg : pagesV 65 = 2 := by kernel_rfl
  go_enter Try.func40, Try.ntmps40
  go_wp2_with (first
    | (refine wpList_load_mid rfl 27 (.tmp 1) rfl w.heap.size 0 rfl (Cl.cells ⟨1, 65, 0, 0, 0, 0, 0⟩) _ hr Try.underlying27 rfl Try.size_call ?_))
  refine HS.out.mono ?_
  rintro e w1 ⟨rfl, hb⟩
  have hc0 : w1.cell? ⟨w.heap.size, 0, none⟩ = some (.int .u8 1) := (hb.cell (by simp)).trans (by simpa using hr 0 _ rfl)
  have hc3 : w1.cell? ⟨w.heap.size, 3, none⟩ = some (.int .i64 0) := (hb.cell (by simp)).trans (by simpa using hr 3 _ rfl)
  have hb1 : Below w.heap.size w w1 := ((Below.refl _ w).alloc (Nat.le_refl _) _).trans (hb.mono (by simp))
  clear HS hr hb
  go_wp2_with fail
  refine (HO.out _).mono ?_
  rintro e w2 ⟨rfl, hb2⟩
  rw [hov]
  go_wp2_with fail
  refine (HG.out _).mono ?_
  rintro e w3 ⟨rfl, rfl⟩
  rw [hpg]
  go_wp2
  go_ret2
  exact ⟨rfl, hb1.trans (hb2.mono hb1.size)⟩
theorem rasks2 (w : World) : Calls Try.prog 40 #[.agg #[.int .u8 3, .int .i64 100, .int .i64 0, .int .i64 256, .int .i64 0, .int .i64 0, .int .u8 0]] w fun e w' => e = .returned (.tuple #[.int .i64 2, .int .i64 4]) ∧ Below w.heap.size w w' := by
  have HS := Lib.hid (rsize_plain ⟨3, 100, 0, 256, 0, 0, 0⟩ (w.alloc (.cells (Cl.cells ⟨3, 100, 0, 256, 0, 0, 0⟩).toArray 27)) (by decide) (by decide) (by decide) (by decide))
  have hr := new_range w (Cl.cells ⟨3, 100, 0, 256, 0, 0, 0⟩) 27
  have HO := Lib.hid (fun w => of_any 100 256 w)
  have hov : ofV 100 256 = -1 := by kernel_rfl
  have HG := Lib.hid (fun w => cpages_any 100 w (by decide))
  have hpg : pagesV 100 = 2 := by kernel_rfl
  go_enter Try.func40, Try.ntmps40
  go_wp2_with (first
    | (refine wpList_load_mid rfl 27 (.tmp 1) rfl w.heap.size 0 rfl (Cl.cells ⟨3, 100, 0, 256, 0, 0, 0⟩) _ hr Try.underlying27 rfl Try.size_call ?_))
  refine HS.out.mono ?_
  rintro e w1 ⟨rfl, hb⟩
  have hc0 : w1.cell? ⟨w.heap.size, 0, none⟩ = some (.int .u8 3) := (hb.cell (by simp)).trans (by simpa using hr 0 _ rfl)
  have hc3 : w1.cell? ⟨w.heap.size, 3, none⟩ = some (.int .i64 256) := (hb.cell (by simp)).trans (by simpa using hr 3 _ rfl)
  have hb1 : Below w.heap.size w w1 := ((Below.refl _ w).alloc (Nat.le_refl _) _).trans (hb.mono (by simp))
  clear HS hr hb
  go_wp2_with fail
  refine (HO.out _).mono ?_
  rintro e w2 ⟨rfl, hb2⟩
  rw [hov]
  go_wp2_with fail
  refine (HG.out _).mono ?_
  rintro e w3 ⟨rfl, rfl⟩
  rw [hpg]
  go_wp2
  go_ret2
  exact ⟨rfl, hb1.trans (hb2.mono hb1.size)⟩
theorem lasks1 (w : World) : Calls Try.prog 24 #[.agg #[.int .u8 1, .int .i64 65, .int .i64 0, .int .i64 0, .int .i64 0, .int .i64 0, .int .u8 0], .int .i64 2, .int .i64 1] w fun e w' => e = .returned (.bool true) ∧ Below w.heap.size w w' := by
  have HS := Lib.hid (rasks1 (w.alloc (.cells (Cl.cells ⟨1, 65, 0, 0, 0, 0, 0⟩).toArray 27)))
  have hr := new_range w (Cl.cells ⟨1, 65, 0, 0, 0, 0, 0⟩) 27
  go_enter Try.func24, Try.ntmps24
  go_wp2_with (first
    | (refine wpList_load_mid rfl 27 (.tmp 3) rfl w.heap.size 0 rfl (Cl.cells ⟨1, 65, 0, 0, 0, 0, 0⟩) _ hr Try.underlying27 rfl Try.size_call ?_))
  refine HS.out.mono ?_
  rintro e w1 ⟨rfl, hb⟩
  have hb1 : Below w.heap.size w w1 := ((Below.refl _ w).alloc (Nat.le_refl _) _).trans (hb.mono (by simp))
  clear HS hr hb
  go_wp2
  go_ret
  exact ⟨rfl, hb1⟩
theorem lasks2 (w : World) : Calls Try.prog 24 #[.agg #[.int .u8 3, .int .i64 100, .int .i64 0, .int .i64 256, .int .i64 0, .int .i64 0, .int .u8 0], .int .i64 2, .int .i64 4] w fun e w' => e = .returned (.bool true) ∧ Below w.heap.size w w' := by
  have HS := Lib.hid (rasks2 (w.alloc (.cells (Cl.cells ⟨3, 100, 0, 256, 0, 0, 0⟩).toArray 27)))
  have hr := new_range w (Cl.cells ⟨3, 100, 0, 256, 0, 0, 0⟩) 27
  go_enter Try.func24, Try.ntmps24
  go_wp2_with (first
    | (refine wpList_load_mid rfl 27 (.tmp 3) rfl w.heap.size 0 rfl (Cl.cells ⟨3, 100, 0, 256, 0, 0, 0⟩) _ hr Try.underlying27 rfl Try.size_call ?_))
  refine HS.out.mono ?_
  rintro e w1 ⟨rfl, hb⟩
  have hb1 : Below w.heap.size w w1 := ((Below.refl _ w).alloc (Nat.le_refl _) _).trans (hb.mono (by simp))
  clear HS hr hb
  go_wp2
  go_ret
  exact ⟨rfl, hb1⟩
/-- a slice of one event, made anew. -/
theorem one_row {w : World} {x : Ev} (hx : x.ok) : EvRow (w.alloc (.cells x.cells.toArray 35)) (w.alloc (.cells x.cells.toArray 35)).heap.size (some ⟨w.heap.size, 0, none⟩) 1 1 [x] :=
  EvRow.of_block (heap_alloc_new w _) (by simp) (by intro e he; simp at he; rw [he]; exact hx) rfl (by decide) (by decide)
def oneE : Ev := takesE 1 8 64 8
theorem oneE_ok : oneE.ok := by unfold oneE takesE mkEv Ev.ok Cl.ok Rs.ok i64ok u8ok u64ok; simp
set_option maxRecDepth 100000 in
theorem one_any (w : World) : Calls Try.prog 25 #[] w fun e w' => ∃ A, e = .returned (.slice A 1 1) ∧ EvRow w' w'.heap.size A 1 1 [oneE] ∧ Below w.heap.size w w' := by
  have HT := Lib.hid (takes_any 1 8 64 8 w)
  change Hid (Calls Try.prog 13 _ _ fun e w' => e = .returned (.agg oneE.cells.toArray) ∧ _) at HT
  have hok := oneE_ok
  generalize oneE = x at HT hok
  go_enter Try.func25, Try.ntmps25
  go_wp2_with fail
  refine HT.out.mono ?_
  rintro e w1 ⟨rfl, hb⟩
  have HE := Lib.hid (one_row (w := w1) hok)
  have hb1 := hb.alloc hb.size (.cells x.cells.toArray 35)
  have HB := Lib.hid hb1
  clear HT hb hb1 hok
  go_wp2_with (first
    | (refine wpList_buildSlice_one rfl 22 (.tmp 1) rfl 35 _ 24 Try.underlying22 Try.zero_event x.cells.toArray rfl rfl (by decide) (by decide) ?_))
  go_ret
  exact ⟨_, rfl, HE.out, HB.out⟩
set_option maxRecDepth 100000 in
set_option maxHeartbeats 1000000 in
theorem awake23 (w : World) : Calls Try.prog 9 #[] w fun e w' => e = .returned (.bool true) ∧ Below w.heap.size w w' := by
  have H1 := Lib.hid lasks1
  have H2 := Lib.hid lasks2
  have HO := Lib.hid one_any
  have f1 : fitsV (liveV [oneE] 1) 4 2 1 = true := by kernel_rfl
  have f2 : fitsV (liveV [oneE] 1) 4 2 2 = true := by kernel_rfl
  have f3 : fitsV (liveV [oneE] 1) 4 3 1 = false := by kernel_rfl
  have f4 : fitsV (liveV [oneE] 0) 4 4 4 = true := by kernel_rfl
  have HF : Hid (∀ (A : Option Addr) (step k a : Int) (w : World), EvRow w w.heap.size A 1 1 [oneE] → Calls Try.prog 10 #[.slice A 1 1, .int .i64 4, .int .i64 step, .int .i64 k, .int .i64 a] w fun e w' => e = .returned (.bool (fitsV (liveV [oneE] step) 4 k a)) ∧ Below w.heap.size w w') :=
    Lib.hid fun A step k a w hE => fits_any A 1 1 [oneE] 4 step k a w hE (by decide) (by unfold i64ok; omega)
  have F1 := Lib.hid f1
  have F2 := Lib.hid f2
  have F3 := Lib.hid f3
  have F4 := Lib.hid f4
  clear f1 f2 f3 f4
  go_enter Try.func9, Try.ntmps9
  go_wp2_with fail
  refine (H1.out _).mono ?_
  rintro e w1 ⟨rfl, b1⟩
  go_wp2_with fail
  refine (H2.out _).mono ?_
  rintro e w2 ⟨rfl, b2⟩
  have b2 := b1.trans (b2.mono b1.size)
  clear b1
  go_wp2_with fail
  refine (HO.out _).mono ?_
  rintro e w3 ⟨A3, rfl, r3, b3⟩
  have b3 := b2.trans (b3.mono b2.size)
  clear b2
  go_wp2_with fail
  refine (HF.out A3 1 2 1 _ r3).mono ?_
  rintro e w4 ⟨rfl, b4⟩
  rw [F1.out]
  have b4 := b3.trans (b4.mono b3.size)
  clear b3 r3
  go_wp2_with fail
  refine (HO.out _).mono ?_
  rintro e w5 ⟨A5, rfl, r5, b5⟩
  have b5 := b4.trans (b5.mono b4.size)
  clear b4
  go_wp2_with fail
  refine (HF.out A5 1 2 2 _ r5).mono ?_
  rintro e w6 ⟨rfl, b6⟩
  rw [F2.out]
  have b6 := b5.trans (b6.mono b5.size)
  clear b5 r5
  go_wp2_with fail
  refine (HO.out _).mono ?_
  rintro e w7 ⟨A7, rfl, r7, b7⟩
  have b7 := b6.trans (b7.mono b6.size)
  clear b6
  go_wp2_with fail
  refine (HF.out A7 1 3 1 _ r7).mono ?_
  rintro e w8 ⟨rfl, b8⟩
  rw [F3.out]
  have b8 := b7.trans (b8.mono b7.size)
  clear b7 r7
  go_wp2_with fail
  refine (HO.out _).mono ?_
  rintro e w9 ⟨A9, rfl, r9, b9⟩
  have b9 := b8.trans (b9.mono b8.size)
  clear b8
  go_wp2_with fail
  refine (HF.out A9 0 4 4 _ r9).mono ?_
  rintro e wa ⟨rfl, ba⟩
  rw [F4.out]
  have ba := b9.trans (ba.mono b9.size)
  clear b9 r9
  go_wp2
  go_ret
  exact ⟨rfl, ba⟩
end Go.Proofs.Ytoaaoggggjjbaaa
