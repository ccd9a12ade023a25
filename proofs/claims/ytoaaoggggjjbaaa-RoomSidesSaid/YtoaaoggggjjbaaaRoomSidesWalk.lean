/- RoomSides walked. -/
import Derived.Test.YtoaaoggggjjbaaaAlone
import Derived.Test.YtoaaoggggjjbaaaRoomAwake
namespace Go.Proofs.Ytoaaoggggjjbaaa
open Go.RowKit Go.Deep
theorem Try.buildSlice_two (x y : Ev) (w : World) : (Instr.buildSlice 22 2 #[(0, .agg x.cells.toArray), (1, .agg y.cells.toArray)]).run Try.prog w = .ok (.slice (some ⟨w.heap.size, 0, none⟩) 2 2) (w.alloc (.cells (x.cells ++ y.cells).toArray 35)) := by kernel_rfl
theorem wpList_buildSlice_by {P : Program} {ops : Array Oper} {rest : List Oper} {op : Oper} {a : Act} {w : World} {Q : Exit → Act → World → Prop} (hgd : op.guard = none) (t : TypeId) (n : Nat) (fs : List (Nat × Operand)) (ho : op.op = .buildSlice t n fs.toArray)
    (vs : List (Nat × Value)) (hfs : fs.map (fun p => (p.1, a.eval p.2)) = vs) (v : Value) (w' : World) (hrun : (Instr.buildSlice t n vs.toArray).run P w = .ok v w') (h : wpList P ops Q rest (a.put op.dst v) w') : wpList P ops Q (op :: rest) a w := by
  refine wpList_plain hgd fun _ hK => ?_
  unfold Oper.wp execOp
  simp only [ho]
  have e : fs.map (fun (i, o) => (i, a.eval o)) = vs := hfs
  simp only [List.map_toArray, e, hrun, Sem.run_bind, Sem.run_pure, Result.andThen_ok]
  exact hK _ _ h
theorem alone_two0 {x y : Ev} : AloneTo [x, y] 0 x 2 ↔ clashB x y = false := by
  constructor
  · intro h; exact h 1 y (by omega) (by omega) rfl
  · intro h k e hk hk0 he
    obtain rfl : k = 1 := by omega
    simp at he; subst he; exact h
theorem alone_two1 {x y : Ev} : AloneTo [x, y] 1 y 2 ↔ clashB y x = false := by
  constructor
  · intro h; exact h 0 x (by omega) (by omega) rfl
  · intro h k e hk hk0 he
    obtain rfl : k = 0 := by omega
    simp at he; subst he; exact h
theorem alone_one {x : Ev} : AloneTo [x] 0 x 1 := fun k e hk hk0 _ => by omega
theorem two_row {w : World} {x y : Ev} (hx : x.ok) (hy : y.ok) : EvRow (w.alloc (.cells (x.cells ++ y.cells).toArray 35)) (w.alloc (.cells (x.cells ++ y.cells).toArray 35)).heap.size (some ⟨w.heap.size, 0, none⟩) 2 2 [x, y] :=
  EvRow.of_block (heap_alloc_new w _) (by simp) (by intro e he; simp at he; rcases he with h | h <;> subst h <;> assumption) rfl (by decide) (by decide)
theorem first_row {w : World} {B : Nat} {A : Option Addr} {x y : Ev} (h : EvRow w B A 2 2 [x, y]) : EvRow w B A 1 2 [x] := by
  obtain ⟨h1, h2, h3, h4, h5⟩ := h
  refine ⟨rfl, by omega, h3, fun e he => h4 e (by simp at he; subst he; simp), fun _ => ?_⟩
  obtain ⟨b, o, hA, hb, hr⟩ := h5 (by omega)
  refine ⟨b, o, hA, hb, fun i e he => hr i e ?_⟩
  cases i with
  | zero => exact he
  | succ i => simp at he
set_option maxRecDepth 100000 in
set_option maxHeartbeats 2000000 in
theorem roomSides_any (a b c d : Int) (e f : Ev) (w : World) (ha : i64ok a) (hb : i64ok b) (hc : i64ok c) (hd : i64ok d) (he : e.ok) (hf : f.ok) :
    Calls Try.prog 6 #[.int .i64 a, .int .i64 b, .int .i64 c, .int .i64 d, .agg e.cells.toArray, .agg f.cells.toArray] w fun x w' => x = .returned (.bool true) ∧ Below w.heap.size w w' := by
  have HW := Lib.hid awake23
  have hx : ((e.cells.set 8 (.int .i64 a)).set 9 (.int .i64 b)).set 12 (.bool true) = (Ev.mk e.thread e.call a b e.lin e.touch true e.r).cells := rfl
  have hy : ((f.cells.set 8 (.int .i64 c)).set 9 (.int .i64 d)).set 12 (.bool true) = (Ev.mk f.thread f.call c d f.lin f.touch true f.r).cells := rfl
  have hxok : (Ev.mk e.thread e.call a b e.lin e.touch true e.r).ok := ⟨he.1, he.2.1, ha, hb, he.2.2.2.2.1, he.2.2.2.2.2.1, he.2.2.2.2.2.2⟩
  have hyok : (Ev.mk f.thread f.call c d f.lin f.touch true f.r).ok := ⟨hf.1, hf.2.1, hc, hd, hf.2.2.2.2.1, hf.2.2.2.2.2.1, hf.2.2.2.2.2.2⟩
  have hxd : (Ev.mk e.thread e.call a b e.lin e.touch true e.r).done = true := rfl
  have hyd : (Ev.mk f.thread f.call c d f.lin f.touch true f.r).done = true := rfl
  have hxy : clashB (Ev.mk e.thread e.call a b e.lin e.touch true e.r) (Ev.mk f.thread f.call c d f.lin f.touch true f.r) = (decide (1 ≤ c) && decide (c ≤ b) && decide (a ≤ d)) := rfl
  have hyx : clashB (Ev.mk f.thread f.call c d f.lin f.touch true f.r) (Ev.mk e.thread e.call a b e.lin e.touch true e.r) = (decide (1 ≤ a) && decide (a ≤ d) && decide (c ≤ b)) := rfl
  have e8 : e.cells[8]? = some (.int .i64 e.sfrom) := rfl
  have e9 : e.cells[9]? = some (.int .i64 e.to) := rfl
  have e12 : e.cells[12]? = some (.bool e.done) := rfl
  have f8 : f.cells[8]? = some (.int .i64 f.sfrom) := rfl
  have f9 : f.cells[9]? = some (.int .i64 f.to) := rfl
  have f12 : f.cells[12]? = some (.bool f.done) := rfl
  have HX := Lib.hid hx
  have HY := Lib.hid hy
  clear hx hy he hf
  go_enter Try.func6, Try.ntmps6
  go_upto_region 3 with (fail)
  rw [HX.out, HY.out]
  generalize Ev.mk e.thread e.call a b e.lin e.touch true e.r = x at hxok hxd hxy hyx
  generalize Ev.mk f.thread f.call c d f.lin f.touch true f.r = y at hyok hyd hxy hyx
  clear HX HY e8 e9 e12 f8 f9 f12 ha hb hc hd
  have RX := Lib.hid (World.rangeAt_alloc (new_range w x.cells 35) (.cells y.cells.toArray 35))
  have ry : ((w.alloc (.cells x.cells.toArray 35)).alloc (.cells y.cells.toArray 35)).rangeAt (w.heap.size + 1) 0 y.cells := by have := new_range (w.alloc (.cells x.cells.toArray 35)) y.cells 35; simpa using this
  have RY := Lib.hid ry
  have HE := Lib.hid (two_row (w := (w.alloc (.cells x.cells.toArray 35)).alloc (.cells y.cells.toArray 35)) hxok hyok)
  have HBT := Lib.hid (fun (w' : World) (h : Below (((w.alloc (.cells x.cells.toArray 35)).alloc (.cells y.cells.toArray 35)).alloc (.cells (x.cells ++ y.cells).toArray 35)).heap.size (((w.alloc (.cells x.cells.toArray 35)).alloc (.cells y.cells.toArray 35)).alloc (.cells (x.cells ++ y.cells).toArray 35)) w') => (below3 w (.cells x.cells.toArray 35) (.cells y.cells.toArray 35) (.cells (x.cells ++ y.cells).toArray 35)).trans (h.mono (below3 w _ _ _).size))
  clear ry hxok hyok
  have hsz : ((w.alloc (.cells x.cells.toArray 35)).alloc (.cells y.cells.toArray 35)).heap.size = w.heap.size + 1 + 1 := by simp
  have HBS : Hid ((Instr.buildSlice 22 2 #[(0, .agg x.cells.toArray), (1, .agg y.cells.toArray)]).run Try.prog ((w.alloc (.cells x.cells.toArray 35)).alloc (.cells y.cells.toArray 35)) = .ok (.slice (some ⟨w.heap.size + 1 + 1, 0, none⟩) 2 2) (((w.alloc (.cells x.cells.toArray 35)).alloc (.cells y.cells.toArray 35)).alloc (.cells (x.cells ++ y.cells).toArray 35))) := Lib.hid (by rw [Try.buildSlice_two, hsz])
  have hE := HE.out
  rw [hsz] at hE
  clear hsz HE
  generalize hW0 : ((w.alloc (.cells x.cells.toArray 35)).alloc (.cells y.cells.toArray 35)).alloc (.cells (x.cells ++ y.cells).toArray 35) = W0 at HBS HBT hE
  clear hW0
  have HA0 : Hid (∀ w1, Below W0.heap.size W0 w1 → Calls Try.prog 14 #[.slice (some ⟨w.heap.size + 1 + 1, 0, none⟩) 2 2, .int .i64 0] w1 fun e w' => e = .returned (.bool (!clashB x y)) ∧ Below W0.heap.size W0 w') := Lib.hid fun w1 hb => (alone_any _ 2 2 [x, y] 0 0 rfl x w1 ((hE.below hb).more hb.size) (by omega) rfl hxd).mono (by
    rintro e w' ⟨⟨b, rfl, hb2⟩, h2⟩
    refine ⟨ret_bool ?_, hb.trans (h2.mono hb.size)⟩
    rw [alone_two0] at hb2
    cases b <;> cases hcl : clashB x y <;> simp_all)
  have HA2 : Hid (∀ w1, Below W0.heap.size W0 w1 → Calls Try.prog 14 #[.slice (some ⟨w.heap.size + 1 + 1, 0, none⟩) 2 2, .int .i64 1] w1 fun e w' => e = .returned (.bool (!clashB y x)) ∧ Below W0.heap.size W0 w') := Lib.hid fun w1 hb => (alone_any _ 2 2 [x, y] 1 1 rfl y w1 ((hE.below hb).more hb.size) (by omega) rfl hyd).mono (by
    rintro e w' ⟨⟨b, rfl, hb2⟩, h2⟩
    refine ⟨ret_bool ?_, hb.trans (h2.mono hb.size)⟩
    rw [alone_two1] at hb2
    cases b <;> cases hcl : clashB y x <;> simp_all)
  have HA1 : Hid (∀ w1, Below W0.heap.size W0 w1 → Calls Try.prog 14 #[.slice (some ⟨w.heap.size + 1 + 1, 0, none⟩) 1 2, .int .i64 0] w1 fun e w' => e = .returned (.bool true) ∧ Below W0.heap.size W0 w') := Lib.hid fun w1 hb => (alone_any _ 1 2 [x] 0 0 rfl x w1 ((first_row hE).below hb |>.more hb.size) (by omega) rfl hxd).mono (by
    rintro e w' ⟨⟨b, rfl, hb2⟩, h2⟩
    exact ⟨ret_bool (hb2.2 alone_one), hb.trans (h2.mono hb.size)⟩)
  clear hE hxd hyd
  by_cases t1 : 1 ≤ a
  · by_cases t2 : 1 ≤ c
    · by_cases q2 : d < a
      · have vr : clashB x y = false := by rw [hxy]; simp; omega
        have vs : clashB y x = false := by rw [hyx]; simp; omega
        have VS := Lib.hid vs
        clear vs
        have VR := Lib.hid vr
        clear vr hxy hyx
        go_wp2_with (first | (refine wpList_buildSlice_by rfl 22 2 [(0, .tmp 25), (1, .tmp 26)] rfl [(0, .agg x.cells.toArray), (1, .agg y.cells.toArray)] rfl _ _ HBS.out ?_) | (refine wpList_load_mid rfl 35 (.tmp 10) rfl w.heap.size 0 rfl x.cells _ RX.out Try.underlying35 rfl Try.size_event ?_) | (refine wpList_load_mid rfl 35 (.tmp 11) rfl (w.heap.size + 1) 0 rfl y.cells _ RY.out Try.underlying35 rfl Try.size_event ?_))
        refine (HA0.out _ (Below.refl _ _)).mono ?_
        rintro e1 w1 ⟨rfl, b1⟩
        rw [VR.out]
        go_wp2_with fail
        refine (HA2.out _ b1).mono ?_
        rintro e1 w2 ⟨rfl, b2⟩
        rw [VS.out]
        go_wp2_with fail
        refine (HA0.out _ b2).mono ?_
        rintro e1 w3 ⟨rfl, b3⟩
        rw [VR.out]
        go_wp2_with fail
        refine (HA1.out _ b3).mono ?_
        rintro e1 w4 ⟨rfl, b4⟩
        go_wp2_with fail
        refine (HW.out _).mono ?_
        rintro e1 w5 ⟨rfl, b5⟩
        have bb := HBT.out _ (b4.trans (b5.mono b4.size))
        clear b1 b2 b3 b4 b5
        go_wp2
        go_ret
        first | exact ⟨rfl, bb⟩ | exact ⟨ret_bool (by simp; omega), bb⟩
      · by_cases q3 : b < c
        · have vr : clashB x y = false := by rw [hxy]; simp; omega
          have vs : clashB y x = false := by rw [hyx]; simp; omega
          have VS := Lib.hid vs
          clear vs
          have VR := Lib.hid vr
          clear vr hxy hyx
          go_wp2_with (first | (refine wpList_buildSlice_by rfl 22 2 [(0, .tmp 25), (1, .tmp 26)] rfl [(0, .agg x.cells.toArray), (1, .agg y.cells.toArray)] rfl _ _ HBS.out ?_) | (refine wpList_load_mid rfl 35 (.tmp 10) rfl w.heap.size 0 rfl x.cells _ RX.out Try.underlying35 rfl Try.size_event ?_) | (refine wpList_load_mid rfl 35 (.tmp 11) rfl (w.heap.size + 1) 0 rfl y.cells _ RY.out Try.underlying35 rfl Try.size_event ?_))
          refine (HA0.out _ (Below.refl _ _)).mono ?_
          rintro e1 w1 ⟨rfl, b1⟩
          rw [VR.out]
          go_wp2_with fail
          refine (HA2.out _ b1).mono ?_
          rintro e1 w2 ⟨rfl, b2⟩
          rw [VS.out]
          go_wp2_with fail
          refine (HA0.out _ b2).mono ?_
          rintro e1 w3 ⟨rfl, b3⟩
          rw [VR.out]
          go_wp2_with fail
          refine (HA1.out _ b3).mono ?_
          rintro e1 w4 ⟨rfl, b4⟩
          go_wp2_with fail
          refine (HW.out _).mono ?_
          rintro e1 w5 ⟨rfl, b5⟩
          have bb := HBT.out _ (b4.trans (b5.mono b4.size))
          clear b1 b2 b3 b4 b5
          go_wp2
          go_ret
          first | exact ⟨rfl, bb⟩ | exact ⟨ret_bool (by simp; omega), bb⟩
        · have vr : clashB x y = true := by rw [hxy]; simp; omega
          have vs : clashB y x = true := by rw [hyx]; simp; omega
          have VS := Lib.hid vs
          clear vs
          have VR := Lib.hid vr
          clear vr hxy hyx
          go_wp2_with (first | (refine wpList_buildSlice_by rfl 22 2 [(0, .tmp 25), (1, .tmp 26)] rfl [(0, .agg x.cells.toArray), (1, .agg y.cells.toArray)] rfl _ _ HBS.out ?_) | (refine wpList_load_mid rfl 35 (.tmp 10) rfl w.heap.size 0 rfl x.cells _ RX.out Try.underlying35 rfl Try.size_event ?_) | (refine wpList_load_mid rfl 35 (.tmp 11) rfl (w.heap.size + 1) 0 rfl y.cells _ RY.out Try.underlying35 rfl Try.size_event ?_))
          refine (HA0.out _ (Below.refl _ _)).mono ?_
          rintro e1 w1 ⟨rfl, b1⟩
          rw [VR.out]
          go_wp2_with fail
          refine (HA2.out _ b1).mono ?_
          rintro e1 w2 ⟨rfl, b2⟩
          rw [VS.out]
          go_wp2_with fail
          refine (HA0.out _ b2).mono ?_
          rintro e1 w3 ⟨rfl, b3⟩
          rw [VR.out]
          go_wp2_with fail
          refine (HA1.out _ b3).mono ?_
          rintro e1 w4 ⟨rfl, b4⟩
          go_wp2_with fail
          refine (HW.out _).mono ?_
          rintro e1 w5 ⟨rfl, b5⟩
          have bb := HBT.out _ (b4.trans (b5.mono b4.size))
          clear b1 b2 b3 b4 b5
          go_wp2
          go_ret
          first | exact ⟨rfl, bb⟩ | exact ⟨ret_bool (by simp; omega), bb⟩
    · have vr : clashB x y = false := by rw [hxy]; simp; omega
      have VR := Lib.hid vr
      clear vr hxy hyx
      go_wp2_with (first | (refine wpList_buildSlice_by rfl 22 2 [(0, .tmp 25), (1, .tmp 26)] rfl [(0, .agg x.cells.toArray), (1, .agg y.cells.toArray)] rfl _ _ HBS.out ?_) | (refine wpList_load_mid rfl 35 (.tmp 10) rfl w.heap.size 0 rfl x.cells _ RX.out Try.underlying35 rfl Try.size_event ?_) | (refine wpList_load_mid rfl 35 (.tmp 11) rfl (w.heap.size + 1) 0 rfl y.cells _ RY.out Try.underlying35 rfl Try.size_event ?_))
      refine (HA0.out _ (Below.refl _ _)).mono ?_
      rintro e1 w1 ⟨rfl, b1⟩
      rw [VR.out]
      go_wp2_with fail
      refine (HA1.out _ b1).mono ?_
      rintro e1 w2 ⟨rfl, b2⟩
      go_wp2_with fail
      refine (HW.out _).mono ?_
      rintro e1 w3 ⟨rfl, b3⟩
      have bb := HBT.out _ (b2.trans (b3.mono b2.size))
      clear b1 b2 b3
      go_wp2
      go_ret
      first | exact ⟨rfl, bb⟩ | exact ⟨ret_bool (by simp; omega), bb⟩
  · by_cases q1 : c < 1
    · have vr : clashB x y = false := by rw [hxy]; simp; omega
      have VR := Lib.hid vr
      clear vr hxy hyx
      go_wp2_with (first | (refine wpList_buildSlice_by rfl 22 2 [(0, .tmp 25), (1, .tmp 26)] rfl [(0, .agg x.cells.toArray), (1, .agg y.cells.toArray)] rfl _ _ HBS.out ?_) | (refine wpList_load_mid rfl 35 (.tmp 10) rfl w.heap.size 0 rfl x.cells _ RX.out Try.underlying35 rfl Try.size_event ?_) | (refine wpList_load_mid rfl 35 (.tmp 11) rfl (w.heap.size + 1) 0 rfl y.cells _ RY.out Try.underlying35 rfl Try.size_event ?_))
      refine (HA0.out _ (Below.refl _ _)).mono ?_
      rintro e1 w1 ⟨rfl, b1⟩
      rw [VR.out]
      go_wp2_with fail
      refine (HA1.out _ b1).mono ?_
      rintro e1 w2 ⟨rfl, b2⟩
      go_wp2_with fail
      refine (HW.out _).mono ?_
      rintro e1 w3 ⟨rfl, b3⟩
      have bb := HBT.out _ (b2.trans (b3.mono b2.size))
      clear b1 b2 b3
      go_wp2
      go_ret
      first | exact ⟨rfl, bb⟩ | exact ⟨ret_bool (by simp; omega), bb⟩
    · by_cases q2 : d < a
      · have vr : clashB x y = false := by rw [hxy]; simp; omega
        have VR := Lib.hid vr
        clear vr hxy hyx
        go_wp2_with (first | (refine wpList_buildSlice_by rfl 22 2 [(0, .tmp 25), (1, .tmp 26)] rfl [(0, .agg x.cells.toArray), (1, .agg y.cells.toArray)] rfl _ _ HBS.out ?_) | (refine wpList_load_mid rfl 35 (.tmp 10) rfl w.heap.size 0 rfl x.cells _ RX.out Try.underlying35 rfl Try.size_event ?_) | (refine wpList_load_mid rfl 35 (.tmp 11) rfl (w.heap.size + 1) 0 rfl y.cells _ RY.out Try.underlying35 rfl Try.size_event ?_))
        refine (HA0.out _ (Below.refl _ _)).mono ?_
        rintro e1 w1 ⟨rfl, b1⟩
        rw [VR.out]
        go_wp2_with fail
        refine (HA1.out _ b1).mono ?_
        rintro e1 w2 ⟨rfl, b2⟩
        go_wp2_with fail
        refine (HW.out _).mono ?_
        rintro e1 w3 ⟨rfl, b3⟩
        have bb := HBT.out _ (b2.trans (b3.mono b2.size))
        clear b1 b2 b3
        go_wp2
        go_ret
        first | exact ⟨rfl, bb⟩ | exact ⟨ret_bool (by simp; omega), bb⟩
      · by_cases q3 : b < c
        · have vr : clashB x y = false := by rw [hxy]; simp; omega
          have VR := Lib.hid vr
          clear vr hxy hyx
          go_wp2_with (first | (refine wpList_buildSlice_by rfl 22 2 [(0, .tmp 25), (1, .tmp 26)] rfl [(0, .agg x.cells.toArray), (1, .agg y.cells.toArray)] rfl _ _ HBS.out ?_) | (refine wpList_load_mid rfl 35 (.tmp 10) rfl w.heap.size 0 rfl x.cells _ RX.out Try.underlying35 rfl Try.size_event ?_) | (refine wpList_load_mid rfl 35 (.tmp 11) rfl (w.heap.size + 1) 0 rfl y.cells _ RY.out Try.underlying35 rfl Try.size_event ?_))
          refine (HA0.out _ (Below.refl _ _)).mono ?_
          rintro e1 w1 ⟨rfl, b1⟩
          rw [VR.out]
          go_wp2_with fail
          refine (HA1.out _ b1).mono ?_
          rintro e1 w2 ⟨rfl, b2⟩
          go_wp2_with fail
          refine (HW.out _).mono ?_
          rintro e1 w3 ⟨rfl, b3⟩
          have bb := HBT.out _ (b2.trans (b3.mono b2.size))
          clear b1 b2 b3
          go_wp2
          go_ret
          first | exact ⟨rfl, bb⟩ | exact ⟨ret_bool (by simp; omega), bb⟩
        · have vr : clashB x y = true := by rw [hxy]; simp; omega
          have VR := Lib.hid vr
          clear vr hxy hyx
          go_wp2_with (first | (refine wpList_buildSlice_by rfl 22 2 [(0, .tmp 25), (1, .tmp 26)] rfl [(0, .agg x.cells.toArray), (1, .agg y.cells.toArray)] rfl _ _ HBS.out ?_) | (refine wpList_load_mid rfl 35 (.tmp 10) rfl w.heap.size 0 rfl x.cells _ RX.out Try.underlying35 rfl Try.size_event ?_) | (refine wpList_load_mid rfl 35 (.tmp 11) rfl (w.heap.size + 1) 0 rfl y.cells _ RY.out Try.underlying35 rfl Try.size_event ?_))
          refine (HA0.out _ (Below.refl _ _)).mono ?_
          rintro e1 w1 ⟨rfl, b1⟩
          rw [VR.out]
          go_wp2_with fail
          refine (HA1.out _ b1).mono ?_
          rintro e1 w2 ⟨rfl, b2⟩
          go_wp2_with fail
          refine (HW.out _).mono ?_
          rintro e1 w3 ⟨rfl, b3⟩
          have bb := HBT.out _ (b2.trans (b3.mono b2.size))
          clear b1 b2 b3
          go_wp2
          go_ret
          first | exact ⟨rfl, bb⟩ | exact ⟨ret_bool (by simp; omega), bb⟩
end Go.Proofs.Ytoaaoggggjjbaaa
