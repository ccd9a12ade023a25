/- quilletlaw22's makers of events. -/
import Derived.Test.YtoaaoggggjjbaaaEvents
import Derived.Test.YtoaaoggggjjbaaaClass
import Derived.Test.YtoaaoggggjjbaaaTaken
namespace Go.Proofs.Ytoaaoggggjjbaaa
open Go.RowKit Go.Deep
def mkEv (lin : Int) (c : Cl) (r : Rs) : Ev := ⟨0, c, lin, lin, lin, -1, true, r⟩
def zero24 : Array Value := #[.int .i64 0, .int .u8 0, .int .i64 0, .int .i64 0, .int .i64 0, .int .i64 0, .int .i64 0, .int .u8 0, .int .i64 0, .int .i64 0, .int .i64 0, .int .i64 0, .bool false, .int .i64 0, .int .i64 0, .int .u8 0, .int .u64 0, .int .u64 0, .int .u64 0, .int .u64 0, .int .u64 0, .int .i64 0, .int .i64 0, .int .i64 0]
theorem there_result {w w1 : World} {c : Array Value} {t : TypeId} (hb : w1.heap[w.heap.size]? = some (.cells c t)) {n : Nat} (hn : n ≤ c.size) : w1.there w.heap.size 0 n := fun j hj => by
  constructor
  · rw [Nat.zero_add, cell_of_row w1 _ _ _ _ _ hb, Array.getElem?_eq_getElem (by omega)]; rfl
  · simp [World.frozen?, hb]
theorem load_new (e : Ev) (w : World) : (loadVar 35 ⟨w.heap.size, 0, none⟩).run Try.prog (w.alloc (.cells e.cells.toArray 35)) = .ok (.agg e.cells.toArray) (w.alloc (.cells e.cells.toArray 35)) := by
  refine run_loadVar_mid (P := Try.prog) _ w.heap.size 0 35 e.cells _ (fun j v hv => ?_) Try.underlying35 rfl Try.size_event
  rw [Nat.zero_add, cell_of_row _ _ _ _ _ _ (heap_alloc_new w _)]
  simpa using hv
theorem Cl.oneCell (c : Cl) : ∀ v ∈ c.cells, v.oneCell' = true := by
  intro v hv
  simp only [Cl.cells, List.mem_cons, List.mem_nil_iff, or_false] at hv
  rcases hv with h | h | h | h | h | h | h <;> subst h <;> rfl
theorem Rs.oneCell (r : Rs) : ∀ v ∈ r.cells, v.oneCell' = true := by
  intro v hv
  simp only [Rs.cells, List.mem_cons, List.mem_nil_iff, or_false] at hv
  rcases hv with h | h | h | h | h | h | h | h | h | h | h <;> subst h <;> rfl
theorem Try.size_call : (Try.prog.info? 27).map (·.size) = some 7 := by kernel_rfl
theorem Try.size_result : (Try.prog.info? 33).map (·.size) = some 11 := by kernel_rfl
theorem Try.build_event (lin : Int) (c : Cl) (r : Rs) (w : World) : (Instr.build 35 #[(1, .agg c.cells.toArray), (2, .int .i64 lin), (3, .int .i64 lin), (4, .int .i64 lin), (5, .int .i64 (-1)), (6, .bool true), (7, .agg r.cells.toArray)]).run Try.prog w = .ok (.agg (mkEv lin c r).cells.toArray) w := by kernel_rfl
theorem new_range (w : World) (cs : List Value) (t : TypeId) : (w.alloc (.cells cs.toArray t)).rangeAt w.heap.size 0 cs := fun j v hv => by
  rw [Nat.zero_add, cell_of_row _ _ _ _ _ _ (heap_alloc_new w _)]
  simpa using hv
theorem below3 (w : World) (A B C : Obj) : Below w.heap.size w (((w.alloc A).alloc B).alloc C) := (((Below.refl _ w).alloc (Nat.le_refl _) _).alloc (by simp) _).alloc (by simp; omega) _
theorem range3a (w : World) (cs : List Value) (t : TypeId) (B C : Obj) : (((w.alloc (.cells cs.toArray t)).alloc B).alloc C).rangeAt w.heap.size 0 cs := World.rangeAt_alloc (World.rangeAt_alloc (new_range w _ _) _) _
theorem range3b (w : World) (cs : List Value) (t : TypeId) (A C : Obj) : (((w.alloc A).alloc (.cells cs.toArray t)).alloc C).rangeAt (w.heap.size + 1) 0 cs := World.rangeAt_alloc (by have := new_range (w.alloc A) cs t; simpa using this) _
theorem wpList_build_by {P : Program} {ops : Array Oper} {rest : List Oper} {op : Oper} {a : Act} {w : World} {Q : Exit → Act → World → Prop} (hgd : op.guard = none) (t : TypeId) (fs : List (Nat × Operand)) (ho : op.op = .build t fs.toArray)
    (vs : List (Nat × Value)) (hfs : fs.map (fun p => (p.1, a.eval p.2)) = vs) (v : Value) (hrun : ∀ w, (Instr.build t vs.toArray).run P w = .ok v w) (h : wpList P ops Q rest (a.put op.dst v) w) : wpList P ops Q (op :: rest) a w := by
  refine wpList_plain hgd fun _ hK => ?_
  unfold Oper.wp execOp
  simp only [ho]
  have e : fs.map (fun (i, o) => (i, a.eval o)) = vs := hfs
  simp only [List.map_toArray, e, hrun, Sem.run_bind, Sem.run_pure, Result.andThen_ok]
  exact hK _ _ h
theorem load_new' (e : List Value) (hs : (Try.prog.info? 35).map (·.size) = some e.length) (w : World) : (loadVar 35 ⟨w.heap.size, 0, none⟩).run Try.prog (w.alloc (.cells e.toArray 35)) = .ok (.agg e.toArray) (w.alloc (.cells e.toArray 35)) :=
  run_loadVar_mid (P := Try.prog) _ w.heap.size 0 35 e _ (new_range w e _) Try.underlying35 rfl hs
set_option maxRecDepth 100000 in
theorem event_gen (lin : Int) (c r e : List Value) (hc : (Try.prog.info? 27).map (·.size) = some c.length) (hr : (Try.prog.info? 33).map (·.size) = some r.length) (he : (Try.prog.info? 35).map (·.size) = some e.length)
    (hone : ∀ v ∈ e, v.oneCell' = true) (hel : 24 = e.length)
    (hbuild : ∀ w, (Instr.build 35 #[(1, .agg c.toArray), (2, .int .i64 lin), (3, .int .i64 lin), (4, .int .i64 lin), (5, .int .i64 (-1)), (6, .bool true), (7, .agg r.toArray)]).run Try.prog w = .ok (.agg e.toArray) w) (w : World) :
    Calls Try.prog 17 #[.int .i64 lin, .agg c.toArray, .agg r.toArray] w fun x w' => x = .returned (.agg e.toArray) ∧ Below w.heap.size w w' := by
  have HL := Lib.hid (load_new' e he ((w.alloc (.cells c.toArray 27)).alloc (.cells r.toArray 33)))
  have HB := Lib.hid (below3 w (.cells c.toArray 27) (.cells r.toArray 33) (.cells e.toArray 35))
  have R1 := Lib.hid (range3a w c 27 (.cells r.toArray 33) (.cells zero24 35))
  have R2 := Lib.hid (range3b w r 33 (.cells c.toArray 27) (.cells zero24 35))
  have HC := Lib.hid hc
  have HR := Lib.hid hr
  have HE := Lib.hid he
  have HO := Lib.hid (all_oneCell_toArray hone)
  have HN := Lib.hid (show zero24.size = e.toArray.size from hel)
  have HPT := Lib.hid (show Value.pointer (some ⟨w.heap.size + 1 + 1, 0, none⟩) = Value.pointer (some ⟨((w.alloc (.cells c.toArray 27)).alloc (.cells r.toArray 33)).heap.size, 0, none⟩) by simp)
  clear hc hr he hone hel
  go_enter Try.func17, Try.ntmps17
  go_wp2_with (first
    | (refine wpList_load_mid rfl 27 (.tmp 4) rfl w.heap.size 0 rfl c _ R1.out Try.underlying27 rfl HC.out ?_)
    | (refine wpList_load_mid rfl 33 (.tmp 5) rfl (w.heap.size + 1) 0 rfl r _ R2.out Try.underlying33 rfl HR.out ?_)
    | (refine wpList_build_by rfl 35 [(1, .tmp 7), (2, .tmp 8), (3, .tmp 9), (4, .tmp 10), (5, .const (.int .i64 (-1))), (6, .const (.bool true)), (7, .tmp 11)] rfl [(1, .agg c.toArray), (2, .int .i64 lin), (3, .int .i64 lin), (4, .int .i64 lin), (5, .int .i64 (-1)), (6, .bool true), (7, .agg r.toArray)] rfl _ hbuild ?_)
    | (refine wpList_store_new rfl 35 (.tmp 6) (.tmp 12) rfl ((w.alloc (.cells c.toArray 27)).alloc (.cells r.toArray 33)) zero24 e.toArray rfl HPT.out rfl HE.out HN.out HO.out ?_))
  refine bodyPost_ret (results_cell (b := ((w.alloc (.cells c.toArray 27)).alloc (.cells r.toArray 33)).heap.size) rfl HPT.out HL.out) rfl ?_
  exact ⟨rfl, HB.out⟩
theorem event_any (lin : Int) (c : Cl) (r : Rs) (w : World) : Calls Try.prog 17 #[.int .i64 lin, .agg c.cells.toArray, .agg r.cells.toArray] w fun e w' => e = .returned (.agg (mkEv lin c r).cells.toArray) ∧ Below w.heap.size w w' :=
  event_gen lin c.cells r.cells (mkEv lin c r).cells Try.size_call Try.size_result Try.size_event (mkEv lin c r).oneCell rfl (Try.build_event lin c r) w
/-- a result variable of type Event, made first, written last. -/
theorem result_event {w w1 : World} (e : Ev) (hb : Below (w.heap.size + 1) (w.alloc (.cells zero24 35)) w1) :
    w1.there w.heap.size 0 e.cells.toArray.size ∧ (loadVar 35 ⟨w.heap.size, 0, none⟩).run Try.prog (w1.setCells w.heap.size 0 e.cells) = .ok (.agg e.cells.toArray) (w1.setCells w.heap.size 0 e.cells) ∧ Below w.heap.size w (w1.setCells w.heap.size 0 e.cells) := by
  have hblk : w1.heap[w.heap.size]? = some (.cells zero24 35) := by
    rw [hb.block w.heap.size (by omega)]
    exact heap_alloc_last _ _
  have hth : w1.there w.heap.size 0 e.cells.length := there_result hblk (Nat.le_refl _)
  exact ⟨hth, run_loadVar_mid (P := Try.prog) _ w.heap.size 0 35 e.cells _ (World.rangeAt_setCells_same w1 _ _ _ hth) Try.underlying35 rfl Try.size_event,
    below_setCells (Nat.le_refl _) _ _ (((Below.refl _ w).alloc (Nat.le_refl _) _).trans (hb.mono (by omega)))⟩
def takesE (lin size pos n : Int) : Ev := mkEv lin ⟨1, size, 0, 0, 0, 0, 0⟩ ⟨pos, n, 0, 0, 0, 0, 0, 0, 0, 0, 0⟩
def asksE (lin op pos e : Int) : Ev := mkEv lin ⟨op, 0, 0, 0, pos, 0, 0⟩ ⟨0, 0, 0, 0, 0, 0, 0, 0, e, 0, 0⟩
set_option maxRecDepth 100000 in
theorem takes_any (lin size pos n : Int) (w : World) : Calls Try.prog 13 #[.int .i64 lin, .int .i64 size, .int .i64 pos, .int .i64 n] w fun e w' => e = .returned (.agg (takesE lin size pos n).cells.toArray) ∧ Below w.heap.size w w' := by
  have HE := Lib.hid (event_any lin ⟨1, size, 0, 0, 0, 0, 0⟩ ⟨pos, n, 0, 0, 0, 0, 0, 0, 0, 0, 0⟩ (w.alloc (.cells zero24 35)))
  change Hid (Calls Try.prog 17 _ _ fun e w' => e = .returned (.agg (takesE lin size pos n).cells.toArray) ∧ _) at HE
  generalize takesE lin size pos n = x at HE
  go_enter Try.func13, Try.ntmps13
  go_wp2_with fail
  refine HE.out.mono ?_
  rintro e w1 ⟨rfl, hb⟩
  obtain ⟨hth, hret, hbb⟩ := result_event (w := w) x (by simpa using hb)
  have HT := Lib.hid hth
  have HR := Lib.hid hret
  clear HE hb hth hret
  go_wp2_with (first
    | (refine wpList_store_mid rfl 35 (.tmp 8) (.tmp 15) rfl w.heap.size 0 x.cells.toArray rfl rfl HT.out Try.size_event (all_oneCell_toArray x.oneCell) ?_))
  refine bodyPost_ret (results_cell (b := w.heap.size) rfl rfl HR.out) rfl ?_
  exact ⟨rfl, hbb⟩
set_option maxRecDepth 100000 in
theorem lasks_any (lin op pos er : Int) (w : World) : Calls Try.prog 12 #[.int .i64 lin, .int .u8 op, .int .i64 pos, .int .i64 er] w fun e w' => e = .returned (.agg (asksE lin op pos er).cells.toArray) ∧ Below w.heap.size w w' := by
  have HE := Lib.hid (event_any lin ⟨op, 0, 0, 0, pos, 0, 0⟩ ⟨0, 0, 0, 0, 0, 0, 0, 0, er, 0, 0⟩ (w.alloc (.cells zero24 35)))
  change Hid (Calls Try.prog 17 _ _ fun e w' => e = .returned (.agg (asksE lin op pos er).cells.toArray) ∧ _) at HE
  generalize asksE lin op pos er = x at HE
  go_enter Try.func12, Try.ntmps12
  go_wp2_with fail
  refine HE.out.mono ?_
  rintro e w1 ⟨rfl, hb⟩
  obtain ⟨hth, hret, hbb⟩ := result_event (w := w) x (by simpa using hb)
  have HT := Lib.hid hth
  have HR := Lib.hid hret
  clear HE hb hth hret
  go_wp2_with (first
    | (refine wpList_store_mid rfl 35 (.tmp 8) (.tmp 15) rfl w.heap.size 0 x.cells.toArray rfl rfl HT.out Try.size_event (all_oneCell_toArray x.oneCell) ?_))
  refine bodyPost_ret (results_cell (b := w.heap.size) rfl rfl HR.out) rfl ?_
  exact ⟨rfl, hbb⟩
end Go.Proofs.Ytoaaoggggjjbaaa
