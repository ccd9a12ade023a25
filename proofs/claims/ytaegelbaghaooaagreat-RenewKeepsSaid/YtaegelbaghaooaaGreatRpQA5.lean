/- Summaries: slab, runs. (trees printed by program, wip/auto.py) -/
import Derived.Test.YtaegelbaghaooaaGreatRpQA4
import Derived.WalkKit
set_option linter.unusedSimpArgs false
set_option linter.unusedVariables false
set_option linter.unusedSectionVars false
namespace Go.Proofs.YtaegelbaghaooaaGreat.Lx
open Go
set_option maxRecDepth 1000000

def shomeT_0B {β : Type} (b0 : Bool) (a1 : Int) (b2 : Bool) (g3 : Geo) (a4 : Int) (κ0 : Unit → T β) (κ1 : Unit → T β) (i : Unit) (k : Unit → T β) : T β :=
 bif b2 then ((bitsT g3 a4).bind fun r1 =>
 (cblockT r1.cls a1).bind fun r2 =>
 bif !r1.has then (κ0 ()) else
 bif !r2.2 then (κ0 ()) else
 bif bif decide (r2.1 < 0) then false else true then (bif bits BinOp.and IntKind.u8     (Int.fdiv r1.map (2 ^ if Int.toNat r2.1 ≤ nat_lit 8 then Int.toNat r2.1 else nat_lit 8)) 1 ==   1 then (κ0 ()) else
 bif bif decide (r2.1 < 0) then false else true then ((turnsT g3 a4 { map := r1.map, has := r1.has, cls := r1.cls, ver := r1.ver }   {     map :=       bits BinOp.or IntKind.u8 r1.map         (IntKind.u8.wrap           (1 * 2 ^ if Int.toNat r2.1 ≤ nat_lit 8 then Int.toNat r2.1 else nat_lit 8)),     has := r1.has, cls := r1.cls, ver := r1.ver }).bind fun r8 =>
 bif r8 then (κ1 ()) else
 k ()) else
 .fail) else
 .fail) else
 κ0 ()
def shomeT_0L {β : Type} (b0 : Bool) (a1 : Int) (b2 : Bool) (g3 : Geo) (a4 : Int)  (κ0 : Unit → T β) (κ1 : Unit → T β) : T β := loopB fuelN (shomeT_0B b0 a1 b2 g3 a4 κ0 κ1) ()
theorem shomeT_0L_bind {β γ : Type} (b0 : Bool) (a1 : Int) (b2 : Bool) (g3 : Geo) (a4 : Int)  (κ0 : Unit → T β) (κ1 : Unit → T β) (κ : β → T γ) : (shomeT_0L b0 a1 b2 g3 a4  κ0 κ1).bind κ = shomeT_0L b0 a1 b2 g3 a4  (fun u => (κ0 u).bind κ) (fun u => (κ1 u).bind κ) := by
 unfold shomeT_0L
 refine loopB_bind κ (fun i k => ?_) _ _
 unfold shomeT_0B
 first | rfl | (simp only [bind_cond, bind_ret_, bind_op, bind_fail, T.bind_assoc])
def shomeT_0_p : Pat := ⟨slotsN 58 0 [(6, .c (.bool)), (7, .c (.raw (.ptr 1 0))), (8, .c (.int .i64)), (9, .c (.bool))], [none, some ⟨[.raw (.port), .geo, .int .i64], 234, false, none⟩]⟩
def shomeT_0_e0 : Pat := ⟨slotsN 58 0 [(6, .c (.bool))], []⟩
def shomeT_0F : St → (Ex → St → T R) → Option (T R) := fun st K => match matchSt shomeT_0_p st with
 | some [.b b0, .i a1, .b b2, .g g3, .i a4] => some (shomeT_0L b0 a1 b2 g3 a4  (fun _ => K (.exit 0) (instSt shomeT_0_e0 [.b b0])) (fun _ => K (.ret) (instSt shomeT_0_e0 [.b true])))
 | _ => none
theorem shomeT_0Ok : ∀ st K t, shomeT_0F st K = some t → loopN fuelN (loopF2 Tryz.prog (lookK ka4) fuelN 0 .no (loopC [1, 1, 0, 0] Tryz.f91) (loopV [1, 1, 0, 0] Tryz.f91) K) st = t := by
 intro st K t h
 unfold shomeT_0F at h
 split at h
 ·rename_i b0 a1 b2 g3 a4 hm
  cases h
  rw [matchSt_eq hm]
  exact cast (by kernel_rfl) (loop_eq (F := loopF2 Tryz.prog (lookK ka4) fuelN 0 .no (loopC [1, 1, 0, 0] Tryz.f91) (loopV [1, 1, 0, 0] Tryz.f91) K) (S := fun i => instSt shomeT_0_p [.b b0, .i a1, .b b2, .g g3, .i a4]) (B := shomeT_0B b0 a1 b2 g3 a4 (fun _ => K (.exit 0) (instSt shomeT_0_e0 [.b b0])) (fun _ => K (.ret) (instSt shomeT_0_e0 [.b true]))) (fun i k => by kernel_rfl) fuelN ())
 ·cases h
def shomeTK {β : Type} (g : Geo) (k : Int) (κ : Bool → T β) : T β :=
 bif decide (k < 0) then (κ (false)) else
 bif decide (k ≥ IntKind.i64.wrap (g.pages * 8)) then (κ (false)) else
 shomeT_0L (false) (IntKind.i64.wrap (Int.tmod k 8 * 8)) (true) (g) (IntKind.i64.wrap (Int.tdiv k 8)) (fun y2_0 =>
 κ (false)) (fun y2_0 =>
 κ (true))
def shomeT (g : Geo) (k : Int) : T Bool := shomeTK g k .ret
theorem shomeT_bind {β : Type} (g : Geo) (k : Int) (κ : Bool → T β) : (shomeT g k).bind κ = shomeTK g k κ := by
 unfold shomeT shomeTK
 first | rfl | (simp only [bind_cond, bind_ret_, bind_op, bind_fail, T.bind_assoc, shomeT_0L_bind])
def drainT_0B {β : Type} (a0 : Int) (g2 : Geo) (a3 : Int) (κ0 : Int → T β) (i : Int) (k : Int → T β) : T β :=
 bif i != 0 then (.op (.cas (atF g2 9 a0) (i) (0)) fun b1 =>
 bif !b1 then (.op (.load (atF g2 9 a0)) fun x3 =>
 k (x3)) else
 κ0 (i)) else
 κ0 (i)
def drainT_0L {β : Type} (a0 : Int) (g2 : Geo) (a3 a1 : Int) (κ0 : Int → T β) : T β := loopB fuelN (drainT_0B a0 g2 a3 κ0) (a1)
theorem drainT_0L_bind {β γ : Type} (a0 : Int) (g2 : Geo) (a3 a1 : Int) (κ0 : Int → T β) (κ : β → T γ) : (drainT_0L a0 g2 a3 a1 κ0).bind κ = drainT_0L a0 g2 a3 a1 (fun ae0 => (κ0 ae0).bind κ) := by
 unfold drainT_0L
 refine loopB_bind κ (fun i k => ?_) _ _
 unfold drainT_0B
 first | rfl | (simp only [bind_cond, bind_ret_, bind_op, bind_fail, T.bind_assoc])
def drainT_0_p : Pat := ⟨slotsN 84 0 [(2, .c (.int .i64)), (6, .c (.raw (.nils))), (7, .c (.raw (.ptr 1 0))), (8, .c (.int .u64))], [none, some ⟨[.raw (.port), .geo, .int .i64], 234, false, none⟩]⟩
def drainT_0_e0 : Pat := ⟨slotsN 84 0 [(6, .c (.raw (.nils))), (7, .c (.raw (.ptr 1 0))), (8, .c (.int .u64))], [none, some ⟨[.raw (.port), .geo, .int .i64], 234, false, none⟩]⟩
def drainT_0F : St → (Ex → St → T R) → Option (T R) := fun st K => match matchSt drainT_0_p st with
 | some [.i a0, .i a1, .g g2, .i a3] => some (drainT_0L a0 g2 a3 a1 (fun ae0 => K (.exit 0) (instSt drainT_0_e0 [.i ae0, .g g2, .i a3])))
 | _ => none
theorem drainT_0Ok : ∀ st K t, drainT_0F st K = some t → loopN fuelN (loopF2 Tryz.prog (lookK ka4) fuelN 0 .no (loopC [1, 1, 1, 1, 0, 0] Tryz.f260) (loopV [1, 1, 1, 1, 0, 0] Tryz.f260) K) st = t := by
 intro st K t h
 unfold drainT_0F at h
 split at h
 ·rename_i a0 a1 g2 a3 hm
  cases h
  rw [matchSt_eq hm]
  exact cast (by kernel_rfl) (loop_eq (F := loopF2 Tryz.prog (lookK ka4) fuelN 0 .no (loopC [1, 1, 1, 1, 0, 0] Tryz.f260) (loopV [1, 1, 1, 1, 0, 0] Tryz.f260) K) (S := fun i => instSt drainT_0_p [.i a0, .i i, .g g2, .i a3]) (B := drainT_0B a0 g2 a3 (fun ae0 => K (.exit 0) (instSt drainT_0_e0 [.i ae0, .g g2, .i a3]))) (fun i k => by kernel_rfl) fuelN (a1))
 ·cases h
def drainTK {β : Type} (g : Geo) (p : Int) (κ : (List Int) → T β) : T β :=
 (isT g p 0).bind fun r0 =>
 bif !r0 then (κ []) else
 .op (.load (atF g 9 p)) fun x2 =>
 drainT_0L (p) (g) (p) (x2) (fun y3_0 =>
 bif y3_0 != 0 then (.op (.load (atF g 10 (IntKind.i64.wrap (IntKind.i64.wrap y3_0 - 1)))) fun x5 =>
 bif x5 != 0 then (.op (.load (atF g 10 (IntKind.i64.wrap (IntKind.i64.wrap x5 - 1)))) fun x7 =>
 bif x7 != 0 then (.op (.load (atF g 10 (IntKind.i64.wrap (IntKind.i64.wrap x7 - 1)))) fun x9 =>
 bif x9 != 0 then (.op (.load (atF g 10 (IntKind.i64.wrap (IntKind.i64.wrap x9 - 1)))) fun x11 =>
 bif x11 != 0 then (.op (.load (atF g 10 (IntKind.i64.wrap (IntKind.i64.wrap x11 - 1)))) fun x13 =>
 bif x13 != 0 then (.op (.load (atF g 10 (IntKind.i64.wrap (IntKind.i64.wrap x13 - 1)))) fun x15 =>
 bif x15 != 0 then (.op (.load (atF g 10 (IntKind.i64.wrap (IntKind.i64.wrap x15 - 1)))) fun x17 =>
 bif x17 != 0 then (.op (.load (atF g 10 (IntKind.i64.wrap (IntKind.i64.wrap x17 - 1)))) fun x19 =>
 bif x19 != 0 then (κ [(IntKind.i64.wrap (IntKind.i64.wrap y3_0 - 1)), (IntKind.i64.wrap (IntKind.i64.wrap x5 - 1)), (IntKind.i64.wrap (IntKind.i64.wrap x7 - 1)), (IntKind.i64.wrap (IntKind.i64.wrap x9 - 1)), (IntKind.i64.wrap (IntKind.i64.wrap x11 - 1)), (IntKind.i64.wrap (IntKind.i64.wrap x13 - 1)), (IntKind.i64.wrap (IntKind.i64.wrap x15 - 1)), (IntKind.i64.wrap (IntKind.i64.wrap x17 - 1))]) else
 κ [(IntKind.i64.wrap (IntKind.i64.wrap y3_0 - 1)), (IntKind.i64.wrap (IntKind.i64.wrap x5 - 1)), (IntKind.i64.wrap (IntKind.i64.wrap x7 - 1)), (IntKind.i64.wrap (IntKind.i64.wrap x9 - 1)), (IntKind.i64.wrap (IntKind.i64.wrap x11 - 1)), (IntKind.i64.wrap (IntKind.i64.wrap x13 - 1)), (IntKind.i64.wrap (IntKind.i64.wrap x15 - 1)), (IntKind.i64.wrap (IntKind.i64.wrap x17 - 1))]) else
 κ [(IntKind.i64.wrap (IntKind.i64.wrap y3_0 - 1)), (IntKind.i64.wrap (IntKind.i64.wrap x5 - 1)), (IntKind.i64.wrap (IntKind.i64.wrap x7 - 1)), (IntKind.i64.wrap (IntKind.i64.wrap x9 - 1)), (IntKind.i64.wrap (IntKind.i64.wrap x11 - 1)), (IntKind.i64.wrap (IntKind.i64.wrap x13 - 1)), (IntKind.i64.wrap (IntKind.i64.wrap x15 - 1))]) else
 κ [(IntKind.i64.wrap (IntKind.i64.wrap y3_0 - 1)), (IntKind.i64.wrap (IntKind.i64.wrap x5 - 1)), (IntKind.i64.wrap (IntKind.i64.wrap x7 - 1)), (IntKind.i64.wrap (IntKind.i64.wrap x9 - 1)), (IntKind.i64.wrap (IntKind.i64.wrap x11 - 1)), (IntKind.i64.wrap (IntKind.i64.wrap x13 - 1))]) else
 κ [(IntKind.i64.wrap (IntKind.i64.wrap y3_0 - 1)), (IntKind.i64.wrap (IntKind.i64.wrap x5 - 1)), (IntKind.i64.wrap (IntKind.i64.wrap x7 - 1)), (IntKind.i64.wrap (IntKind.i64.wrap x9 - 1)), (IntKind.i64.wrap (IntKind.i64.wrap x11 - 1))]) else
 κ [(IntKind.i64.wrap (IntKind.i64.wrap y3_0 - 1)), (IntKind.i64.wrap (IntKind.i64.wrap x5 - 1)), (IntKind.i64.wrap (IntKind.i64.wrap x7 - 1)), (IntKind.i64.wrap (IntKind.i64.wrap x9 - 1))]) else
 κ [(IntKind.i64.wrap (IntKind.i64.wrap y3_0 - 1)), (IntKind.i64.wrap (IntKind.i64.wrap x5 - 1)), (IntKind.i64.wrap (IntKind.i64.wrap x7 - 1))]) else
 κ [(IntKind.i64.wrap (IntKind.i64.wrap y3_0 - 1)), (IntKind.i64.wrap (IntKind.i64.wrap x5 - 1))]) else
 κ [(IntKind.i64.wrap (IntKind.i64.wrap y3_0 - 1))]) else
 κ [])
def drainT (g : Geo) (p : Int) : T (List Int) := drainTK g p .ret
theorem drainT_bind {β : Type} (g : Geo) (p : Int) (κ : (List Int) → T β) : (drainT g p).bind κ = drainTK g p κ := by
 unfold drainT drainTK
 first | rfl | (simp only [bind_cond, bind_ret_, bind_op, bind_fail, T.bind_assoc, drainT_0L_bind])
def layTK {β : Type} (g : Geo) (p n : Int) (κ : Unit → T β) : T β :=
 bif n == 0 then (κ ()) else
 bif decide (n > 1) then ((dputT g (IntKind.i64.wrap (IntKind.i64.wrap (p + n) - 1)) 2 n).bind fun r2 =>
 (dputT g p 1 n).bind fun r3 =>
 (countsT g n false).bind fun r4 =>
 κ ()) else
 (dputT g p 1 n).bind fun r2 =>
 (countsT g n false).bind fun r3 =>
 κ ()
def layT (g : Geo) (p n : Int) : T Unit := layTK g p n .ret
theorem layT_bind {β : Type} (g : Geo) (p n : Int) (κ : Unit → T β) : (layT g p n).bind κ = layTK g p n κ := by
 unfold layT layTK
 first | rfl | (simp only [bind_cond, bind_ret_, bind_op, bind_fail, T.bind_assoc])
def bestT_0B {β : Type} (a0 a1 : Int) (g3 : Geo) (a4 a5 a6 : Int) (κ0 : Int → Int → Int → T β) (i : Int × Int × Int × Int) (k : Int × Int × Int × Int → T β) : T β :=
 bif decide (i.1 < g3.pages) then ((getT_ g3 i.1).bind fun r1 =>
 bif bif a1 == 0 then false else true then (bif r1.kind == 1 then (bif decide   (IntKind.i64.wrap       (IntKind.i64.wrap           (IntKind.i64.wrap               (Int.tdiv (IntKind.i64.wrap (IntKind.i64.wrap (i.1 + a1) - 1)) a1) *             a1) +         a0) ≤     IntKind.i64.wrap (i.1 + r1.len)) then (bif i.2.2.1 == 0 then ((longT { kind := r1.kind, len := r1.len, cls := r1.cls, owner := r1.owner }).bind fun r6 =>
 k (IntKind.i64.wrap (i.1 + r6), i.1, r1.len, IntKind.i64.wrap   (IntKind.i64.wrap (Int.tdiv (IntKind.i64.wrap (IntKind.i64.wrap (i.1 + a1) - 1)) a1) *     a1))) else
 bif decide (r1.len < i.2.2.1) then ((longT { kind := r1.kind, len := r1.len, cls := r1.cls, owner := r1.owner }).bind fun r7 =>
 k (IntKind.i64.wrap (i.1 + r7), i.1, r1.len, IntKind.i64.wrap   (IntKind.i64.wrap (Int.tdiv (IntKind.i64.wrap (IntKind.i64.wrap (i.1 + a1) - 1)) a1) *     a1))) else
 (longT { kind := r1.kind, len := r1.len, cls := r1.cls, owner := r1.owner }).bind fun r7 =>
 k (IntKind.i64.wrap (i.1 + r7), i.2.1, i.2.2.1, i.2.2.2)) else
 (longT { kind := r1.kind, len := r1.len, cls := r1.cls, owner := r1.owner }).bind fun r5 =>
 k (IntKind.i64.wrap (i.1 + r5), i.2.1, i.2.2.1, i.2.2.2)) else
 (longT { kind := r1.kind, len := r1.len, cls := r1.cls, owner := r1.owner }).bind fun r4 =>
 k (IntKind.i64.wrap (i.1 + r4), i.2.1, i.2.2.1, i.2.2.2)) else
 .fail) else
 κ0 (i.2.1) (i.2.2.1) (i.2.2.2)
def bestT_0L {β : Type} (a0 a1 : Int) (g3 : Geo) (a4 a5 a6 a2 a7 a8 a9 : Int) (κ0 : Int → Int → Int → T β) : T β := loopB fuelN (bestT_0B a0 a1 g3 a4 a5 a6 κ0) (a2, a7, a8, a9)
theorem bestT_0L_bind {β γ : Type} (a0 a1 : Int) (g3 : Geo) (a4 a5 a6 a2 a7 a8 a9 : Int) (κ0 : Int → Int → Int → T β) (κ : β → T γ) : (bestT_0L a0 a1 g3 a4 a5 a6 a2 a7 a8 a9 κ0).bind κ = bestT_0L a0 a1 g3 a4 a5 a6 a2 a7 a8 a9 (fun ae3 ae4 ae5 => (κ0 ae3 ae4 ae5).bind κ) := by
 unfold bestT_0L
 refine loopB_bind κ (fun i k => ?_) _ _
 unfold bestT_0B
 first | rfl | (simp only [bind_cond, bind_ret_, bind_op, bind_fail, T.bind_assoc])
def bestT_0_p : Pat := ⟨slotsN 67 0 [(1, .c (.int .i64)), (2, .c (.int .i64)), (3, .c (.raw (.ptr 0 0))), (6, .c (.raw (.ptr 1 0))), (7, .c (.raw (.ptr 2 0))), (8, .c (.int .i64))], [some ⟨[.raw (.port), .geo], 212, false, none⟩, some ⟨[.int .i64, .int .i64, .int .i64], 296, false, none⟩, some ⟨[.int .i64, .int .i64, .int .i64], 296, false, none⟩]⟩
def bestT_0_e0 : Pat := ⟨slotsN 67 0 [(6, .c (.raw (.ptr 1 0))), (7, .c (.raw (.ptr 2 0)))], [none, some ⟨[.int .i64, .int .i64, .int .i64], 296, false, none⟩, some ⟨[.int .i64, .int .i64, .int .i64], 296, false, none⟩]⟩
def bestT_0F : St → (Ex → St → T R) → Option (T R) := fun st K => match matchSt bestT_0_p st with
 | some [.i a0, .i a1, .i a2, .g g3, .i a4, .i a5, .i a6, .i a7, .i a8, .i a9] => some (bestT_0L a0 a1 g3 a4 a5 a6 a2 a7 a8 a9 (fun ae3 ae4 ae5 => K (.exit 0) (instSt bestT_0_e0 [.i a4, .i a5, .i a6, .i ae3, .i ae4, .i ae5])))
 | _ => none
theorem bestT_0Ok : ∀ st K t, bestT_0F st K = some t → loopN fuelN (loopF2 Tryz.prog (lookK ka4) fuelN 0 .no (loopC [1, 1, 1, 0, 1, 0] Tryz.f263) (loopV [1, 1, 1, 0, 1, 0] Tryz.f263) K) st = t := by
 intro st K t h
 unfold bestT_0F at h
 split at h
 ·rename_i a0 a1 a2 g3 a4 a5 a6 a7 a8 a9 hm
  cases h
  rw [matchSt_eq hm]
  exact cast (by kernel_rfl) (loop_eq (F := loopF2 Tryz.prog (lookK ka4) fuelN 0 .no (loopC [1, 1, 1, 0, 1, 0] Tryz.f263) (loopV [1, 1, 1, 0, 1, 0] Tryz.f263) K) (S := fun i => instSt bestT_0_p [.i a0, .i a1, .i (i.1), .g g3, .i a4, .i a5, .i a6, .i (i.2.1), .i (i.2.2.1), .i (i.2.2.2)]) (B := bestT_0B a0 a1 g3 a4 a5 a6 (fun ae3 ae4 ae5 => K (.exit 0) (instSt bestT_0_e0 [.i a4, .i a5, .i a6, .i ae3, .i ae4, .i ae5]))) (fun i k => by kernel_rfl) fuelN (a2, a7, a8, a9))
 ·cases h
def bestTK {β : Type} (g : Geo) (k a : Int) (κ : Fit → T β) : T β :=
 (anyT g k).bind fun r0 =>
 bif !r0 then (κ ⟨(0), (0), (0)⟩) else
 bestT_0L (k) (a) (g) (0) (0) (0) (0) (0) (0) (0) (fun y2_0 y2_1 y2_2 =>
 κ ⟨(y2_0), (y2_1), (y2_2)⟩)
def bestT (g : Geo) (k a : Int) : T Fit := bestTK g k a .ret
theorem bestT_bind {β : Type} (g : Geo) (k a : Int) (κ : Fit → T β) : (bestT g k a).bind κ = bestTK g k a κ := by
 unfold bestT bestTK
 first | rfl | (simp only [bind_cond, bind_ret_, bind_op, bind_fail, T.bind_assoc, bestT_0L_bind])
def index0TK {β : Type} (x : Int) (κ : Int → T β) : T β :=
 κ (-1)
def index0T (x : Int) : T Int := index0TK x .ret
theorem index0T_bind {β : Type} (x : Int) (κ : Int → T β) : (index0T x).bind κ = index0TK x κ := by
 unfold index0T index0TK
 first | rfl | (simp only [bind_cond, bind_ret_, bind_op, bind_fail, T.bind_assoc])
def index1bTK {β : Type} (x k : Int) (κ : Int → T β) : T β :=
 bif x == k then (κ (0)) else
 κ (-1)
def index1bT (x k : Int) : T Int := index1bTK x k .ret
theorem index1bT_bind {β : Type} (x k : Int) (κ : Int → T β) : (index1bT x k).bind κ = index1bTK x k κ := by
 unfold index1bT index1bTK
 first | rfl | (simp only [bind_cond, bind_ret_, bind_op, bind_fail, T.bind_assoc])
def index2TK {β : Type} (x k j : Int) (κ : Int → T β) : T β :=
 bif x == k then (κ (0)) else
 bif x == j then (κ (1)) else
 κ (-1)
def index2T (x k j : Int) : T Int := index2TK x k j .ret
theorem index2T_bind {β : Type} (x k j : Int) (κ : Int → T β) : (index2T x k j).bind κ = index2TK x k j κ := by
 unfold index2T index2TK
 first | rfl | (simp only [bind_cond, bind_ret_, bind_op, bind_fail, T.bind_assoc])
def deathT_0B {β : Type} (a0 : Int) (g1 : Geo) (a2 a3 a4 a5 : Int) (b6 : Bool) (a7 : Int) (κ0 : Int → Int → Int → Int → Bool → Int → T β) (i : Unit) (k : Unit → T β) : T β :=
 (lookT g1 a0).bind fun r0 =>
 bif !r0.live then (κ0 (r0.kind) (r0.size) (r0.other) (r0.ver) (r0.live) (r0.lin)) else
 .op (.cas (atF g1 11 a0) (Stt.word { kind := r0.kind, size := r0.size, other := r0.other, ver := r0.ver }) (0)) fun b2 =>
 bif b2 then (.op (.steps ) fun x4 =>
 κ0 (r0.kind) (r0.size) (r0.other) (r0.ver) (r0.live) (x4)) else
 k ()
def deathT_0L {β : Type} (a0 : Int) (g1 : Geo) (a2 a3 a4 a5 : Int) (b6 : Bool) (a7 : Int)  (κ0 : Int → Int → Int → Int → Bool → Int → T β) : T β := loopB fuelN (deathT_0B a0 g1 a2 a3 a4 a5 b6 a7 κ0) ()
theorem deathT_0L_bind {β γ : Type} (a0 : Int) (g1 : Geo) (a2 a3 a4 a5 : Int) (b6 : Bool) (a7 : Int)  (κ0 : Int → Int → Int → Int → Bool → Int → T β) (κ : β → T γ) : (deathT_0L a0 g1 a2 a3 a4 a5 b6 a7  κ0).bind κ = deathT_0L a0 g1 a2 a3 a4 a5 b6 a7  (fun ae0 ae1 ae2 ae3 be4 ae5 => (κ0 ae0 ae1 ae2 ae3 be4 ae5).bind κ) := by
 unfold deathT_0L
 refine loopB_bind κ (fun i k => ?_) _ _
 unfold deathT_0B
 first | rfl | (simp only [bind_cond, bind_ret_, bind_op, bind_fail, T.bind_assoc])
def deathT_0_p : Pat := ⟨slotsN 31 0 [(0, .c (.raw (.port))), (2, .c (.int .i64)), (4, .c (.raw (.ptr 0 0))), (6, .c (.raw (.ptr 1 0)))], [some ⟨[.geo], 24, false, none⟩, some ⟨[.int .i64, .int .i64, .int .i64, .int .u32, .bool, .int .i64], 145, false, none⟩]⟩
def deathT_0_e0 : Pat := ⟨slotsN 31 0 [(6, .c (.raw (.ptr 1 0)))], [none, some ⟨[.int .i64, .int .i64, .int .i64, .int .u32, .bool, .int .i64], 145, false, none⟩]⟩
def deathT_0F : St → (Ex → St → T R) → Option (T R) := fun st K => match matchSt deathT_0_p st with
 | some [.i a0, .g g1, .i a2, .i a3, .i a4, .i a5, .b b6, .i a7] => some (deathT_0L a0 g1 a2 a3 a4 a5 b6 a7  (fun ae0 ae1 ae2 ae3 be4 ae5 => K (.ret) (instSt deathT_0_e0 [.i ae0, .i ae1, .i ae2, .i ae3, .b be4, .i ae5])))
 | _ => none
theorem deathT_0Ok : ∀ st K t, deathT_0F st K = some t → loopN fuelN (loopF2 Tryz.prog (lookK ka4) fuelN 0 .no (loopC [1, 0] Tryz.f82) (loopV [1, 0] Tryz.f82) K) st = t := by
 intro st K t h
 unfold deathT_0F at h
 split at h
 ·rename_i a0 g1 a2 a3 a4 a5 b6 a7 hm
  cases h
  rw [matchSt_eq hm]
  exact cast (by kernel_rfl) (loop_eq (F := loopF2 Tryz.prog (lookK ka4) fuelN 0 .no (loopC [1, 0] Tryz.f82) (loopV [1, 0] Tryz.f82) K) (S := fun i => instSt deathT_0_p [.i a0, .g g1, .i a2, .i a3, .i a4, .i a5, .b b6, .i a7]) (B := deathT_0B a0 g1 a2 a3 a4 a5 b6 a7 (fun ae0 ae1 ae2 ae3 be4 ae5 => K (.ret) (instSt deathT_0_e0 [.i ae0, .i ae1, .i ae2, .i ae3, .b be4, .i ae5]))) (fun i k => by kernel_rfl) fuelN ())
 ·cases h
def deathTK {β : Type} (g : Geo) (k : Int) (κ : Seen → T β) : T β :=
 deathT_0L (k) (g) (0) (0) (0) (0) (false) (0) (fun y0_0 y0_1 y0_2 y0_3 y0_4 y0_5 =>
 κ ⟨(y0_0), (y0_1), (y0_2), (y0_3), (y0_4), (y0_5)⟩)
def deathT (g : Geo) (k : Int) : T Seen := deathTK g k .ret
theorem deathT_bind {β : Type} (g : Geo) (k : Int) (κ : Seen → T β) : (deathT g k).bind κ = deathTK g k κ := by
 unfold deathT deathTK
 first | rfl | (simp only [bind_cond, bind_ret_, bind_op, bind_fail, T.bind_assoc, deathT_0L_bind])
def cpagesT2K {β : Type} (s : Int) (κ : Int → T β) : T β :=
 bif decide (s < 1) then (κ (0)) else
 κ (IntKind.i64.wrap (IntKind.i64.wrap (Int.tdiv (IntKind.i64.wrap (s - 1)) 64) + 1))
def cpagesT2 (s : Int) : T Int := cpagesT2K s .ret
theorem cpagesT2_bind {β : Type} (s : Int) (κ : Int → T β) : (cpagesT2 s).bind κ = cpagesT2K s κ := by
 unfold cpagesT2 cpagesT2K
 first | rfl | (simp only [bind_cond, bind_ret_, bind_op, bind_fail, T.bind_assoc])
def m_shomeT : Sm := fun args H => match args, H with
 | [.c .port, .agg gc, .c (.int .i64 k)], [] => (match geoOf gc with
   | some g => some (mkS (Bool) (shomeT g k) fun r => some (.c (.bool r), []))
   | _ => none)
 | _, _ => none
theorem shomeT_good : Good Tryz.prog (lookK ka4) fuelN 0 (lsAt shomeT_0F .no [1, 1, 0, 0]) (Tryz.f91.body.getD .skip) (resMask Tryz.f91.results.toList) := good_fn (body_eq (by kernel_rfl)) good_no shomeT_0Ok
variable {σ : Type} {I : Port Tryz.prog σ}
theorem s_m_shomeT (hl : SoundL I ka4) : SoundF I 91 m_shomeT := by
 refine sq hl fuelN Tryz.func91 fun args H t ht => ?_
 unfold m_shomeT at ht
 split at ht
 ·rename_i gc k
  split at ht
  ·rename_i g hg
   obtain rfl := geoOf_eq hg
   cases ht
   refine (evF2_eq (P := Tryz.prog) (n := fuelN) (x := (lsAt shomeT_0F .no [1, 1, 0, 0])) (fn := Tryz.f91) (H := []) (c := Tryz.f91.body.getD .skip) (body_eq (by kernel_rfl)) shomeT_good).symm.trans ?_
   refine Eq.trans ?_ (shomeT_bind g k _).symm
   kernel_rfl
  ·cases ht
 ·cases ht
def m_drainT : Sm := fun args H => match args, H with
 | [.c .port, .agg gc, .c (.int .i64 p)], [] => (match geoOf gc with
   | some g => some ⟨(List Int), drainT g p, fun r => some (listR r), fun _ κ => drainTK g p κ, fun _ κ => (drainT_bind g p κ).symm⟩
   | _ => none)
 | _, _ => none
theorem drainT_good : Good Tryz.prog (lookK ka4) fuelN 0 (lsAt drainT_0F .no [1, 1, 1, 1, 0, 0]) (Tryz.f260.body.getD .skip) (resMask Tryz.f260.results.toList) := good_fn (body_eq (by kernel_rfl)) good_no drainT_0Ok
theorem s_m_drainT (hl : SoundL I ka4) : SoundF I 260 m_drainT := by
 refine sq hl fuelN Tryz.func260 fun args H t ht => ?_
 unfold m_drainT at ht
 split at ht
 ·rename_i gc p
  split at ht
  ·rename_i g hg
   obtain rfl := geoOf_eq hg
   cases ht
   refine (evF2_eq (P := Tryz.prog) (n := fuelN) (x := (lsAt drainT_0F .no [1, 1, 1, 1, 0, 0])) (fn := Tryz.f260) (H := []) (c := Tryz.f260.body.getD .skip) (body_eq (by kernel_rfl)) drainT_good).symm.trans ?_
   refine Eq.trans ?_ (drainT_bind g p _).symm
   kernel_rfl
  ·cases ht
 ·cases ht
def m_layT : Sm := fun args H => match args, H with
 | [.agg (.port :: gc), .c (.int .i64 p), .c (.int .i64 n)], [] => (match geoOf gc with
   | some g => some (mkS (Unit) (layT g p n) fun r => some (.tup [], []))
   | _ => none)
 | _, _ => none
theorem s_m_layT (hl : SoundL I ka4) : SoundF I 152 m_layT := by
 refine sq hl 1 Tryz.func152 fun args H t ht => ?_
 unfold m_layT at ht
 split at ht
 ·rename_i gc p n
  split at ht
  ·rename_i g hg
   obtain rfl := geoOf_eq hg
   cases ht
   refine Eq.trans ?_ (layT_bind g p n _).symm
   kernel_rfl
  ·cases ht
 ·cases ht
def m_bestT : Sm := fun args H => match args, H with
 | [.agg (.port :: gc), .c (.int .i64 k), .c (.int .i64 a)], [] => (match geoOf gc with
   | some g => some (mkS (Fit) (bestT g k a) fun r => some (.agg r.cells, []))
   | _ => none)
 | _, _ => none
theorem bestT_good : Good Tryz.prog (lookK ka4) fuelN 0 (lsAt bestT_0F .no [1, 1, 1, 0, 1, 0]) (Tryz.f263.body.getD .skip) (resMask Tryz.f263.results.toList) := good_fn (body_eq (by kernel_rfl)) good_no bestT_0Ok
theorem s_m_bestT (hl : SoundL I ka4) : SoundF I 263 m_bestT := by
 refine sq hl fuelN Tryz.func263 fun args H t ht => ?_
 unfold m_bestT at ht
 split at ht
 ·rename_i gc k a
  split at ht
  ·rename_i g hg
   obtain rfl := geoOf_eq hg
   cases ht
   refine (evF2_eq (P := Tryz.prog) (n := fuelN) (x := (lsAt bestT_0F .no [1, 1, 1, 0, 1, 0])) (fn := Tryz.f263) (H := []) (c := Tryz.f263.body.getD .skip) (body_eq (by kernel_rfl)) bestT_good).symm.trans ?_
   refine Eq.trans ?_ (bestT_bind g k a _).symm
   kernel_rfl
  ·cases ht
 ·cases ht
def m_index0T : Sm := fun args H => match args, H with
 | [.c .nils, .c (.int .i64 x)], [] => some (mkS (Int) (index0T x) fun r => some (.c (.int .i64 r), []))
 | _, _ => none
theorem s_m_index0T (hl : SoundL I ka4) : SoundF I 271 m_index0T := by
 refine sq hl 5 Tryz.func271 fun args H t ht => ?_
 unfold m_index0T at ht
 split at ht
 ·rename_i x
  cases ht
  refine Eq.trans ?_ (index0T_bind x _).symm
  kernel_rfl
 ·cases ht
def m_index1bT : Sm := fun args H => match args, H with
 | [.c (.sl 0 0 1 1), .c (.int .i64 x)], [some ⟨[.int .i64 k], 3, false, none⟩] => some (mkS (Int) (index1bT x k) fun r => some (.c (.int .i64 r), [some ⟨[.int .i64 k], 3, false, none⟩]))
 | _, _ => none
theorem s_m_index1bT (hl : SoundL I ka4) : SoundF I 271 m_index1bT := by
 refine sq hl 5 Tryz.func271 fun args H t ht => ?_
 unfold m_index1bT at ht
 split at ht
 ·rename_i x k
  cases ht
  refine Eq.trans ?_ (index1bT_bind x k _).symm
  kernel_rfl
 ·cases ht
def m_index2T : Sm := fun args H => match args, H with
 | [.c (.sl 0 0 2 2), .c (.int .i64 x)], [some ⟨[.int .i64 k, .int .i64 j], 3, false, none⟩] => some (mkS (Int) (index2T x k j) fun r => some (.c (.int .i64 r), [some ⟨[.int .i64 k, .int .i64 j], 3, false, none⟩]))
 | _, _ => none
theorem s_m_index2T (hl : SoundL I ka4) : SoundF I 271 m_index2T := by
 refine sq hl 5 Tryz.func271 fun args H t ht => ?_
 unfold m_index2T at ht
 split at ht
 ·rename_i x k j
  cases ht
  refine Eq.trans ?_ (index2T_bind x k j _).symm
  kernel_rfl
 ·cases ht
def m_deathT : Sm := fun args H => match args, H with
 | [.c .port, .agg gc, .c (.int .i64 k)], [] => (match geoOf gc with
   | some g => some (mkS (Seen) (deathT g k) fun r => some (.agg r.cells, []))
   | _ => none)
 | _, _ => none
theorem deathT_good : Good Tryz.prog (lookK ka4) fuelN 0 (lsAt deathT_0F .no [1, 0]) (Tryz.f82.body.getD .skip) (resMask Tryz.f82.results.toList) := good_fn (body_eq (by kernel_rfl)) good_no deathT_0Ok
theorem s_m_deathT (hl : SoundL I ka4) : SoundF I 82 m_deathT := by
 refine sq hl fuelN Tryz.func82 fun args H t ht => ?_
 unfold m_deathT at ht
 split at ht
 ·rename_i gc k
  split at ht
  ·rename_i g hg
   obtain rfl := geoOf_eq hg
   cases ht
   refine (evF2_eq (P := Tryz.prog) (n := fuelN) (x := (lsAt deathT_0F .no [1, 0])) (fn := Tryz.f82) (H := []) (c := Tryz.f82.body.getD .skip) (body_eq (by kernel_rfl)) deathT_good).symm.trans ?_
   refine Eq.trans ?_ (deathT_bind g k _).symm
   kernel_rfl
  ·cases ht
 ·cases ht
def m_cpagesT2 : Sm := fun args H => match args, H with
 | [.c (.int .i64 s)], [] => some (mkS (Int) (cpagesT2 s) fun r => some (.c (.int .i64 r), []))
 | _, _ => none
theorem s_m_cpagesT2 (hl : SoundL I ka4) : SoundF I 78 m_cpagesT2 := by
 refine sq hl 1 Tryz.func78 fun args H t ht => ?_
 unfold m_cpagesT2 at ht
 split at ht
 ·rename_i s
  cases ht
  refine Eq.trans ?_ (cpagesT2_bind s _).symm
  kernel_rfl
 ·cases ht
def ka5 : List (Nat × Sm) := (91, m_shomeT) :: (260, m_drainT) :: (152, m_layT) :: (263, m_bestT) :: (271, (orSm m_index0T (orSm m_index1bT m_index2T))) :: (82, m_deathT) :: (78, m_cpagesT2) :: ka4
theorem s_ka5 : SoundL I ka5 := (.cons (s_m_shomeT s_ka4) (.cons (s_m_drainT s_ka4) (.cons (s_m_layT s_ka4) (.cons (s_m_bestT s_ka4) (.cons (SoundF.or (s_m_index0T s_ka4) (SoundF.or (s_m_index1bT s_ka4) (s_m_index2T s_ka4))) (.cons (s_m_deathT s_ka4) (.cons (s_m_cpagesT2 s_ka4) s_ka4)))))))
end Go.Proofs.YtaegelbaghaooaaGreat.Lx
