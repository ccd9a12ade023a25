/- Summaries: loops. (trees printed by program, wip/auto.py) -/
import Derived.Test.YtaegelbaghaooaaGreatRpM3
import Derived.Test.YtaegelbaghaooaaGreatRpQOf
import Derived.WalkKit
set_option linter.unusedSimpArgs false
set_option linter.unusedVariables false
set_option linter.unusedSectionVars false
namespace Go.Proofs.YtaegelbaghaooaaGreat.Lx
open Go
set_option maxRecDepth 1000000

def emptiesT_0B {β : Type} (a0 a1 : Int) (b2 : Bool) (g4 : Geo) (κ0 : Int → T β) (κ1 : Unit → T β) (i : Int) (k : Int → T β) : T β :=
 bif decide (i < 8) then (.op (.load (atF g4 18 (inF (IntKind.i64.wrap (a0 - 1)) i 8))) fun x1 =>
 bif x1 != 0 then (.op (.cas (atF g4 18 (inF (IntKind.i64.wrap (a0 - 1)) i 8)) (x1) (0)) fun b3 =>
 bif b3 then (κ0 (x1)) else
 k (IntKind.i64.wrap (i + 1))) else
 k (IntKind.i64.wrap (i + 1))) else
 κ1 ()
def emptiesT_0L {β : Type} (a0 a1 : Int) (b2 : Bool) (g4 : Geo) (a3 : Int) (κ0 : Int → T β) (κ1 : Unit → T β) : T β := loopB fuelN (emptiesT_0B a0 a1 b2 g4 κ0 κ1) (a3)
theorem emptiesT_0L_bind {β γ : Type} (a0 a1 : Int) (b2 : Bool) (g4 : Geo) (a3 : Int) (κ0 : Int → T β) (κ1 : Unit → T β) (κ : β → T γ) : (emptiesT_0L a0 a1 b2 g4 a3 κ0 κ1).bind κ = emptiesT_0L a0 a1 b2 g4 a3 (fun ae0 => (κ0 ae0).bind κ) (fun u => (κ1 u).bind κ) := by
 unfold emptiesT_0L
 refine loopB_bind κ (fun i k => ?_) _ _
 unfold emptiesT_0B
 first | rfl | (simp only [bind_cond, bind_ret_, bind_op, bind_fail, T.bind_assoc])
def emptiesT_0_p : Pat := ⟨slotsN 38 0 [(0, .c (.raw (.port))), (2, .c (.int .i64)), (4, .c (.raw (.ptr 0 0))), (6, .c (.int .u64)), (7, .c (.bool)), (10, .c (.int .i64))], [some ⟨[.geo], 24, false, none⟩]⟩
def emptiesT_0_e0 : Pat := ⟨slotsN 38 0 [(6, .c (.int .u64)), (7, .c (.bool))], []⟩
def emptiesT_0F : St → (Ex → St → T R) → Option (T R) := fun st K => match matchSt emptiesT_0_p st with
 | some [.i a0, .i a1, .b b2, .i a3, .g g4] => some (emptiesT_0L a0 a1 b2 g4 a3 (fun ae0 => K (.ret) (instSt emptiesT_0_e0 [.i ae0, .b true])) (fun _ => K (.exit 0) (instSt emptiesT_0_e0 [.i a1, .b b2])))
 | _ => none
theorem emptiesT_0Ok : ∀ st K t, emptiesT_0F st K = some t → loopN fuelN (loopF2 Tryz.prog (lookK ka3b) fuelN 0 .no (loopC [1, 0, 1, 0] Tryz.f286) (loopV [1, 0, 1, 0] Tryz.f286) K) st = t := by
 intro st K t h
 unfold emptiesT_0F at h
 split at h
 ·rename_i a0 a1 b2 a3 g4 hm
  cases h
  rw [matchSt_eq hm]
  exact loop_eq (S := fun i => instSt emptiesT_0_p [.i a0, .i a1, .b b2, .i i, .g g4]) (B := emptiesT_0B a0 a1 b2 g4 (fun ae0 => K (.ret) (instSt emptiesT_0_e0 [.i ae0, .b true])) (fun _ => K (.exit 0) (instSt emptiesT_0_e0 [.i a1, .b b2]))) (fun i k => by kernel_rfl) fuelN (a3)
 ·cases h
def emptiesTK {β : Type} (g : Geo) (nd : Int) (κ : (Int × Bool) → T β) : T β :=
 emptiesT_0L (nd) (0) (false) (g) (0) (fun y0_0 =>
 κ ((y0_0), (true))) (fun y0_0 =>
 κ ((0), (false)))
def emptiesT (g : Geo) (nd : Int) : T (Int × Bool) := emptiesTK g nd .ret
theorem emptiesT_bind {β : Type} (g : Geo) (nd : Int) (κ : (Int × Bool) → T β) : (emptiesT g nd).bind κ = emptiesTK g nd κ := by
 unfold emptiesT emptiesTK
 first | rfl | (simp only [bind_cond, bind_ret_, bind_op, bind_fail, T.bind_assoc, emptiesT_0L_bind])
def countsTK {β : Type} (g : Geo) (n : Int) (l : Bool) (κ : Unit → T β) : T β :=
 bif l then ((logT n).bind fun r1 =>
 .op (.add (atF g 3 r1) (18446744073709551615)) fun x2 =>
 κ ()) else
 (logT n).bind fun r1 =>
 .op (.add (atF g 3 r1) (1)) fun x2 =>
 κ ()
def countsT (g : Geo) (n : Int) (l : Bool) : T Unit := countsTK g n l .ret
theorem countsT_bind {β : Type} (g : Geo) (n : Int) (l : Bool) (κ : Unit → T β) : (countsT g n l).bind κ = countsTK g n l κ := by
 unfold countsT countsTK
 first | rfl | (simp only [bind_cond, bind_ret_, bind_op, bind_fail, T.bind_assoc])
def anyT_0B {β : Type} (b0 : Bool) (g2 : Geo) (κ0 : Unit → T β) (κ1 : Unit → T β) (i : Int) (k : Int → T β) : T β :=
 bif decide (i < 9) then (.op (.load (atF g2 3 i)) fun x1 =>
 bif x1 != 0 then (κ0 ()) else
 k (IntKind.i64.wrap (i + 1))) else
 κ1 ()
def anyT_0L {β : Type} (b0 : Bool) (g2 : Geo) (a1 : Int) (κ0 : Unit → T β) (κ1 : Unit → T β) : T β := loopB fuelN (anyT_0B b0 g2 κ0 κ1) (a1)
theorem anyT_0L_bind {β γ : Type} (b0 : Bool) (g2 : Geo) (a1 : Int) (κ0 : Unit → T β) (κ1 : Unit → T β) (κ : β → T γ) : (anyT_0L b0 g2 a1 κ0 κ1).bind κ = anyT_0L b0 g2 a1 (fun u => (κ0 u).bind κ) (fun u => (κ1 u).bind κ) := by
 unfold anyT_0L
 refine loopB_bind κ (fun i k => ?_) _ _
 unfold anyT_0B
 first | rfl | (simp only [bind_cond, bind_ret_, bind_op, bind_fail, T.bind_assoc])
def anyT_0_p : Pat := ⟨slotsN 22 0 [(2, .c (.raw (.ptr 0 0))), (4, .c (.bool)), (5, .c (.int .i64))], [some ⟨[.raw (.port), .geo], 212, false, none⟩]⟩
def anyT_0_e0 : Pat := ⟨slotsN 22 0 [(4, .c (.bool))], []⟩
def anyT_0F : St → (Ex → St → T R) → Option (T R) := fun st K => match matchSt anyT_0_p st with
 | some [.b b0, .i a1, .g g2] => some (anyT_0L b0 g2 a1 (fun _ => K (.ret) (instSt anyT_0_e0 [.b true])) (fun _ => K (.exit 0) (instSt anyT_0_e0 [.b b0])))
 | _ => none
theorem anyT_0Ok : ∀ st K t, anyT_0F st K = some t → loopN fuelN (loopF2 Tryz.prog (lookK ka3b) fuelN 0 .no (loopC [1, 0, 1, 0] Tryz.f281) (loopV [1, 0, 1, 0] Tryz.f281) K) st = t := by
 intro st K t h
 unfold anyT_0F at h
 split at h
 ·rename_i b0 a1 g2 hm
  cases h
  rw [matchSt_eq hm]
  exact loop_eq (S := fun i => instSt anyT_0_p [.b b0, .i i, .g g2]) (B := anyT_0B b0 g2 (fun _ => K (.ret) (instSt anyT_0_e0 [.b true])) (fun _ => K (.exit 0) (instSt anyT_0_e0 [.b b0]))) (fun i k => by kernel_rfl) fuelN (a1)
 ·cases h
def anyTK {β : Type} (g : Geo) (k : Int) (κ : Bool → T β) : T β :=
 (logT k).bind fun r0 =>
 anyT_0L (false) (g) (r0) (fun y1_0 =>
 κ (true)) (fun y1_0 =>
 κ (false))
def anyT (g : Geo) (k : Int) : T Bool := anyTK g k .ret
theorem anyT_bind {β : Type} (g : Geo) (k : Int) (κ : Bool → T β) : (anyT g k).bind κ = anyTK g k κ := by
 unfold anyT anyTK
 first | rfl | (simp only [bind_cond, bind_ret_, bind_op, bind_fail, T.bind_assoc, anyT_0L_bind])
def cblockTK {β : Type} (c o : Int) (κ : (Int × Bool) → T β) : T β :=
 bif decide (c < 0) then (κ ((0), (false))) else
 bif decide (c ≥ 4) then (κ ((0), (false))) else
 bif decide (o < 0) then (κ ((0), (false))) else
 bif decide (0 ≤ c ∧ c < 4) then (bif bif (bif c == 0 then (8 : Int) else bif c == 1 then (16 : Int) else bif c == 2 then (24 : Int) else (32 : Int)) == 0 then false else true then (bif bif (bif c == 0 then (8 : Int) else bif c == 1 then (16 : Int) else bif c == 2 then (24 : Int) else (32 : Int)) == 0 then false else true then (bif Int.tmod o (bif c == 0 then (8 : Int) else bif c == 1 then (16 : Int) else bif c == 2 then (24 : Int) else (32 : Int)) == 0 then (bif decide (IntKind.i64.wrap (Int.tdiv o (bif c == 0 then (8 : Int) else bif c == 1 then (16 : Int) else bif c == 2 then (24 : Int) else (32 : Int))) < bif c == 0 then (8 : Int) else bif c == 1 then (4 : Int) else bif c == 2 then (2 : Int) else (2 : Int)) then (κ ((IntKind.i64.wrap (Int.tdiv o (bif c == 0 then (8 : Int) else bif c == 1 then (16 : Int) else bif c == 2 then (24 : Int) else (32 : Int)))), (true))) else
 κ ((0), (false))) else
 κ ((0), (false))) else
 .fail) else
 .fail) else
 .fail
def cblockT (c o : Int) : T (Int × Bool) := cblockTK c o .ret
theorem cblockT_bind {β : Type} (c o : Int) (κ : (Int × Bool) → T β) : (cblockT c o).bind κ = cblockTK c o κ := by
 unfold cblockT cblockTK
 first | rfl | (simp only [bind_cond, bind_ret_, bind_op, bind_fail, T.bind_assoc])
def makeTK {β : Type} (g : Geo) (p k : Int) (κ : Int → T β) : T β :=
 (isT g p k).bind fun r0 =>
 bif !r0 then (κ (-1)) else
 bif decide (0 ≤ k ∧ k < 4) then (.op (.self ) fun x3 =>
 .op (.store (atF g 7 p) (Pg.word (Pg.mk 3 1 k x3))) fun _ =>
 (bitsT g p).bind fun r5 =>
 (blocksT (Cls.mk (bif k == 0 then (8 : Int) else bif k == 0 + 1 then (16 : Int) else bif k == 0 + 1 + 1 then (24 : Int) else (32 : Int)) (bif k == 0 then (8 : Int) else bif k == 0 + 1 then (16 : Int) else bif k == 0 + 1 + 1 then (8 : Int) else (32 : Int)) (bif k == 0 then (8 : Int) else bif k == 0 + 1 then (4 : Int) else bif k == 0 + 1 + 1 then (2 : Int) else (2 : Int)))).bind fun r6 =>
 .op (.store (atF g 8 p) (Bt.word (Bt.mk (bits BinOp.andNot IntKind.u8 r6 1) true k (IntKind.u32.wrap (r5.ver + 1))))) fun _ =>
 κ (IntKind.i64.wrap (IntKind.i64.wrap (p * 8) + IntKind.i64.wrap (Int.tdiv (IntKind.i64.wrap (0 * bif k == 0 then (8 : Int) else bif k == 1 then (16 : Int) else bif k == 2 then (24 : Int) else (32 : Int))) 8)))) else
 .fail
def makeT (g : Geo) (p k : Int) : T Int := makeTK g p k .ret
theorem makeT_bind {β : Type} (g : Geo) (p k : Int) (κ : Int → T β) : (makeT g p k).bind κ = makeTK g p k κ := by
 unfold makeT makeTK
 first | rfl | (simp only [bind_cond, bind_ret_, bind_op, bind_fail, T.bind_assoc])
def stakeT_0B {β : Type} (a0 a1 : Int) (b2 : Bool) (g3 : Geo) (a4 : Int) (κ0 : Unit → T β) (κ1 : Int → T β) (i : Unit) (k : Unit → T β) : T β :=
 (isT g3 a4 a0).bind fun r0 =>
 bif r0 then ((bitsT g3 a4).bind fun r2 =>
 (firstT { map := r2.map, has := r2.has, cls := r2.cls, ver := r2.ver }).bind fun r3 =>
 bif !r2.has then (κ0 ()) else
 bif r2.cls != a0 then (κ0 ()) else
 bif decide (r3 < 0) then (κ0 ()) else
 bif bif decide (r3 < 0) then false else true then ((turnsT g3 a4 { map := r2.map, has := r2.has, cls := r2.cls, ver := r2.ver }   {     map :=       bits BinOp.andNot IntKind.u8 r2.map         (IntKind.u8.wrap           (1 * 2 ^ if Int.toNat r3 ≤ nat_lit 8 then Int.toNat r3 else nat_lit 8)),     has := r2.has, cls := r2.cls, ver := r2.ver }).bind fun r8 =>
 bif r8 then (bif decide (0 ≤ a0 ∧ a0 < 4) then (κ1 (IntKind.i64.wrap   (IntKind.i64.wrap (a4 * 8) +     IntKind.i64.wrap       (Int.tdiv         (IntKind.i64.wrap           (r3 *             bif a0 == 0 then (8 : Int)             else bif a0 == 1 then (16 : Int) else bif a0 == 2 then (24 : Int) else (32 : Int)))         8)))) else
 .fail) else
 k ()) else
 .fail) else
 κ0 ()
def stakeT_0L {β : Type} (a0 a1 : Int) (b2 : Bool) (g3 : Geo) (a4 : Int)  (κ0 : Unit → T β) (κ1 : Int → T β) : T β := loopB fuelN (stakeT_0B a0 a1 b2 g3 a4 κ0 κ1) ()
theorem stakeT_0L_bind {β γ : Type} (a0 a1 : Int) (b2 : Bool) (g3 : Geo) (a4 : Int)  (κ0 : Unit → T β) (κ1 : Int → T β) (κ : β → T γ) : (stakeT_0L a0 a1 b2 g3 a4  κ0 κ1).bind κ = stakeT_0L a0 a1 b2 g3 a4  (fun u => (κ0 u).bind κ) (fun ae0 => (κ1 ae0).bind κ) := by
 unfold stakeT_0L
 refine loopB_bind κ (fun i k => ?_) _ _
 unfold stakeT_0B
 first | rfl | (simp only [bind_cond, bind_ret_, bind_op, bind_fail, T.bind_assoc])
def stakeT_0_p : Pat := ⟨slotsN 56 0 [(3, .c (.int .i64)), (8, .c (.int .i64)), (9, .c (.bool)), (10, .c (.raw (.ptr 1 0)))], [none, some ⟨[.raw (.port), .geo, .int .i64], 234, false, none⟩]⟩
def stakeT_0_e0 : Pat := ⟨slotsN 56 0 [(8, .c (.int .i64)), (9, .c (.bool))], []⟩
def stakeT_0F : St → (Ex → St → T R) → Option (T R) := fun st K => match matchSt stakeT_0_p st with
 | some [.i a0, .i a1, .b b2, .g g3, .i a4] => some (stakeT_0L a0 a1 b2 g3 a4  (fun _ => K (.exit 0) (instSt stakeT_0_e0 [.i a1, .b b2])) (fun ae0 => K (.ret) (instSt stakeT_0_e0 [.i ae0, .b true])))
 | _ => none
theorem stakeT_0Ok : ∀ st K t, stakeT_0F st K = some t → loopN fuelN (loopF2 Tryz.prog (lookK ka3b) fuelN 0 .no (loopC [1, 1, 0, 0] Tryz.f261) (loopV [1, 1, 0, 0] Tryz.f261) K) st = t := by
 intro st K t h
 unfold stakeT_0F at h
 split at h
 ·rename_i a0 a1 b2 g3 a4 hm
  cases h
  rw [matchSt_eq hm]
  exact loop_eq (S := fun i => instSt stakeT_0_p [.i a0, .i a1, .b b2, .g g3, .i a4]) (B := stakeT_0B a0 a1 b2 g3 a4 (fun _ => K (.exit 0) (instSt stakeT_0_e0 [.i a1, .b b2])) (fun ae0 => K (.ret) (instSt stakeT_0_e0 [.i ae0, .b true]))) (fun i k => by kernel_rfl) fuelN ()
 ·cases h
def stakeTK {β : Type} (g : Geo) (p k : Int) (κ : (Int × Bool) → T β) : T β :=
 stakeT_0L (k) (0) (false) (g) (p) (fun y0_0 =>
 κ ((0), (false))) (fun y0_0 =>
 κ ((y0_0), (true)))
def stakeT (g : Geo) (p k : Int) : T (Int × Bool) := stakeTK g p k .ret
theorem stakeT_bind {β : Type} (g : Geo) (p k : Int) (κ : (Int × Bool) → T β) : (stakeT g p k).bind κ = stakeTK g p k κ := by
 unfold stakeT stakeTK
 first | rfl | (simp only [bind_cond, bind_ret_, bind_op, bind_fail, T.bind_assoc, stakeT_0L_bind])
def pushT_0B {β : Type} (a0 : Int) (b1 b2 : Bool) (g3 : Geo) (a4 : Int) (κ0 : Unit → T β) (κ1 : Unit → T β) (i : Unit) (k : Unit → T β) : T β :=
 bif b2 then (.op (.load (atF g3 9 a4)) fun x1 =>
 .op (.store (atF g3 10 a0) (x1)) fun _ =>
 .op (.cas (atF g3 9 a4) (x1) (IntKind.u64.wrap (IntKind.u64.wrap a0 + 1))) fun b3 =>
 bif b3 then (κ0 ()) else
 k ()) else
 κ1 ()
def pushT_0L {β : Type} (a0 : Int) (b1 b2 : Bool) (g3 : Geo) (a4 : Int)  (κ0 : Unit → T β) (κ1 : Unit → T β) : T β := loopB fuelN (pushT_0B a0 b1 b2 g3 a4 κ0 κ1) ()
theorem pushT_0L_bind {β γ : Type} (a0 : Int) (b1 b2 : Bool) (g3 : Geo) (a4 : Int)  (κ0 : Unit → T β) (κ1 : Unit → T β) (κ : β → T γ) : (pushT_0L a0 b1 b2 g3 a4  κ0 κ1).bind κ = pushT_0L a0 b1 b2 g3 a4  (fun u => (κ0 u).bind κ) (fun u => (κ1 u).bind κ) := by
 unfold pushT_0L
 refine loopB_bind κ (fun i k => ?_) _ _
 unfold pushT_0B
 first | rfl | (simp only [bind_cond, bind_ret_, bind_op, bind_fail, T.bind_assoc])
def pushT_0_p : Pat := ⟨slotsN 60 0 [(2, .c (.int .i64)), (6, .c (.bool)), (7, .c (.raw (.ptr 1 0))), (9, .c (.bool))], [none, some ⟨[.raw (.port), .geo, .int .i64], 234, false, none⟩]⟩
def pushT_0_e0 : Pat := ⟨slotsN 60 0 [(6, .c (.bool))], []⟩
def pushT_0F : St → (Ex → St → T R) → Option (T R) := fun st K => match matchSt pushT_0_p st with
 | some [.i a0, .b b1, .b b2, .g g3, .i a4] => some (pushT_0L a0 b1 b2 g3 a4  (fun _ => K (.ret) (instSt pushT_0_e0 [.b true])) (fun _ => K (.exit 0) (instSt pushT_0_e0 [.b b1])))
 | _ => none
theorem pushT_0Ok : ∀ st K t, pushT_0F st K = some t → loopN fuelN (loopF2 Tryz.prog (lookK ka3b) fuelN 0 .no (loopC [1, 1, 0, 0] Tryz.f88) (loopV [1, 1, 0, 0] Tryz.f88) K) st = t := by
 intro st K t h
 unfold pushT_0F at h
 split at h
 ·rename_i a0 b1 b2 g3 a4 hm
  cases h
  rw [matchSt_eq hm]
  exact loop_eq (S := fun i => instSt pushT_0_p [.i a0, .b b1, .b b2, .g g3, .i a4]) (B := pushT_0B a0 b1 b2 g3 a4 (fun _ => K (.ret) (instSt pushT_0_e0 [.b true])) (fun _ => K (.exit 0) (instSt pushT_0_e0 [.b b1]))) (fun i k => by kernel_rfl) fuelN ()
 ·cases h
def pushTK {β : Type} (g : Geo) (k : Int) (κ : Bool → T β) : T β :=
 bif decide (k < 0) then (κ (false)) else
 bif decide (k ≥ IntKind.i64.wrap (g.pages * 8)) then (κ (false)) else
 pushT_0L (k) (false) (true) (g) (IntKind.i64.wrap (Int.tdiv k 8)) (fun y2_0 =>
 κ (true)) (fun y2_0 =>
 κ (false))
def pushT (g : Geo) (k : Int) : T Bool := pushTK g k .ret
theorem pushT_bind {β : Type} (g : Geo) (k : Int) (κ : Bool → T β) : (pushT g k).bind κ = pushTK g k κ := by
 unfold pushT pushTK
 first | rfl | (simp only [bind_cond, bind_ret_, bind_op, bind_fail, T.bind_assoc, pushT_0L_bind])
def findTK {β : Type} (g : Geo) (k : Int) (κ : Pg → T β) : T β :=
 bif decide (k < 0) then (κ ⟨(0), (0), (0), (0)⟩) else
 bif decide (k ≥ IntKind.i64.wrap (g.pages * 8)) then (κ ⟨(0), (0), (0), (0)⟩) else
 .op (.load (atF g 7 (IntKind.i64.wrap (Int.tdiv k 8)))) fun x2 =>
 κ ⟨(if (IntKind.signed IntKind.i64 && decide (bits BinOp.and IntKind.u64 (Int.fdiv x2 1) 7 % 18446744073709551616 ≥ 9223372036854775808)) = true then bits BinOp.and IntKind.u64 (Int.fdiv x2 1) 7 % 18446744073709551616 - 18446744073709551616 else bits BinOp.and IntKind.u64 (Int.fdiv x2 1) 7 % 18446744073709551616), (if (IntKind.signed IntKind.i64 && decide (bits BinOp.and IntKind.u64 (Int.fdiv x2 8) 1023 % 18446744073709551616 ≥ 9223372036854775808)) = true then bits BinOp.and IntKind.u64 (Int.fdiv x2 8) 1023 % 18446744073709551616 - 18446744073709551616 else bits BinOp.and IntKind.u64 (Int.fdiv x2 8) 1023 % 18446744073709551616), (if (IntKind.signed IntKind.i64 && decide (bits BinOp.and IntKind.u64 (Int.fdiv x2 8192) 3 % 18446744073709551616 ≥ 9223372036854775808)) = true then bits BinOp.and IntKind.u64 (Int.fdiv x2 8192) 3 % 18446744073709551616 - 18446744073709551616 else bits BinOp.and IntKind.u64 (Int.fdiv x2 8192) 3 % 18446744073709551616), (if (IntKind.signed IntKind.i64 && decide (bits BinOp.and IntKind.u64 (Int.fdiv x2 65536) 127 % 18446744073709551616 ≥ 9223372036854775808)) = true then bits BinOp.and IntKind.u64 (Int.fdiv x2 65536) 127 % 18446744073709551616 - 18446744073709551616 else bits BinOp.and IntKind.u64 (Int.fdiv x2 65536) 127 % 18446744073709551616)⟩
def findT (g : Geo) (k : Int) : T Pg := findTK g k .ret
theorem findT_bind {β : Type} (g : Geo) (k : Int) (κ : Pg → T β) : (findT g k).bind κ = findTK g k κ := by
 unfold findT findTK
 first | rfl | (simp only [bind_cond, bind_ret_, bind_op, bind_fail, T.bind_assoc])
def m_emptiesT : Sm := fun args H => match args, H with
 | [.c .port, .agg gc, .c (.int .i64 nd)], [] => (match geoOf gc with
   | some g => some (mkS ((Int × Bool)) (emptiesT g nd) fun r => some (.tup [.c (.int .u64 r.1), .c (.bool r.2)], []))
   | _ => none)
 | _, _ => none
theorem emptiesT_good : Good Tryz.prog (lookK ka3b) fuelN 0 (lsAt emptiesT_0F .no [1, 0, 1, 0]) (Tryz.f286.body.getD .skip) (resMask Tryz.f286.results.toList) := good_fn (body_eq (by kernel_rfl)) good_no emptiesT_0Ok
variable {σ : Type} {I : Port Tryz.prog σ}
theorem s_m_emptiesT (hl : SoundL I ka3b) : SoundF I 286 m_emptiesT := by
 refine sq hl fuelN Tryz.func286 fun args H t ht => ?_
 unfold m_emptiesT at ht
 split at ht
 ·rename_i gc nd
  split at ht
  ·rename_i g hg
   obtain rfl := geoOf_eq hg
   cases ht
   refine (evF2_eq (P := Tryz.prog) (n := fuelN) (x := (lsAt emptiesT_0F .no [1, 0, 1, 0])) (fn := Tryz.f286) (H := []) (c := Tryz.f286.body.getD .skip) (body_eq (by kernel_rfl)) emptiesT_good).symm.trans ?_
   refine Eq.trans ?_ (emptiesT_bind g nd _).symm
   kernel_rfl
  ·cases ht
 ·cases ht
def m_countsT : Sm := fun args H => match args, H with
 | [.agg (.port :: gc), .c (.int .i64 n), .c (.bool l)], [] => (match geoOf gc with
   | some g => some (mkS (Unit) (countsT g n l) fun r => some (.tup [], []))
   | _ => none)
 | _, _ => none
theorem s_m_countsT (hl : SoundL I ka3b) : SoundF I 223 m_countsT := by
 refine sq hl 1 Tryz.func223 fun args H t ht => ?_
 unfold m_countsT at ht
 split at ht
 ·rename_i gc n l
  split at ht
  ·rename_i g hg
   obtain rfl := geoOf_eq hg
   cases ht
   refine Eq.trans ?_ (countsT_bind g n l _).symm
   kernel_rfl
  ·cases ht
 ·cases ht
def m_anyT : Sm := fun args H => match args, H with
 | [.agg (.port :: gc), .c (.int .i64 k)], [] => (match geoOf gc with
   | some g => some (mkS (Bool) (anyT g k) fun r => some (.c (.bool r), []))
   | _ => none)
 | _, _ => none
theorem anyT_good : Good Tryz.prog (lookK ka3b) fuelN 0 (lsAt anyT_0F .no [1, 0, 1, 0]) (Tryz.f281.body.getD .skip) (resMask Tryz.f281.results.toList) := good_fn (body_eq (by kernel_rfl)) good_no anyT_0Ok
theorem s_m_anyT (hl : SoundL I ka3b) : SoundF I 281 m_anyT := by
 refine sq hl fuelN Tryz.func281 fun args H t ht => ?_
 unfold m_anyT at ht
 split at ht
 ·rename_i gc k
  split at ht
  ·rename_i g hg
   obtain rfl := geoOf_eq hg
   cases ht
   refine (evF2_eq (P := Tryz.prog) (n := fuelN) (x := (lsAt anyT_0F .no [1, 0, 1, 0])) (fn := Tryz.f281) (H := []) (c := Tryz.f281.body.getD .skip) (body_eq (by kernel_rfl)) anyT_good).symm.trans ?_
   refine Eq.trans ?_ (anyT_bind g k _).symm
   kernel_rfl
  ·cases ht
 ·cases ht
def m_cblockT : Sm := fun args H => match args, H with
 | [.c (.int .i64 c), .c (.int .i64 o)], [] => some (mkS ((Int × Bool)) (cblockT c o) fun r => some (.tup [.c (.int .i64 r.1), .c (.bool r.2)], []))
 | _, _ => none
theorem s_m_cblockT (hl : SoundL I ka3b) : SoundF I 177 m_cblockT := by
 refine sq hl 1 Tryz.func177 fun args H t ht => ?_
 unfold m_cblockT at ht
 split at ht
 ·rename_i c o
  cases ht
  refine Eq.trans ?_ (cblockT_bind c o _).symm
  kernel_rfl
 ·cases ht
def m_makeT : Sm := fun args H => match args, H with
 | [.c .port, .agg gc, .c (.int .i64 p), .c (.int .i64 k)], [] => (match geoOf gc with
   | some g => some (mkS (Int) (makeT g p k) fun r => some (.c (.int .i64 r), []))
   | _ => none)
 | _, _ => none
theorem s_m_makeT (hl : SoundL I ka3b) : SoundF I 262 m_makeT := by
 refine sq hl 1 Tryz.func262 fun args H t ht => ?_
 unfold m_makeT at ht
 split at ht
 ·rename_i gc p k
  split at ht
  ·rename_i g hg
   obtain rfl := geoOf_eq hg
   cases ht
   refine Eq.trans ?_ (makeT_bind g p k _).symm
   kernel_rfl
  ·cases ht
 ·cases ht
def m_stakeT : Sm := fun args H => match args, H with
 | [.c .port, .agg gc, .c (.int .i64 p), .c (.int .i64 k)], [] => (match geoOf gc with
   | some g => some (mkS ((Int × Bool)) (stakeT g p k) fun r => some (.tup [.c (.int .i64 r.1), .c (.bool r.2)], []))
   | _ => none)
 | _, _ => none
theorem stakeT_good : Good Tryz.prog (lookK ka3b) fuelN 0 (lsAt stakeT_0F .no [1, 1, 0, 0]) (Tryz.f261.body.getD .skip) (resMask Tryz.f261.results.toList) := good_fn (body_eq (by kernel_rfl)) good_no stakeT_0Ok
theorem s_m_stakeT (hl : SoundL I ka3b) : SoundF I 261 m_stakeT := by
 refine sq hl fuelN Tryz.func261 fun args H t ht => ?_
 unfold m_stakeT at ht
 split at ht
 ·rename_i gc p k
  split at ht
  ·rename_i g hg
   obtain rfl := geoOf_eq hg
   cases ht
   refine (evF2_eq (P := Tryz.prog) (n := fuelN) (x := (lsAt stakeT_0F .no [1, 1, 0, 0])) (fn := Tryz.f261) (H := []) (c := Tryz.f261.body.getD .skip) (body_eq (by kernel_rfl)) stakeT_good).symm.trans ?_
   refine Eq.trans ?_ (stakeT_bind g p k _).symm
   kernel_rfl
  ·cases ht
 ·cases ht
def m_pushT : Sm := fun args H => match args, H with
 | [.c .port, .agg gc, .c (.int .i64 k)], [] => (match geoOf gc with
   | some g => some (mkS (Bool) (pushT g k) fun r => some (.c (.bool r), []))
   | _ => none)
 | _, _ => none
theorem pushT_good : Good Tryz.prog (lookK ka3b) fuelN 0 (lsAt pushT_0F .no [1, 1, 0, 0]) (Tryz.f88.body.getD .skip) (resMask Tryz.f88.results.toList) := good_fn (body_eq (by kernel_rfl)) good_no pushT_0Ok
theorem s_m_pushT (hl : SoundL I ka3b) : SoundF I 88 m_pushT := by
 refine sq hl fuelN Tryz.func88 fun args H t ht => ?_
 unfold m_pushT at ht
 split at ht
 ·rename_i gc k
  split at ht
  ·rename_i g hg
   obtain rfl := geoOf_eq hg
   cases ht
   refine (evF2_eq (P := Tryz.prog) (n := fuelN) (x := (lsAt pushT_0F .no [1, 1, 0, 0])) (fn := Tryz.f88) (H := []) (c := Tryz.f88.body.getD .skip) (body_eq (by kernel_rfl)) pushT_good).symm.trans ?_
   refine Eq.trans ?_ (pushT_bind g k _).symm
   kernel_rfl
  ·cases ht
 ·cases ht
def m_findT : Sm := fun args H => match args, H with
 | [.c .port, .agg gc, .c (.int .i64 k)], [] => (match geoOf gc with
   | some g => some (mkS (Pg) (findT g k) fun r => some (.agg r.cells, []))
   | _ => none)
 | _, _ => none
theorem s_m_findT (hl : SoundL I ka3b) : SoundF I 84 m_findT := by
 refine sq hl 1 Tryz.func84 fun args H t ht => ?_
 unfold m_findT at ht
 split at ht
 ·rename_i gc k
  split at ht
  ·rename_i g hg
   obtain rfl := geoOf_eq hg
   cases ht
   refine Eq.trans ?_ (findT_bind g k _).symm
   kernel_rfl
  ·cases ht
 ·cases ht
def ka4 : List (Nat × Sm) := (286, m_emptiesT) :: (223, m_countsT) :: (281, m_anyT) :: (177, m_cblockT) :: (262, m_makeT) :: (261, m_stakeT) :: (88, m_pushT) :: (84, m_findT) :: ka3b
theorem s_ka4 : SoundL I ka4 := (.cons (s_m_emptiesT s_ka3b) (.cons (s_m_countsT s_ka3b) (.cons (s_m_anyT s_ka3b) (.cons (s_m_cblockT s_ka3b) (.cons (s_m_makeT s_ka3b) (.cons (s_m_stakeT s_ka3b) (.cons (s_m_pushT s_ka3b) (.cons (s_m_findT s_ka3b) s_ka3b))))))))
end Go.Proofs.YtaegelbaghaooaaGreat.Lx
