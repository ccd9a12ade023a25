/- Summaries: runs, slab, pool, tally. (trees printed by program, wip/auto.py) -/
import Derived.Test.YtaegelbaghaooaaGreatRpQA6
import Derived.WalkKit
set_option linter.unusedSimpArgs false
set_option linter.unusedVariables false
set_option linter.unusedSectionVars false
namespace Go.Proofs.YtaegelbaghaooaaGreat.Lx
open Go
set_option maxRecDepth 1000000

def collectT_0B {β : Type} (a0 : Int) (g3 g4 : Geo) (κ0 : Int → T β) (i : Int × Int) (k : Int × Int → T β) : T β :=
 bif decide (i.2 < g3.pages) then ((getT_ g4 i.2).bind fun r1 =>
 bif r1.kind == 5 then ((rfreeT g3 i.2 r1.len).bind fun r3 =>
 bif r3 then ((longT { kind := r1.kind, len := r1.len, cls := r1.cls, owner := r1.owner }).bind fun r5 =>
 k (IntKind.i64.wrap (i.1 + 1), IntKind.i64.wrap (i.2 + r5))) else
 (longT { kind := r1.kind, len := r1.len, cls := r1.cls, owner := r1.owner }).bind fun r5 =>
 k (i.1, IntKind.i64.wrap (i.2 + r5))) else
 (longT { kind := r1.kind, len := r1.len, cls := r1.cls, owner := r1.owner }).bind fun r3 =>
 k (i.1, IntKind.i64.wrap (i.2 + r3))) else
 κ0 (i.1)
def collectT_0L {β : Type} (a0 : Int) (g3 g4 : Geo) (a1 a2 : Int) (κ0 : Int → T β) : T β := loopB fuelN (collectT_0B a0 g3 g4 κ0) (a1, a2)
theorem collectT_0L_bind {β γ : Type} (a0 : Int) (g3 g4 : Geo) (a1 a2 : Int) (κ0 : Int → T β) (κ : β → T γ) : (collectT_0L a0 g3 g4 a1 a2 κ0).bind κ = collectT_0L a0 g3 g4 a1 a2 (fun ae1 => (κ0 ae1).bind κ) := by
 unfold collectT_0L
 refine loopB_bind κ (fun i k => ?_) _ _
 unfold collectT_0B
 first | rfl | (simp only [bind_cond, bind_ret_, bind_op, bind_fail, T.bind_assoc])
def collectT_0_p : Pat := ⟨slotsN 37 0 [(0, .c (.raw (.port))), (3, .c (.raw (.ptr 0 0))), (4, .c (.int .i64)), (5, .c (.raw (.ptr 1 0))), (6, .c (.int .i64)), (7, .c (.int .i64))], [some ⟨[.geo], 24, false, none⟩, some ⟨[.raw (.port), .geo], 212, false, none⟩]⟩
def collectT_0_e0 : Pat := ⟨slotsN 37 0 [(4, .c (.int .i64)), (6, .c (.int .i64))], []⟩
def collectT_0F : St → (Ex → St → T R) → Option (T R) := fun st K => match matchSt collectT_0_p st with
 | some [.i a0, .i a1, .i a2, .g g3, .g g4] => some (collectT_0L a0 g3 g4 a1 a2 (fun ae1 => K (.exit 0) (instSt collectT_0_e0 [.i a0, .i ae1])))
 | _ => none
theorem collectT_0Ok : ∀ st K t, collectT_0F st K = some t → loopN fuelN (loopF2 Tryz.prog (lookK ka6) fuelN 0 .no (loopC [1, 1, 1, 0, 1, 0] Tryz.f170) (loopV [1, 1, 1, 0, 1, 0] Tryz.f170) K) st = t := by
 intro st K t h
 unfold collectT_0F at h
 split at h
 ·rename_i a0 a1 a2 g3 g4 hm
  cases h
  rw [matchSt_eq hm]
  exact cast (by kernel_rfl) (loop_eq (F := loopF2 Tryz.prog (lookK ka6) fuelN 0 .no (loopC [1, 1, 1, 0, 1, 0] Tryz.f170) (loopV [1, 1, 1, 0, 1, 0] Tryz.f170) K) (S := fun i => instSt collectT_0_p [.i a0, .i (i.1), .i (i.2), .g g3, .g g4]) (B := collectT_0B a0 g3 g4 (fun ae1 => K (.exit 0) (instSt collectT_0_e0 [.i a0, .i ae1]))) (fun i k => by kernel_rfl) fuelN (a1, a2))
 ·cases h
def collectTK {β : Type} (g : Geo) (κ : Int → T β) : T β :=
 collectT_0L (0) (g) (g) (0) (0) (fun y0_0 =>
 κ (y0_0))
def collectT (g : Geo) : T Int := collectTK g .ret
theorem collectT_bind {β : Type} (g : Geo) (κ : Int → T β) : (collectT g).bind κ = collectTK g κ := by
 unfold collectT collectTK
 first | rfl | (simp only [bind_cond, bind_ret_, bind_op, bind_fail, T.bind_assoc, collectT_0L_bind])
def sretireTK {β : Type} (g : Geo) (p : Int) (κ : Bool → T β) : T β :=
 (isT g p 0).bind fun r0 =>
 bif !r0 then (κ (false)) else
 (bitsT g p).bind fun r2 =>
 bif !r2.has then (κ (false)) else
 bif decide (r2.cls ≥ 4) then (κ (false)) else
 bif decide (0 ≤ r2.cls ∧ r2.cls < 4) then ((fullT (Bt.mk r2.map r2.has r2.cls r2.ver) (bif r2.cls == 0 then (8 : Int) else bif r2.cls == 0 + 1 then (4 : Int) else bif r2.cls == 0 + 1 + 1 then (2 : Int) else (2 : Int))).bind fun r6 =>
 bif !r6 then (κ (false)) else
 (turnsT g p (Bt.mk r2.map r2.has r2.cls r2.ver) (Bt.mk 0 false 0 (IntKind.u32.wrap (r2.ver + 1)))).bind fun r8 =>
 bif r8 then ((rfreeT g p 1).bind fun r10 =>
 κ (r10)) else
 κ (false)) else
 .fail
def sretireT (g : Geo) (p : Int) : T Bool := sretireTK g p .ret
theorem sretireT_bind {β : Type} (g : Geo) (p : Int) (κ : Bool → T β) : (sretireT g p).bind κ = sretireTK g p κ := by
 unfold sretireT sretireTK
 first | rfl | (simp only [bind_cond, bind_ret_, bind_op, bind_fail, T.bind_assoc])
def pnone0TK {β : Type} (g : Geo) (κ : Bool → T β) : T β :=
 bif g.pages == 0 then (κ (true)) else
 κ (decide ((-1) ≥ 0))
def pnone0T (g : Geo) : T Bool := pnone0TK g .ret
theorem pnone0T_bind {β : Type} (g : Geo) (κ : Bool → T β) : (pnone0T g).bind κ = pnone0TK g κ := by
 unfold pnone0T pnone0TK
 first | rfl | (simp only [bind_cond, bind_ret_, bind_op, bind_fail, T.bind_assoc])
def pnone1TK {β : Type} (g : Geo) (k : Int) (κ : Bool → T β) : T β :=
 bif g.pages == 0 then (κ (true)) else
 (cont1T (-1) k).bind fun r1 =>
 κ (r1)
def pnone1T (g : Geo) (k : Int) : T Bool := pnone1TK g k .ret
theorem pnone1T_bind {β : Type} (g : Geo) (k : Int) (κ : Bool → T β) : (pnone1T g k).bind κ = pnone1TK g k κ := by
 unfold pnone1T pnone1TK
 first | rfl | (simp only [bind_cond, bind_ret_, bind_op, bind_fail, T.bind_assoc])
def pnone2TK {β : Type} (g : Geo) (k j : Int) (κ : Bool → T β) : T β :=
 bif g.pages == 0 then (κ (true)) else
 (cont2T (-1) k j).bind fun r1 =>
 κ (r1)
def pnone2T (g : Geo) (k j : Int) : T Bool := pnone2TK g k j .ret
theorem pnone2T_bind {β : Type} (g : Geo) (k j : Int) (κ : Bool → T β) : (pnone2T g k j).bind κ = pnone2TK g k j κ := by
 unfold pnone2T pnone2TK
 first | rfl | (simp only [bind_cond, bind_ret_, bind_op, bind_fail, T.bind_assoc])
def homeTK {β : Type} (g : Geo) (o k : Int) (κ : (Unit × Int) → T β) : T β :=
 (shomeT g k).bind fun r0 =>
 (movedT g o 1).bind fun r1 =>
 κ ((), (r1.2))
def homeT (g : Geo) (o k : Int) : T (Unit × Int) := homeTK g o k .ret
theorem homeT_bind {β : Type} (g : Geo) (o k : Int) (κ : (Unit × Int) → T β) : (homeT g o k).bind κ = homeTK g o k κ := by
 unfold homeT homeTK
 first | rfl | (simp only [bind_cond, bind_ret_, bind_op, bind_fail, T.bind_assoc])
def hbitsT_0B {β : Type} (a0 a1 : Int) (g3 : Geo) (a5 : Int) (b6 : Bool) (a7 : Int) (κ0 : Int → Int → T β) (κ1 : Int → T β) (i : Int × Int) (k : Int × Int → T β) : T β :=
 bif decide (i.1 < a1) then ((hofT g3 i.2 i.1 a0).bind fun r1 =>
 bif !r1.1 then (k (IntKind.i64.wrap (i.1 + 1), r1.2)) else
 (stakeT g3 i.1 a0).bind fun r3 =>
 bif r3.2 then (κ0 (r1.2) (r3.1)) else
 k (IntKind.i64.wrap (i.1 + 1), r1.2)) else
 κ1 (i.2)
def hbitsT_0L {β : Type} (a0 a1 : Int) (g3 : Geo) (a5 : Int) (b6 : Bool) (a7 a2 a4 : Int) (κ0 : Int → Int → T β) (κ1 : Int → T β) : T β := loopB fuelN (hbitsT_0B a0 a1 g3 a5 b6 a7 κ0 κ1) (a2, a4)
theorem hbitsT_0L_bind {β γ : Type} (a0 a1 : Int) (g3 : Geo) (a5 : Int) (b6 : Bool) (a7 a2 a4 : Int) (κ0 : Int → Int → T β) (κ1 : Int → T β) (κ : β → T γ) : (hbitsT_0L a0 a1 g3 a5 b6 a7 a2 a4 κ0 κ1).bind κ = hbitsT_0L a0 a1 g3 a5 b6 a7 a2 a4 (fun ae1 ae2 => (κ0 ae1 ae2).bind κ) (fun ae1 => (κ1 ae1).bind κ) := by
 unfold hbitsT_0L
 refine loopB_bind κ (fun i k => ?_) _ _
 unfold hbitsT_0B
 first | rfl | (simp only [bind_cond, bind_ret_, bind_op, bind_fail, T.bind_assoc])
def hbitsT_0_p : Pat := ⟨slotsN 40 0 [(0, .c (.raw (.ptr 0 0))), (1, .c (.int .i64)), (4, .c (.raw (.ptr 1 0))), (12, .c (.int .i64)), (13, .c (.int .i64))], [some ⟨[.raw (.port), .geo, .int .u64], 150, false, none⟩, some ⟨[.int .i64, .bool, .int .i64], 221, false, none⟩]⟩
def hbitsT_0_e0 : Pat := ⟨slotsN 40 0 [(4, .c (.raw (.ptr 1 0)))], [some ⟨[.raw (.port), .geo, .int .u64], 150, false, none⟩, some ⟨[.int .i64, .bool, .int .i64], 221, false, none⟩]⟩
def hbitsT_0F : St → (Ex → St → T R) → Option (T R) := fun st K => match matchSt hbitsT_0_p st with
 | some [.i a0, .i a1, .i a2, .g g3, .i a4, .i a5, .b b6, .i a7] => some (hbitsT_0L a0 a1 g3 a5 b6 a7 a2 a4 (fun ae1 ae2 => K (.ret) (instSt hbitsT_0_e0 [.g g3, .i ae1, .i ae2, .b true, .i 0])) (fun ae1 => K (.exit 0) (instSt hbitsT_0_e0 [.g g3, .i ae1, .i a5, .b b6, .i a7])))
 | _ => none
theorem hbitsT_0Ok : ∀ st K t, hbitsT_0F st K = some t → loopN fuelN (loopF2 Tryz.prog (lookK ka6) fuelN 1 .no (loopC [1, 0, 1, 0] Tryz.f227) (loopV [1, 0, 1, 0] Tryz.f227) K) st = t := by
 intro st K t h
 unfold hbitsT_0F at h
 split at h
 ·rename_i a0 a1 a2 g3 a4 a5 b6 a7 hm
  cases h
  rw [matchSt_eq hm]
  exact cast (by kernel_rfl) (loop_eq (F := loopF2 Tryz.prog (lookK ka6) fuelN 1 .no (loopC [1, 0, 1, 0] Tryz.f227) (loopV [1, 0, 1, 0] Tryz.f227) K) (S := fun i => instSt hbitsT_0_p [.i a0, .i a1, .i (i.1), .g g3, .i (i.2), .i a5, .b b6, .i a7]) (B := hbitsT_0B a0 a1 g3 a5 b6 a7 (fun ae1 ae2 => K (.ret) (instSt hbitsT_0_e0 [.g g3, .i ae1, .i ae2, .b true, .i 0])) (fun ae1 => K (.exit 0) (instSt hbitsT_0_e0 [.g g3, .i ae1, .i a5, .b b6, .i a7]))) (fun i k => by kernel_rfl) fuelN (a2, a4))
 ·cases h
def hbitsTK {β : Type} (g : Geo) (o c : Int) (κ : (Fnd × Int) → T β) : T β :=
 hbitsT_0L (c) (g.pages) (g) (0) (false) (0) (0) (o) (fun y0_0 y0_1 =>
 κ (⟨(y0_1), (true), (0)⟩, (y0_0))) (fun y0_0 =>
 κ (⟨(0), (false), (0)⟩, (y0_0)))
def hbitsT (g : Geo) (o c : Int) : T (Fnd × Int) := hbitsTK g o c .ret
theorem hbitsT_bind {β : Type} (g : Geo) (o c : Int) (κ : (Fnd × Int) → T β) : (hbitsT g o c).bind κ = hbitsTK g o c κ := by
 unfold hbitsT hbitsTK
 first | rfl | (simp only [bind_cond, bind_ret_, bind_op, bind_fail, T.bind_assoc, hbitsT_0L_bind])
def freshTK {β : Type} (g : Geo) (o c : Int) (κ : (Fnd × Int) → T β) : T β :=
 (tryT g).bind fun r0 =>
 bif !r0 then (κ (⟨(0), (false), (5)⟩, (o))) else
 (rallocT g 1 1).bind fun r2 =>
 bif r2.2 then ((makeT g r2.1 c).bind fun r4 =>
 (movedT g o 1).bind fun r5 =>
 (dropT g).bind fun r6 =>
 κ (⟨(r4), (r2.2), (0)⟩, (r5.2))) else
 (dropT g).bind fun r4 =>
 κ (⟨(0), (r2.2), (0)⟩, (o))
def freshT (g : Geo) (o c : Int) : T (Fnd × Int) := freshTK g o c .ret
theorem freshT_bind {β : Type} (g : Geo) (o c : Int) (κ : (Fnd × Int) → T β) : (freshT g o c).bind κ = freshTK g o c κ := by
 unfold freshT freshTK
 first | rfl | (simp only [bind_cond, bind_ret_, bind_op, bind_fail, T.bind_assoc])
def wrong2TK {β : Type} (g : Geo) (a s : Int) (κ : Int → T β) : T β :=
 bif decide (s < 1) then (κ (11)) else
 bif decide (s > IntKind.i64.wrap (g.pages * 64)) then (κ (11)) else
 bif decide (a < 0) then (κ (13)) else
 bif decide (a ≥ IntKind.i64.wrap (g.pages * 64)) then (κ (13)) else
 bif Int.tmod a 8 != 0 then (κ (13)) else
 κ (0)
def wrong2T (g : Geo) (a s : Int) : T Int := wrong2TK g a s .ret
theorem wrong2T_bind {β : Type} (g : Geo) (a s : Int) (κ : Int → T β) : (wrong2T g a s).bind κ = wrong2TK g a s κ := by
 unfold wrong2T wrong2TK
 first | rfl | (simp only [bind_cond, bind_ret_, bind_op, bind_fail, T.bind_assoc])
def rtoldTK {β : Type} (g : Geo) (x : Rn) (r0 : Res) (κ : (Res × Rn) → T β) : T β :=
 .op (.tell [.int .i64 (r0.at_), .int .i64 (r0.n), .int .u8 (r0.byte), .int .u64 (r0.c1), .int .u64 (r0.c2), .int .u64 (r0.c3), .int .u64 (r0.c4), .int .u64 (r0.c5), .int .i64 (r0.e), .int .i64 (r0.lin), .int .i64 (r0.touch)]) fun _ =>
 κ (⟨(r0.at_), (r0.n), (r0.byte), (r0.c1), (r0.c2), (r0.c3), (r0.c4), (r0.c5), (r0.e), (r0.lin), (r0.touch)⟩, ⟨(x.grain), (x.size), (x.to), (x.usable), (x.has)⟩)
def rtoldT (g : Geo) (x : Rn) (r0 : Res) : T (Res × Rn) := rtoldTK g x r0 .ret
theorem rtoldT_bind {β : Type} (g : Geo) (x : Rn) (r0 : Res) (κ : (Res × Rn) → T β) : (rtoldT g x r0).bind κ = rtoldTK g x r0 κ := by
 unfold rtoldT rtoldTK
 first | rfl | (simp only [bind_cond, bind_ret_, bind_op, bind_fail, T.bind_assoc])
def rroomTK {β : Type} (g : Geo) (x : Rn) (κ : (Int × Rn) → T β) : T β :=
 (findT g x.grain).bind fun r0 =>
 bif r0.kind == 3 then (bif decide (0 ≤ r0.cls ∧ r0.cls < 4) then (κ ((bif r0.cls == 0 then (8 : Int) else bif r0.cls == 1 then (16 : Int) else bif r0.cls == 2 then (24 : Int) else (32 : Int)), ⟨(x.grain), (x.size), (x.to), (x.usable), (x.has)⟩)) else
 .fail) else
 bif r0.kind == 4 then (κ ((IntKind.i64.wrap (r0.len * 64)), ⟨(x.grain), (x.size), (x.to), (x.usable), (x.has)⟩)) else
 κ ((0), ⟨(x.grain), (x.size), (x.to), (x.usable), (x.has)⟩)
def rroomT (g : Geo) (x : Rn) : T (Int × Rn) := rroomTK g x .ret
theorem rroomT_bind {β : Type} (g : Geo) (x : Rn) (κ : (Int × Rn) → T β) : (rroomT g x).bind κ = rroomTK g x κ := by
 unfold rroomT rroomTK
 first | rfl | (simp only [bind_cond, bind_ret_, bind_op, bind_fail, T.bind_assoc])
def copiesT_0B {β : Type} (a0 : Int) (g2 : Geo) (a3 a4 a5 a6 : Int) (b7 : Bool) (κ0 : Unit → T β) (i : Int) (k : Int → T β) : T β :=
 bif decide (i < a0) then (.op (.get (IntKind.i64.wrap (IntKind.i64.wrap (a3 * 8) + i))) fun x1 =>
 .op (.put (IntKind.i64.wrap (IntKind.i64.wrap (a5 * 8) + i)) (x1)) fun _ =>
 k (IntKind.i64.wrap (i + 1))) else
 κ0 ()
def copiesT_0L {β : Type} (a0 : Int) (g2 : Geo) (a3 a4 a5 a6 : Int) (b7 : Bool) (a1 : Int) (κ0 : Unit → T β) : T β := loopB fuelN (copiesT_0B a0 g2 a3 a4 a5 a6 b7 κ0) (a1)
theorem copiesT_0L_bind {β γ : Type} (a0 : Int) (g2 : Geo) (a3 a4 a5 a6 : Int) (b7 : Bool) (a1 : Int) (κ0 : Unit → T β) (κ : β → T γ) : (copiesT_0L a0 g2 a3 a4 a5 a6 b7 a1 κ0).bind κ = copiesT_0L a0 g2 a3 a4 a5 a6 b7 a1 (fun u => (κ0 u).bind κ) := by
 unfold copiesT_0L
 refine loopB_bind κ (fun i k => ?_) _ _
 unfold copiesT_0B
 first | rfl | (simp only [bind_cond, bind_ret_, bind_op, bind_fail, T.bind_assoc])
def copiesT_0_p : Pat := ⟨slotsN 38 0 [(0, .c (.raw (.ptr 0 0))), (5, .c (.int .i64)), (6, .c (.int .i64))], [some ⟨[.raw (.port), .geo, .int .i64, .int .i64, .int .i64, .int .i64, .bool], 179, false, none⟩]⟩
def copiesT_0_e0 : Pat := ⟨slotsN 38 0 [], [some ⟨[.raw (.port), .geo, .int .i64, .int .i64, .int .i64, .int .i64, .bool], 179, false, none⟩]⟩
def copiesT_0F : St → (Ex → St → T R) → Option (T R) := fun st K => match matchSt copiesT_0_p st with
 | some [.i a0, .i a1, .g g2, .i a3, .i a4, .i a5, .i a6, .b b7] => some (copiesT_0L a0 g2 a3 a4 a5 a6 b7 a1 (fun _ => K (.exit 0) (instSt copiesT_0_e0 [.g g2, .i a3, .i a4, .i a5, .i a6, .b b7])))
 | _ => none
theorem copiesT_0Ok : ∀ st K t, copiesT_0F st K = some t → loopN fuelN (loopF2 Tryz.prog (lookK ka6) fuelN 1 .no (loopC [1, 0] Tryz.f194) (loopV [1, 0] Tryz.f194) K) st = t := by
 intro st K t h
 unfold copiesT_0F at h
 split at h
 ·rename_i a0 a1 g2 a3 a4 a5 a6 b7 hm
  cases h
  rw [matchSt_eq hm]
  exact cast (by kernel_rfl) (loop_eq (F := loopF2 Tryz.prog (lookK ka6) fuelN 1 .no (loopC [1, 0] Tryz.f194) (loopV [1, 0] Tryz.f194) K) (S := fun i => instSt copiesT_0_p [.i a0, .i i, .g g2, .i a3, .i a4, .i a5, .i a6, .b b7]) (B := copiesT_0B a0 g2 a3 a4 a5 a6 b7 (fun _ => K (.exit 0) (instSt copiesT_0_e0 [.g g2, .i a3, .i a4, .i a5, .i a6, .b b7]))) (fun i k => by kernel_rfl) fuelN (a1))
 ·cases h
def copiesTK {β : Type} (g : Geo) (x : Rn) (n : Int) (κ : (Unit × Rn) → T β) : T β :=
 copiesT_0L (n) (g) (x.grain) (x.size) (x.to) (x.usable) (x.has) (0) (fun y0_0 =>
 κ ((), ⟨(x.grain), (x.size), (x.to), (x.usable), (x.has)⟩))
def copiesT (g : Geo) (x : Rn) (n : Int) : T (Unit × Rn) := copiesTK g x n .ret
theorem copiesT_bind {β : Type} (g : Geo) (x : Rn) (n : Int) (κ : (Unit × Rn) → T β) : (copiesT g x n).bind κ = copiesTK g x n κ := by
 unfold copiesT copiesTK
 first | rfl | (simp only [bind_cond, bind_ret_, bind_op, bind_fail, T.bind_assoc, copiesT_0L_bind])
def cpower2TK {β : Type} (s : Int) (κ : Bool → T β) : T β :=
 bif decide (s > 0) then (κ (bits BinOp.and IntKind.i64 s (IntKind.i64.wrap (s - 1)) == 0)) else
 κ (false)
def cpower2T (s : Int) : T Bool := cpower2TK s .ret
theorem cpower2T_bind {β : Type} (s : Int) (κ : Bool → T β) : (cpower2T s).bind κ = cpower2TK s κ := by
 unfold cpower2T cpower2TK
 first | rfl | (simp only [bind_cond, bind_ret_, bind_op, bind_fail, T.bind_assoc])
def m_collectT : Sm := fun args H => match args, H with
 | [.c .port, .agg gc], [] => (match geoOf gc with
   | some g => some (mkS (Int) (collectT g) fun r => some (.c (.int .i64 r), []))
   | _ => none)
 | _, _ => none
theorem collectT_good : Good Tryz.prog (lookK ka6) fuelN 0 (lsAt collectT_0F .no [1, 1, 1, 0, 1, 0]) (Tryz.f170.body.getD .skip) (resMask Tryz.f170.results.toList) := good_fn (body_eq (by kernel_rfl)) good_no collectT_0Ok
variable {σ : Type} {I : Port Tryz.prog σ}
theorem s_m_collectT (hl : SoundL I ka6) : SoundF I 170 m_collectT := by
 refine sq hl fuelN Tryz.func170 fun args H t ht => ?_
 unfold m_collectT at ht
 split at ht
 ·rename_i gc
  split at ht
  ·rename_i g hg
   obtain rfl := geoOf_eq hg
   cases ht
   refine (evF2_eq (P := Tryz.prog) (n := fuelN) (x := (lsAt collectT_0F .no [1, 1, 1, 0, 1, 0])) (fn := Tryz.f170) (H := []) (c := Tryz.f170.body.getD .skip) (body_eq (by kernel_rfl)) collectT_good).symm.trans ?_
   refine Eq.trans ?_ (collectT_bind g _).symm
   kernel_rfl
  ·cases ht
 ·cases ht
def m_sretireT : Sm := fun args H => match args, H with
 | [.c .port, .agg gc, .c (.int .i64 p)], [] => (match geoOf gc with
   | some g => some (mkS (Bool) (sretireT g p) fun r => some (.c (.bool r), []))
   | _ => none)
 | _, _ => none
theorem s_m_sretireT (hl : SoundL I ka6) : SoundF I 270 m_sretireT := by
 refine sq hl 1 Tryz.func270 fun args H t ht => ?_
 unfold m_sretireT at ht
 split at ht
 ·rename_i gc p
  split at ht
  ·rename_i g hg
   obtain rfl := geoOf_eq hg
   cases ht
   refine Eq.trans ?_ (sretireT_bind g p _).symm
   kernel_rfl
  ·cases ht
 ·cases ht
def m_pnone0T : Sm := fun args H => match args, H with
 | [.c .port, .agg gc, .c .nils], [] => (match geoOf gc with
   | some g => some (mkS (Bool) (pnone0T g) fun r => some (.c (.bool r), []))
   | _ => none)
 | _, _ => none
theorem s_m_pnone0T (hl : SoundL I ka6) : SoundF I 200 m_pnone0T := by
 refine sq hl 5 Tryz.func200 fun args H t ht => ?_
 unfold m_pnone0T at ht
 split at ht
 ·rename_i gc
  split at ht
  ·rename_i g hg
   obtain rfl := geoOf_eq hg
   cases ht
   refine Eq.trans ?_ (pnone0T_bind g _).symm
   kernel_rfl
  ·cases ht
 ·cases ht
def m_pnone1T : Sm := fun args H => match args, H with
 | [.c .port, .agg gc, .c (.sl 0 0 1 1)], [some ⟨[.int .i64 k], 3, false, none⟩] => (match geoOf gc with
   | some g => some (mkS (Bool) (pnone1T g k) fun r => some (.c (.bool r), [some ⟨[.int .i64 k], 3, false, none⟩]))
   | _ => none)
 | _, _ => none
theorem s_m_pnone1T (hl : SoundL I ka6) : SoundF I 200 m_pnone1T := by
 refine sq hl 5 Tryz.func200 fun args H t ht => ?_
 unfold m_pnone1T at ht
 split at ht
 ·rename_i gc k
  split at ht
  ·rename_i g hg
   obtain rfl := geoOf_eq hg
   cases ht
   refine Eq.trans ?_ (pnone1T_bind g k _).symm
   kernel_rfl
  ·cases ht
 ·cases ht
def m_pnone2T : Sm := fun args H => match args, H with
 | [.c .port, .agg gc, .c (.sl 0 0 2 2)], [some ⟨[.int .i64 k, .int .i64 j], 3, false, none⟩] => (match geoOf gc with
   | some g => some (mkS (Bool) (pnone2T g k j) fun r => some (.c (.bool r), [some ⟨[.int .i64 k, .int .i64 j], 3, false, none⟩]))
   | _ => none)
 | _, _ => none
theorem s_m_pnone2T (hl : SoundL I ka6) : SoundF I 200 m_pnone2T := by
 refine sq hl 5 Tryz.func200 fun args H t ht => ?_
 unfold m_pnone2T at ht
 split at ht
 ·rename_i gc k j
  split at ht
  ·rename_i g hg
   obtain rfl := geoOf_eq hg
   cases ht
   refine Eq.trans ?_ (pnone2T_bind g k j _).symm
   kernel_rfl
  ·cases ht
 ·cases ht
def m_homeT : Sm := fun args H => match args, H with
 | [.c (.ptr 0 0), .c (.int .i64 k)], [some ⟨.port :: gc, 150, false, none⟩] => (match hdOf gc with
   | some (g, o) => some (mkS ((Unit × Int)) (homeT g o k) fun r => some (.tup [], [some ⟨.port :: (g.cells ++ [.int .u64 r.2]), 150, false, none⟩]))
   | _ => none)
 | _, _ => none
theorem s_m_homeT (hl : SoundL I ka6) : SoundF I 213 m_homeT := by
 refine sq hl 1 Tryz.func213 fun args H t ht => ?_
 unfold m_homeT at ht
 split at ht
 ·rename_i k gc
  split at ht
  ·rename_i g o hg
   obtain rfl := hdOf_eq hg
   cases ht
   refine Eq.trans ?_ (homeT_bind g o k _).symm
   kernel_rfl
  ·cases ht
 ·cases ht
def m_hbitsT : Sm := fun args H => match args, H with
 | [.c (.ptr 0 0), .c (.int .i64 c)], [some ⟨.port :: gc, 150, false, none⟩] => (match hdOf gc with
   | some (g, o) => some (mkS ((Fnd × Int)) (hbitsT g o c) fun r => some (.agg r.1.cells, [some ⟨.port :: (g.cells ++ [.int .u64 r.2]), 150, false, none⟩]))
   | _ => none)
 | _, _ => none
theorem hbitsT_good : Good Tryz.prog (lookK ka6) fuelN 1 (lsAt hbitsT_0F .no [1, 0, 1, 0]) (Tryz.f227.body.getD .skip) (resMask Tryz.f227.results.toList) := good_fn (body_eq (by kernel_rfl)) good_no hbitsT_0Ok
theorem s_m_hbitsT (hl : SoundL I ka6) : SoundF I 227 m_hbitsT := by
 refine sq hl fuelN Tryz.func227 fun args H t ht => ?_
 unfold m_hbitsT at ht
 split at ht
 ·rename_i c gc
  split at ht
  ·rename_i g o hg
   obtain rfl := hdOf_eq hg
   cases ht
   refine (evF2_eq (P := Tryz.prog) (n := fuelN) (x := (lsAt hbitsT_0F .no [1, 0, 1, 0])) (fn := Tryz.f227) (H := [some ⟨.port :: (g.cells ++ [.int .u64 o]), 150, false, none⟩]) (c := Tryz.f227.body.getD .skip) (body_eq (by kernel_rfl)) hbitsT_good).symm.trans ?_
   refine Eq.trans ?_ (hbitsT_bind g o c _).symm
   kernel_rfl
  ·cases ht
 ·cases ht
def m_freshT : Sm := fun args H => match args, H with
 | [.c (.ptr 0 0), .c (.int .i64 c)], [some ⟨.port :: gc, 150, false, none⟩] => (match hdOf gc with
   | some (g, o) => some (mkS ((Fnd × Int)) (freshT g o c) fun r => some (.agg r.1.cells, [some ⟨.port :: (g.cells ++ [.int .u64 r.2]), 150, false, none⟩]))
   | _ => none)
 | _, _ => none
theorem s_m_freshT (hl : SoundL I ka6) : SoundF I 228 m_freshT := by
 refine sq hl 1 Tryz.func228 fun args H t ht => ?_
 unfold m_freshT at ht
 split at ht
 ·rename_i c gc
  split at ht
  ·rename_i g o hg
   obtain rfl := hdOf_eq hg
   cases ht
   refine Eq.trans ?_ (freshT_bind g o c _).symm
   kernel_rfl
  ·cases ht
 ·cases ht
def m_wrong2T : Sm := fun args H => match args, H with
 | [.agg gc, .c (.int .i64 a), .c (.int .i64 s)], [] => (match geoOf gc with
   | some g => some (mkS (Int) (wrong2T g a s) fun r => some (.c (.int .i64 r), []))
   | _ => none)
 | _, _ => none
theorem s_m_wrong2T (hl : SoundL I ka6) : SoundF I 113 m_wrong2T := by
 refine sq hl 1 Tryz.func113 fun args H t ht => ?_
 unfold m_wrong2T at ht
 split at ht
 ·rename_i gc a s
  split at ht
  ·rename_i g hg
   obtain rfl := geoOf_eq hg
   cases ht
   refine Eq.trans ?_ (wrong2T_bind g a s _).symm
   kernel_rfl
  ·cases ht
 ·cases ht
def m_rtoldT : Sm := fun args H => match args, H with
 | [.c (.ptr 0 0), .agg r0c], [some ⟨.port :: gc, 179, false, none⟩] => (match rnOf gc with
   | some (g, x) => (match Res.of r0c with
   | some r0 => some (mkS ((Res × Rn)) (rtoldT g x r0) fun r => some (.agg r.1.cells, [some ⟨.port :: (g.cells ++ r.2.cells), 179, false, none⟩]))
   | _ => none)
   | _ => none)
 | _, _ => none
theorem s_m_rtoldT (hl : SoundL I ka6) : SoundF I 114 m_rtoldT := by
 refine sq hl 1 Tryz.func114 fun args H t ht => ?_
 unfold m_rtoldT at ht
 split at ht
 ·rename_i r0c gc
  split at ht
  ·rename_i g x hg
   obtain rfl := rnOf_eq hg
   split at ht
   ·rename_i r0 hr0
    obtain rfl := Res.of_eq hr0
    cases ht
    refine Eq.trans ?_ (rtoldT_bind g x r0 _).symm
    kernel_rfl
   ·cases ht
  ·cases ht
 ·cases ht
def m_rroomT : Sm := fun args H => match args, H with
 | [.c (.ptr 0 0)], [some ⟨.port :: gc, 179, false, none⟩] => (match rnOf gc with
   | some (g, x) => some (mkS ((Int × Rn)) (rroomT g x) fun r => some (.c (.int .i64 r.1), [some ⟨.port :: (g.cells ++ r.2.cells), 179, false, none⟩]))
   | _ => none)
 | _, _ => none
theorem s_m_rroomT (hl : SoundL I ka6) : SoundF I 117 m_rroomT := by
 refine sq hl 1 Tryz.func117 fun args H t ht => ?_
 unfold m_rroomT at ht
 split at ht
 ·rename_i gc
  split at ht
  ·rename_i g x hg
   obtain rfl := rnOf_eq hg
   cases ht
   refine Eq.trans ?_ (rroomT_bind g x _).symm
   kernel_rfl
  ·cases ht
 ·cases ht
def m_copiesT : Sm := fun args H => match args, H with
 | [.c (.ptr 0 0), .c (.int .i64 n)], [some ⟨.port :: gc, 179, false, none⟩] => (match rnOf gc with
   | some (g, x) => some (mkS ((Unit × Rn)) (copiesT g x n) fun r => some (.tup [], [some ⟨.port :: (g.cells ++ r.2.cells), 179, false, none⟩]))
   | _ => none)
 | _, _ => none
theorem copiesT_good : Good Tryz.prog (lookK ka6) fuelN 1 (lsAt copiesT_0F .no [1, 0]) (Tryz.f194.body.getD .skip) (resMask Tryz.f194.results.toList) := good_fn (body_eq (by kernel_rfl)) good_no copiesT_0Ok
theorem s_m_copiesT (hl : SoundL I ka6) : SoundF I 194 m_copiesT := by
 refine sq hl fuelN Tryz.func194 fun args H t ht => ?_
 unfold m_copiesT at ht
 split at ht
 ·rename_i n gc
  split at ht
  ·rename_i g x hg
   obtain rfl := rnOf_eq hg
   cases ht
   refine (evF2_eq (P := Tryz.prog) (n := fuelN) (x := (lsAt copiesT_0F .no [1, 0])) (fn := Tryz.f194) (H := [some ⟨.port :: (g.cells ++ x.cells), 179, false, none⟩]) (c := Tryz.f194.body.getD .skip) (body_eq (by kernel_rfl)) copiesT_good).symm.trans ?_
   refine Eq.trans ?_ (copiesT_bind g x n _).symm
   kernel_rfl
  ·cases ht
 ·cases ht
def m_cpower2T : Sm := fun args H => match args, H with
 | [.c (.int .i64 s)], [] => some (mkS (Bool) (cpower2T s) fun r => some (.c (.bool r), []))
 | _, _ => none
theorem s_m_cpower2T (hl : SoundL I ka6) : SoundF I 153 m_cpower2T := by
 refine sq hl 1 Tryz.func153 fun args H t ht => ?_
 unfold m_cpower2T at ht
 split at ht
 ·rename_i s
  cases ht
  refine Eq.trans ?_ (cpower2T_bind s _).symm
  kernel_rfl
 ·cases ht
def ka7 : List (Nat × Sm) := (170, m_collectT) :: (270, m_sretireT) :: (200, (orSm m_pnone0T (orSm m_pnone1T m_pnone2T))) :: (213, m_homeT) :: (227, m_hbitsT) :: (228, m_freshT) :: (113, m_wrong2T) :: (114, m_rtoldT) :: (117, m_rroomT) :: (194, m_copiesT) :: (153, m_cpower2T) :: ka6
theorem s_ka7 : SoundL I ka7 := (.cons (s_m_collectT s_ka6) (.cons (s_m_sretireT s_ka6) (.cons (SoundF.or (s_m_pnone0T s_ka6) (SoundF.or (s_m_pnone1T s_ka6) (s_m_pnone2T s_ka6))) (.cons (s_m_homeT s_ka6) (.cons (s_m_hbitsT s_ka6) (.cons (s_m_freshT s_ka6) (.cons (s_m_wrong2T s_ka6) (.cons (s_m_rtoldT s_ka6) (.cons (s_m_rroomT s_ka6) (.cons (s_m_copiesT s_ka6) (.cons (s_m_cpower2T s_ka6) s_ka6)))))))))))
end Go.Proofs.YtaegelbaghaooaaGreat.Lx
