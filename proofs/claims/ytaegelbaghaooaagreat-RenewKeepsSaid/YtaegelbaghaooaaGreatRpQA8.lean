/- Summaries: pool, central, tally. (trees printed by program, wip/auto.py) -/
import Derived.Test.YtaegelbaghaooaaGreatRpQA7
import Derived.WalkKit
set_option linter.unusedSimpArgs false
set_option linter.unusedVariables false
set_option linter.unusedSectionVars false
namespace Go.Proofs.YtaegelbaghaooaaGreat.Lx
open Go
set_option maxRecDepth 1000000

def pinitT_0B {β : Type} (g1 : Geo) (κ0 : Unit → T β) (i : Int) (k : Int → T β) : T β :=
 bif decide (i ≤ nodesF g1) then (bif i == nodesF g1 then (.op (.store (atF g1 17 (inF (IntKind.i64.wrap (i - 1)) 0 1)) (0)) fun _ =>
 k (IntKind.i64.wrap (i + 1))) else
 .op (.store (atF g1 17 (inF (IntKind.i64.wrap (i - 1)) 0 1)) (Ref.word { idx := IntKind.i64.wrap (i + 1), mark := false, ver := 0 })) fun _ =>
 k (IntKind.i64.wrap (i + 1))) else
 κ0 ()
def pinitT_0L {β : Type} (g1 : Geo) (a0 : Int) (κ0 : Unit → T β) : T β := loopB fuelN (pinitT_0B g1 κ0) (a0)
theorem pinitT_0L_bind {β γ : Type} (g1 : Geo) (a0 : Int) (κ0 : Unit → T β) (κ : β → T γ) : (pinitT_0L g1 a0 κ0).bind κ = pinitT_0L g1 a0 (fun u => (κ0 u).bind κ) := by
 unfold pinitT_0L
 refine loopB_bind κ (fun i k => ?_) _ _
 unfold pinitT_0B
 first | rfl | (simp only [bind_cond, bind_ret_, bind_op, bind_fail, T.bind_assoc])
def pinitT_0_p : Pat := ⟨slotsN 42 0 [(0, .c (.raw (.port))), (3, .c (.raw (.ptr 0 0))), (4, .c (.int .i64))], [some ⟨[.geo], 24, false, none⟩]⟩
def pinitT_0_e0 : Pat := ⟨slotsN 42 0 [(0, .c (.raw (.port))), (3, .c (.raw (.ptr 0 0)))], [some ⟨[.geo], 24, false, none⟩]⟩
def pinitT_0F : St → (Ex → St → T R) → Option (T R) := fun st K => match matchSt pinitT_0_p st with
 | some [.i a0, .g g1] => some (pinitT_0L g1 a0 (fun _ => K (.exit 0) (instSt pinitT_0_e0 [.g g1])))
 | _ => none
theorem pinitT_0Ok : ∀ st K t, pinitT_0F st K = some t → loopN fuelN (loopF2 Tryz.prog (lookK ka7) fuelN 0 .no (loopC [1, 1, 0, 1, 0] Tryz.f126) (loopV [1, 1, 0, 1, 0] Tryz.f126) K) st = t := by
 intro st K t h
 unfold pinitT_0F at h
 split at h
 ·rename_i a0 g1 hm
  cases h
  rw [matchSt_eq hm]
  exact cast (by kernel_rfl) (loop_eq (F := loopF2 Tryz.prog (lookK ka7) fuelN 0 .no (loopC [1, 1, 0, 1, 0] Tryz.f126) (loopV [1, 1, 0, 1, 0] Tryz.f126) K) (S := fun i => instSt pinitT_0_p [.i i, .g g1]) (B := pinitT_0B g1 (fun _ => K (.exit 0) (instSt pinitT_0_e0 [.g g1]))) (fun i k => by kernel_rfl) fuelN (a0))
 ·cases h
def pinitTK {β : Type} (g : Geo) (κ : Unit → T β) : T β :=
 (pnone0T g).bind fun r0 =>
 bif r0 then (κ ()) else
 pinitT_0L (g) (1) (fun y2_0 =>
 .op (.store (atF g 4 0) (1)) fun _ =>
 κ ())
def pinitT (g : Geo) : T Unit := pinitTK g .ret
theorem pinitT_bind {β : Type} (g : Geo) (κ : Unit → T β) : (pinitT g).bind κ = pinitTK g κ := by
 unfold pinitT pinitTK
 first | rfl | (simp only [bind_cond, bind_ret_, bind_op, bind_fail, T.bind_assoc, pinitT_0L_bind])
def acqT_0B {β : Type} (a0 : Int) (g1 : Geo) (κ0 : Unit → T β) (κ1 : Int → T β) (i : Unit) (k : Unit → T β) : T β :=
 .op (.load (atF g1 4 0)) fun x0 =>
 bif ofW IntKind.i64 x0 0 24 == 0 then (κ0 ()) else
 .op (.load (atF g1 17   (inF (IntKind.i64.wrap (ofW IntKind.i64 x0 0 24 - 1)) 0 1))) fun x2 =>
 .op (.cas (atF g1 4 0) (x0) (Ref.word   { idx := ofW IntKind.i64 x2 0 24, mark := false,     ver := IntKind.u32.wrap (ofW IntKind.u32 x0 32 32 + 1) })) fun b3 =>
 bif b3 then (κ1 (ofW IntKind.i64 x0 0 24)) else
 k ()
def acqT_0L {β : Type} (a0 : Int) (g1 : Geo)  (κ0 : Unit → T β) (κ1 : Int → T β) : T β := loopB fuelN (acqT_0B a0 g1 κ0 κ1) ()
theorem acqT_0L_bind {β γ : Type} (a0 : Int) (g1 : Geo)  (κ0 : Unit → T β) (κ1 : Int → T β) (κ : β → T γ) : (acqT_0L a0 g1  κ0 κ1).bind κ = acqT_0L a0 g1  (fun u => (κ0 u).bind κ) (fun ae0 => (κ1 ae0).bind κ) := by
 unfold acqT_0L
 refine loopB_bind κ (fun i k => ?_) _ _
 unfold acqT_0B
 first | rfl | (simp only [bind_cond, bind_ret_, bind_op, bind_fail, T.bind_assoc])
def acqT_0_p : Pat := ⟨slotsN 52 0 [(0, .c (.raw (.port))), (3, .c (.raw (.ptr 0 0))), (4, .c (.int .i64))], [some ⟨[.geo], 24, false, none⟩]⟩
def acqT_0_e0 : Pat := ⟨slotsN 52 0 [(4, .c (.int .i64))], []⟩
def acqT_0F : St → (Ex → St → T R) → Option (T R) := fun st K => match matchSt acqT_0_p st with
 | some [.i a0, .g g1] => some (acqT_0L a0 g1  (fun _ => K (.ret) (instSt acqT_0_e0 [.i 0])) (fun ae0 => K (.ret) (instSt acqT_0_e0 [.i ae0])))
 | _ => none
theorem acqT_0Ok : ∀ st K t, acqT_0F st K = some t → loopN fuelN (loopF2 Tryz.prog (lookK ka7) fuelN 0 .no (loopC [1, 1, 0] Tryz.f267) (loopV [1, 1, 0] Tryz.f267) K) st = t := by
 intro st K t h
 unfold acqT_0F at h
 split at h
 ·rename_i a0 g1 hm
  cases h
  rw [matchSt_eq hm]
  exact cast (by kernel_rfl) (loop_eq (F := loopF2 Tryz.prog (lookK ka7) fuelN 0 .no (loopC [1, 1, 0] Tryz.f267) (loopV [1, 1, 0] Tryz.f267) K) (S := fun i => instSt acqT_0_p [.i a0, .g g1]) (B := acqT_0B a0 g1 (fun _ => K (.ret) (instSt acqT_0_e0 [.i 0])) (fun ae0 => K (.ret) (instSt acqT_0_e0 [.i ae0]))) (fun i k => by kernel_rfl) fuelN ())
 ·cases h
def acqTK {β : Type} (g : Geo) (κ : Int → T β) : T β :=
 (pnone0T g).bind fun r0 =>
 bif r0 then (κ (0)) else
 acqT_0L (0) (g) (fun y2_0 =>
 κ (0)) (fun y2_0 =>
 κ (y2_0))
def acqT (g : Geo) : T Int := acqTK g .ret
theorem acqT_bind {β : Type} (g : Geo) (κ : Int → T β) : (acqT g).bind κ = acqTK g κ := by
 unfold acqT acqTK
 first | rfl | (simp only [bind_cond, bind_ret_, bind_op, bind_fail, T.bind_assoc, acqT_0L_bind])
def protT_0B {β : Type} (a0 a1 : Int) (g3 : Geo) (a4 : Int) (b5 : Bool) (a6 : Int) (κ0 : Int → Bool → Int → T β) (i : Int) (k : Int → T β) : T β :=
 .op (.self ) fun x0 =>
 .op (.store (atF g3 14 (inF x0 a0 2)) (IntKind.u64.wrap (ofW IntKind.i64 i 0 24))) fun _ =>
 .op (.load (a1)) fun x2 =>
 bif x2 == i then (κ0 (ofW IntKind.i64 i 0 24) (ofW IntKind.i64 i 24 1 == 1) (ofW IntKind.u32 i 32 32)) else
 k (x2)
def protT_0L {β : Type} (a0 a1 : Int) (g3 : Geo) (a4 : Int) (b5 : Bool) (a6 a2 : Int) (κ0 : Int → Bool → Int → T β) : T β := loopB fuelN (protT_0B a0 a1 g3 a4 b5 a6 κ0) (a2)
theorem protT_0L_bind {β γ : Type} (a0 a1 : Int) (g3 : Geo) (a4 : Int) (b5 : Bool) (a6 a2 : Int) (κ0 : Int → Bool → Int → T β) (κ : β → T γ) : (protT_0L a0 a1 g3 a4 b5 a6 a2 κ0).bind κ = protT_0L a0 a1 g3 a4 b5 a6 a2 (fun ae0 be1 ae2 => (κ0 ae0 be1 ae2).bind κ) := by
 unfold protT_0L
 refine loopB_bind κ (fun i k => ?_) _ _
 unfold protT_0B
 first | rfl | (simp only [bind_cond, bind_ret_, bind_op, bind_fail, T.bind_assoc])
def protT_0_p : Pat := ⟨slotsN 62 0 [(0, .c (.raw (.port))), (2, .c (.int .i64)), (3, .c (.int .i64)), (5, .c (.raw (.ptr 0 0))), (8, .c (.raw (.ptr 1 0))), (9, .c (.int .u64))], [some ⟨[.geo], 24, false, none⟩, some ⟨[.int .i64, .bool, .int .u32], 162, false, none⟩]⟩
def protT_0_e0 : Pat := ⟨slotsN 62 0 [(8, .c (.raw (.ptr 1 0)))], [none, some ⟨[.int .i64, .bool, .int .u32], 162, false, none⟩]⟩
def protT_0F : St → (Ex → St → T R) → Option (T R) := fun st K => match matchSt protT_0_p st with
 | some [.i a0, .i a1, .i a2, .g g3, .i a4, .b b5, .i a6] => some (protT_0L a0 a1 g3 a4 b5 a6 a2 (fun ae0 be1 ae2 => K (.ret) (instSt protT_0_e0 [.i ae0, .b be1, .i ae2])))
 | _ => none
theorem protT_0Ok : ∀ st K t, protT_0F st K = some t → loopN fuelN (loopF2 Tryz.prog (lookK ka7) fuelN 0 .no (loopC [1, 1, 1, 0] Tryz.f285) (loopV [1, 1, 1, 0] Tryz.f285) K) st = t := by
 intro st K t h
 unfold protT_0F at h
 split at h
 ·rename_i a0 a1 a2 g3 a4 b5 a6 hm
  cases h
  rw [matchSt_eq hm]
  exact cast (by kernel_rfl) (loop_eq (F := loopF2 Tryz.prog (lookK ka7) fuelN 0 .no (loopC [1, 1, 1, 0] Tryz.f285) (loopV [1, 1, 1, 0] Tryz.f285) K) (S := fun i => instSt protT_0_p [.i a0, .i a1, .i i, .g g3, .i a4, .b b5, .i a6]) (B := protT_0B a0 a1 g3 a4 b5 a6 (fun ae0 be1 ae2 => K (.ret) (instSt protT_0_e0 [.i ae0, .b be1, .i ae2]))) (fun i k => by kernel_rfl) fuelN (a2))
 ·cases h
def protTK {β : Type} (g : Geo) (s a : Int) (κ : Ref → T β) : T β :=
 .op (.self ) fun x0 =>
 (pnone1T g (atF g 14 (inF x0 s 2))).bind fun r1 =>
 bif r1 then (κ ⟨(0), (false), (0)⟩) else
 bif decide (a < 0) then (κ ⟨(0), (false), (0)⟩) else
 bif decide (a ≥ g.b19) then (κ ⟨(0), (false), (0)⟩) else
 .op (.load (a)) fun x5 =>
 protT_0L (s) (a) (g) (0) (false) (0) (x5) (fun y6_0 y6_1 y6_2 =>
 κ ⟨(y6_0), (y6_1), (y6_2)⟩)
def protT (g : Geo) (s a : Int) : T Ref := protTK g s a .ret
theorem protT_bind {β : Type} (g : Geo) (s a : Int) (κ : Ref → T β) : (protT g s a).bind κ = protTK g s a κ := by
 unfold protT protTK
 first | rfl | (simp only [bind_cond, bind_ret_, bind_op, bind_fail, T.bind_assoc, protT_0L_bind])
def clearTK {β : Type} (g : Geo) (s : Int) (κ : Unit → T β) : T β :=
 .op (.self ) fun x0 =>
 (pnone1T g (atF g 14 (inF x0 s 2))).bind fun r1 =>
 bif !r1 then (.op (.self ) fun x3 =>
 .op (.store (atF g 14 (inF x3 s 2)) (0)) fun _ =>
 κ ()) else
 κ ()
def clearT (g : Geo) (s : Int) : T Unit := clearTK g s .ret
theorem clearT_bind {β : Type} (g : Geo) (s : Int) (κ : Unit → T β) : (clearT g s).bind κ = clearTK g s κ := by
 unfold clearT clearTK
 first | rfl | (simp only [bind_cond, bind_ret_, bind_op, bind_fail, T.bind_assoc])
def remoteT_0B {β : Type} (a0 a1 : Int) (g3 : Geo) (a5 : Int) (b6 : Bool) (a7 : Int) (κ0 : Int → Int → T β) (κ1 : Int → T β) (i : Int × Int) (k : Int × Int → T β) : T β :=
 bif decide (i.1 < a1) then ((hofT g3 i.2 i.1 a0).bind fun r1 =>
 bif !r1.1 then (k (IntKind.i64.wrap (i.1 + 1), r1.2)) else
 (isT g3 i.1 0).bind fun r3 =>
 bif !r3 then (k (IntKind.i64.wrap (i.1 + 1), r1.2)) else
 .op (.load (atF g3 9 i.1)) fun x5 =>
 drainT_0L (i.1) (g3) (i.1) (x5) (fun y6_0 =>
 bif y6_0 != 0 then (.op (.load (atF g3 10 (IntKind.i64.wrap (IntKind.i64.wrap y6_0 - 1)))) fun x8 =>
 bif x8 !=   (0 :     POp.Ans       (POp.load         (atF           {             pages :=               g3.pages,             threads :=               g3.threads,             b0 :=               g3.b0,             b1 :=               g3.b1,             b2 :=               g3.b2,             b3 :=               g3.b3,             b4 :=               g3.b4,             b5 :=               g3.b5,             b6 :=               g3.b6,             b7 :=               g3.b7,             b8 :=               g3.b8,             b9 :=               g3.b9,             b10 :=               g3.b10,             b11 :=               g3.b11,             b12 :=               g3.b12,             b13 :=               g3.b13,             b14 :=               g3.b14,             b15 :=               g3.b15,             b16 :=               g3.b16,             b17 :=               g3.b17,             b18 :=               g3.b18,             b19 :=               g3.b19 }           10 (IntKind.i64.wrap (IntKind.i64.wrap y6_0 - 1))))) then (.op (.load (atF g3 10 (IntKind.i64.wrap (IntKind.i64.wrap x8 - 1)))) fun x10 =>
 bif x10 !=   (0 :     POp.Ans       (POp.load         (atF           {             pages :=               g3.pages,             threads :=               g3.threads,             b0 :=               g3.b0,             b1 :=               g3.b1,             b2 :=               g3.b2,             b3 :=               g3.b3,             b4 :=               g3.b4,             b5 :=               g3.b5,             b6 :=               g3.b6,             b7 :=               g3.b7,             b8 :=               g3.b8,             b9 :=               g3.b9,             b10 :=               g3.b10,             b11 :=               g3.b11,             b12 :=               g3.b12,             b13 :=               g3.b13,             b14 :=               g3.b14,             b15 :=               g3.b15,             b16 :=               g3.b16,             b17 :=               g3.b17,             b18 :=               g3.b18,             b19 :=               g3.b19 }           10 (IntKind.i64.wrap (IntKind.i64.wrap x8 - 1))))) then (.op (.load (atF g3 10 (IntKind.i64.wrap (IntKind.i64.wrap x10 - 1)))) fun x12 =>
 bif x12 !=   (0 :     POp.Ans       (POp.load         (atF           {             pages :=               g3.pages,             threads :=               g3.threads,             b0 :=               g3.b0,             b1 :=               g3.b1,             b2 :=               g3.b2,             b3 :=               g3.b3,             b4 :=               g3.b4,             b5 :=               g3.b5,             b6 :=               g3.b6,             b7 :=               g3.b7,             b8 :=               g3.b8,             b9 :=               g3.b9,             b10 :=               g3.b10,             b11 :=               g3.b11,             b12 :=               g3.b12,             b13 :=               g3.b13,             b14 :=               g3.b14,             b15 :=               g3.b15,             b16 :=               g3.b16,             b17 :=               g3.b17,             b18 :=               g3.b18,             b19 :=               g3.b19 }           10 (IntKind.i64.wrap (IntKind.i64.wrap x10 - 1))))) then (.op (.load (atF g3 10 (IntKind.i64.wrap (IntKind.i64.wrap x12 - 1)))) fun x14 =>
 bif x14 !=   (0 :     POp.Ans       (POp.load         (atF           {             pages :=               g3.pages,             threads :=               g3.threads,             b0 :=               g3.b0,             b1 :=               g3.b1,             b2 :=               g3.b2,             b3 :=               g3.b3,             b4 :=               g3.b4,             b5 :=               g3.b5,             b6 :=               g3.b6,             b7 :=               g3.b7,             b8 :=               g3.b8,             b9 :=               g3.b9,             b10 :=               g3.b10,             b11 :=               g3.b11,             b12 :=               g3.b12,             b13 :=               g3.b13,             b14 :=               g3.b14,             b15 :=               g3.b15,             b16 :=               g3.b16,             b17 :=               g3.b17,             b18 :=               g3.b18,             b19 :=               g3.b19 }           10 (IntKind.i64.wrap (IntKind.i64.wrap x12 - 1))))) then (.op (.load (atF g3 10 (IntKind.i64.wrap (IntKind.i64.wrap x14 - 1)))) fun x16 =>
 bif x16 !=   (0 :     POp.Ans       (POp.load         (atF           {             pages :=               g3.pages,             threads :=               g3.threads,             b0 :=               g3.b0,             b1 :=               g3.b1,             b2 :=               g3.b2,             b3 :=               g3.b3,             b4 :=               g3.b4,             b5 :=               g3.b5,             b6 :=               g3.b6,             b7 :=               g3.b7,             b8 :=               g3.b8,             b9 :=               g3.b9,             b10 :=               g3.b10,             b11 :=               g3.b11,             b12 :=               g3.b12,             b13 :=               g3.b13,             b14 :=               g3.b14,             b15 :=               g3.b15,             b16 :=               g3.b16,             b17 :=               g3.b17,             b18 :=               g3.b18,             b19 :=               g3.b19 }           10 (IntKind.i64.wrap (IntKind.i64.wrap x14 - 1))))) then (.op (.load (atF g3 10 (IntKind.i64.wrap (IntKind.i64.wrap x16 - 1)))) fun x18 =>
 bif x18 !=   (0 :     POp.Ans       (POp.load         (atF           {             pages :=               g3.pages,             threads :=               g3.threads,             b0 :=               g3.b0,             b1 :=               g3.b1,             b2 :=               g3.b2,             b3 :=               g3.b3,             b4 :=               g3.b4,             b5 :=               g3.b5,             b6 :=               g3.b6,             b7 :=               g3.b7,             b8 :=               g3.b8,             b9 :=               g3.b9,             b10 :=               g3.b10,             b11 :=               g3.b11,             b12 :=               g3.b12,             b13 :=               g3.b13,             b14 :=               g3.b14,             b15 :=               g3.b15,             b16 :=               g3.b16,             b17 :=               g3.b17,             b18 :=               g3.b18,             b19 :=               g3.b19 }           10 (IntKind.i64.wrap (IntKind.i64.wrap x16 - 1))))) then (.op (.load (atF g3 10 (IntKind.i64.wrap (IntKind.i64.wrap x18 - 1)))) fun x20 =>
 bif x20 !=   (0 :     POp.Ans       (POp.load         (atF           {             pages :=               g3.pages,             threads :=               g3.threads,             b0 :=               g3.b0,             b1 :=               g3.b1,             b2 :=               g3.b2,             b3 :=               g3.b3,             b4 :=               g3.b4,             b5 :=               g3.b5,             b6 :=               g3.b6,             b7 :=               g3.b7,             b8 :=               g3.b8,             b9 :=               g3.b9,             b10 :=               g3.b10,             b11 :=               g3.b11,             b12 :=               g3.b12,             b13 :=               g3.b13,             b14 :=               g3.b14,             b15 :=               g3.b15,             b16 :=               g3.b16,             b17 :=               g3.b17,             b18 :=               g3.b18,             b19 :=               g3.b19 }           10 (IntKind.i64.wrap (IntKind.i64.wrap x18 - 1))))) then (.op (.load (atF g3 10 (IntKind.i64.wrap (IntKind.i64.wrap x20 - 1)))) fun x22 =>
 bif x22 !=   (0 :     POp.Ans       (POp.load         (atF           {             pages :=               g3.pages,             threads :=               g3.threads,             b0 :=               g3.b0,             b1 :=               g3.b1,             b2 :=               g3.b2,             b3 :=               g3.b3,             b4 :=               g3.b4,             b5 :=               g3.b5,             b6 :=               g3.b6,             b7 :=               g3.b7,             b8 :=               g3.b8,             b9 :=               g3.b9,             b10 :=               g3.b10,             b11 :=               g3.b11,             b12 :=               g3.b12,             b13 :=               g3.b13,             b14 :=               g3.b14,             b15 :=               g3.b15,             b16 :=               g3.b16,             b17 :=               g3.b17,             b18 :=               g3.b18,             b19 :=               g3.b19 }           10 (IntKind.i64.wrap (IntKind.i64.wrap x20 - 1))))) then ((findT g3 (IntKind.i64.wrap (IntKind.i64.wrap y6_0 - 1))).bind fun r24 =>
 bif r24.cls != a0 then ((homeT g3 r1.2 (IntKind.i64.wrap (IntKind.i64.wrap y6_0 - 1))).bind fun r26 =>
 (homeT g3 r26.2 (IntKind.i64.wrap (IntKind.i64.wrap x8 - 1))).bind fun r27 =>
 (homeT g3 r27.2 (IntKind.i64.wrap (IntKind.i64.wrap x10 - 1))).bind fun r28 =>
 (homeT g3 r28.2 (IntKind.i64.wrap (IntKind.i64.wrap x12 - 1))).bind fun r29 =>
 (homeT g3 r29.2 (IntKind.i64.wrap (IntKind.i64.wrap x14 - 1))).bind fun r30 =>
 (homeT g3 r30.2 (IntKind.i64.wrap (IntKind.i64.wrap x16 - 1))).bind fun r31 =>
 (homeT g3 r31.2 (IntKind.i64.wrap (IntKind.i64.wrap x18 - 1))).bind fun r32 =>
 (homeT g3 r32.2 (IntKind.i64.wrap (IntKind.i64.wrap x20 - 1))).bind fun r33 =>
 k (IntKind.i64.wrap (i.1 + 1), r33.2)) else
 (homeT g3 r1.2 (IntKind.i64.wrap (IntKind.i64.wrap x8 - 1))).bind fun r26 =>
 (homeT g3 r26.2 (IntKind.i64.wrap (IntKind.i64.wrap x10 - 1))).bind fun r27 =>
 (homeT g3 r27.2 (IntKind.i64.wrap (IntKind.i64.wrap x12 - 1))).bind fun r28 =>
 (homeT g3 r28.2 (IntKind.i64.wrap (IntKind.i64.wrap x14 - 1))).bind fun r29 =>
 (homeT g3 r29.2 (IntKind.i64.wrap (IntKind.i64.wrap x16 - 1))).bind fun r30 =>
 (homeT g3 r30.2 (IntKind.i64.wrap (IntKind.i64.wrap x18 - 1))).bind fun r31 =>
 (homeT g3 r31.2 (IntKind.i64.wrap (IntKind.i64.wrap x20 - 1))).bind fun r32 =>
 κ0 (r32.2) (IntKind.i64.wrap (IntKind.i64.wrap y6_0 - 1))) else
 (findT g3 (IntKind.i64.wrap (IntKind.i64.wrap y6_0 - 1))).bind fun r24 =>
 bif r24.cls != a0 then ((homeT g3 r1.2 (IntKind.i64.wrap (IntKind.i64.wrap y6_0 - 1))).bind fun r26 =>
 (homeT g3 r26.2 (IntKind.i64.wrap (IntKind.i64.wrap x8 - 1))).bind fun r27 =>
 (homeT g3 r27.2 (IntKind.i64.wrap (IntKind.i64.wrap x10 - 1))).bind fun r28 =>
 (homeT g3 r28.2 (IntKind.i64.wrap (IntKind.i64.wrap x12 - 1))).bind fun r29 =>
 (homeT g3 r29.2 (IntKind.i64.wrap (IntKind.i64.wrap x14 - 1))).bind fun r30 =>
 (homeT g3 r30.2 (IntKind.i64.wrap (IntKind.i64.wrap x16 - 1))).bind fun r31 =>
 (homeT g3 r31.2 (IntKind.i64.wrap (IntKind.i64.wrap x18 - 1))).bind fun r32 =>
 (homeT g3 r32.2 (IntKind.i64.wrap (IntKind.i64.wrap x20 - 1))).bind fun r33 =>
 k (IntKind.i64.wrap (i.1 + 1), r33.2)) else
 (homeT g3 r1.2 (IntKind.i64.wrap (IntKind.i64.wrap x8 - 1))).bind fun r26 =>
 (homeT g3 r26.2 (IntKind.i64.wrap (IntKind.i64.wrap x10 - 1))).bind fun r27 =>
 (homeT g3 r27.2 (IntKind.i64.wrap (IntKind.i64.wrap x12 - 1))).bind fun r28 =>
 (homeT g3 r28.2 (IntKind.i64.wrap (IntKind.i64.wrap x14 - 1))).bind fun r29 =>
 (homeT g3 r29.2 (IntKind.i64.wrap (IntKind.i64.wrap x16 - 1))).bind fun r30 =>
 (homeT g3 r30.2 (IntKind.i64.wrap (IntKind.i64.wrap x18 - 1))).bind fun r31 =>
 (homeT g3 r31.2 (IntKind.i64.wrap (IntKind.i64.wrap x20 - 1))).bind fun r32 =>
 κ0 (r32.2) (IntKind.i64.wrap (IntKind.i64.wrap y6_0 - 1))) else
 (findT g3 (IntKind.i64.wrap (IntKind.i64.wrap y6_0 - 1))).bind fun r22 =>
 bif r22.cls != a0 then ((homeT g3 r1.2 (IntKind.i64.wrap (IntKind.i64.wrap y6_0 - 1))).bind fun r24 =>
 (homeT g3 r24.2 (IntKind.i64.wrap (IntKind.i64.wrap x8 - 1))).bind fun r25 =>
 (homeT g3 r25.2 (IntKind.i64.wrap (IntKind.i64.wrap x10 - 1))).bind fun r26 =>
 (homeT g3 r26.2 (IntKind.i64.wrap (IntKind.i64.wrap x12 - 1))).bind fun r27 =>
 (homeT g3 r27.2 (IntKind.i64.wrap (IntKind.i64.wrap x14 - 1))).bind fun r28 =>
 (homeT g3 r28.2 (IntKind.i64.wrap (IntKind.i64.wrap x16 - 1))).bind fun r29 =>
 (homeT g3 r29.2 (IntKind.i64.wrap (IntKind.i64.wrap x18 - 1))).bind fun r30 =>
 k (IntKind.i64.wrap (i.1 + 1), r30.2)) else
 (homeT g3 r1.2 (IntKind.i64.wrap (IntKind.i64.wrap x8 - 1))).bind fun r24 =>
 (homeT g3 r24.2 (IntKind.i64.wrap (IntKind.i64.wrap x10 - 1))).bind fun r25 =>
 (homeT g3 r25.2 (IntKind.i64.wrap (IntKind.i64.wrap x12 - 1))).bind fun r26 =>
 (homeT g3 r26.2 (IntKind.i64.wrap (IntKind.i64.wrap x14 - 1))).bind fun r27 =>
 (homeT g3 r27.2 (IntKind.i64.wrap (IntKind.i64.wrap x16 - 1))).bind fun r28 =>
 (homeT g3 r28.2 (IntKind.i64.wrap (IntKind.i64.wrap x18 - 1))).bind fun r29 =>
 κ0 (r29.2) (IntKind.i64.wrap (IntKind.i64.wrap y6_0 - 1))) else
 (findT g3 (IntKind.i64.wrap (IntKind.i64.wrap y6_0 - 1))).bind fun r20 =>
 bif r20.cls != a0 then ((homeT g3 r1.2 (IntKind.i64.wrap (IntKind.i64.wrap y6_0 - 1))).bind fun r22 =>
 (homeT g3 r22.2 (IntKind.i64.wrap (IntKind.i64.wrap x8 - 1))).bind fun r23 =>
 (homeT g3 r23.2 (IntKind.i64.wrap (IntKind.i64.wrap x10 - 1))).bind fun r24 =>
 (homeT g3 r24.2 (IntKind.i64.wrap (IntKind.i64.wrap x12 - 1))).bind fun r25 =>
 (homeT g3 r25.2 (IntKind.i64.wrap (IntKind.i64.wrap x14 - 1))).bind fun r26 =>
 (homeT g3 r26.2 (IntKind.i64.wrap (IntKind.i64.wrap x16 - 1))).bind fun r27 =>
 k (IntKind.i64.wrap (i.1 + 1), r27.2)) else
 (homeT g3 r1.2 (IntKind.i64.wrap (IntKind.i64.wrap x8 - 1))).bind fun r22 =>
 (homeT g3 r22.2 (IntKind.i64.wrap (IntKind.i64.wrap x10 - 1))).bind fun r23 =>
 (homeT g3 r23.2 (IntKind.i64.wrap (IntKind.i64.wrap x12 - 1))).bind fun r24 =>
 (homeT g3 r24.2 (IntKind.i64.wrap (IntKind.i64.wrap x14 - 1))).bind fun r25 =>
 (homeT g3 r25.2 (IntKind.i64.wrap (IntKind.i64.wrap x16 - 1))).bind fun r26 =>
 κ0 (r26.2) (IntKind.i64.wrap (IntKind.i64.wrap y6_0 - 1))) else
 (findT g3 (IntKind.i64.wrap (IntKind.i64.wrap y6_0 - 1))).bind fun r18 =>
 bif r18.cls != a0 then ((homeT g3 r1.2 (IntKind.i64.wrap (IntKind.i64.wrap y6_0 - 1))).bind fun r20 =>
 (homeT g3 r20.2 (IntKind.i64.wrap (IntKind.i64.wrap x8 - 1))).bind fun r21 =>
 (homeT g3 r21.2 (IntKind.i64.wrap (IntKind.i64.wrap x10 - 1))).bind fun r22 =>
 (homeT g3 r22.2 (IntKind.i64.wrap (IntKind.i64.wrap x12 - 1))).bind fun r23 =>
 (homeT g3 r23.2 (IntKind.i64.wrap (IntKind.i64.wrap x14 - 1))).bind fun r24 =>
 k (IntKind.i64.wrap (i.1 + 1), r24.2)) else
 (homeT g3 r1.2 (IntKind.i64.wrap (IntKind.i64.wrap x8 - 1))).bind fun r20 =>
 (homeT g3 r20.2 (IntKind.i64.wrap (IntKind.i64.wrap x10 - 1))).bind fun r21 =>
 (homeT g3 r21.2 (IntKind.i64.wrap (IntKind.i64.wrap x12 - 1))).bind fun r22 =>
 (homeT g3 r22.2 (IntKind.i64.wrap (IntKind.i64.wrap x14 - 1))).bind fun r23 =>
 κ0 (r23.2) (IntKind.i64.wrap (IntKind.i64.wrap y6_0 - 1))) else
 (findT g3 (IntKind.i64.wrap (IntKind.i64.wrap y6_0 - 1))).bind fun r16 =>
 bif r16.cls != a0 then ((homeT g3 r1.2 (IntKind.i64.wrap (IntKind.i64.wrap y6_0 - 1))).bind fun r18 =>
 (homeT g3 r18.2 (IntKind.i64.wrap (IntKind.i64.wrap x8 - 1))).bind fun r19 =>
 (homeT g3 r19.2 (IntKind.i64.wrap (IntKind.i64.wrap x10 - 1))).bind fun r20 =>
 (homeT g3 r20.2 (IntKind.i64.wrap (IntKind.i64.wrap x12 - 1))).bind fun r21 =>
 k (IntKind.i64.wrap (i.1 + 1), r21.2)) else
 (homeT g3 r1.2 (IntKind.i64.wrap (IntKind.i64.wrap x8 - 1))).bind fun r18 =>
 (homeT g3 r18.2 (IntKind.i64.wrap (IntKind.i64.wrap x10 - 1))).bind fun r19 =>
 (homeT g3 r19.2 (IntKind.i64.wrap (IntKind.i64.wrap x12 - 1))).bind fun r20 =>
 κ0 (r20.2) (IntKind.i64.wrap (IntKind.i64.wrap y6_0 - 1))) else
 (findT g3 (IntKind.i64.wrap (IntKind.i64.wrap y6_0 - 1))).bind fun r14 =>
 bif r14.cls != a0 then ((homeT g3 r1.2 (IntKind.i64.wrap (IntKind.i64.wrap y6_0 - 1))).bind fun r16 =>
 (homeT g3 r16.2 (IntKind.i64.wrap (IntKind.i64.wrap x8 - 1))).bind fun r17 =>
 (homeT g3 r17.2 (IntKind.i64.wrap (IntKind.i64.wrap x10 - 1))).bind fun r18 =>
 k (IntKind.i64.wrap (i.1 + 1), r18.2)) else
 (homeT g3 r1.2 (IntKind.i64.wrap (IntKind.i64.wrap x8 - 1))).bind fun r16 =>
 (homeT g3 r16.2 (IntKind.i64.wrap (IntKind.i64.wrap x10 - 1))).bind fun r17 =>
 κ0 (r17.2) (IntKind.i64.wrap (IntKind.i64.wrap y6_0 - 1))) else
 (findT g3 (IntKind.i64.wrap (IntKind.i64.wrap y6_0 - 1))).bind fun r12 =>
 bif r12.cls != a0 then ((homeT g3 r1.2 (IntKind.i64.wrap (IntKind.i64.wrap y6_0 - 1))).bind fun r14 =>
 (homeT g3 r14.2 (IntKind.i64.wrap (IntKind.i64.wrap x8 - 1))).bind fun r15 =>
 k (IntKind.i64.wrap (i.1 + 1), r15.2)) else
 (homeT g3 r1.2 (IntKind.i64.wrap (IntKind.i64.wrap x8 - 1))).bind fun r14 =>
 κ0 (r14.2) (IntKind.i64.wrap (IntKind.i64.wrap y6_0 - 1))) else
 (findT g3 (IntKind.i64.wrap (IntKind.i64.wrap y6_0 - 1))).bind fun r10 =>
 bif r10.cls != a0 then ((homeT g3 r1.2 (IntKind.i64.wrap (IntKind.i64.wrap y6_0 - 1))).bind fun r12 =>
 k (IntKind.i64.wrap (i.1 + 1), r12.2)) else
 κ0 (r1.2) (IntKind.i64.wrap (IntKind.i64.wrap y6_0 - 1))) else
 k (IntKind.i64.wrap (i.1 + 1), r1.2))) else
 κ1 (i.2)
def remoteT_0L {β : Type} (a0 a1 : Int) (g3 : Geo) (a5 : Int) (b6 : Bool) (a7 a2 a4 : Int) (κ0 : Int → Int → T β) (κ1 : Int → T β) : T β := loopB fuelN (remoteT_0B a0 a1 g3 a5 b6 a7 κ0 κ1) (a2, a4)
theorem remoteT_0L_bind {β γ : Type} (a0 a1 : Int) (g3 : Geo) (a5 : Int) (b6 : Bool) (a7 a2 a4 : Int) (κ0 : Int → Int → T β) (κ1 : Int → T β) (κ : β → T γ) : (remoteT_0L a0 a1 g3 a5 b6 a7 a2 a4 κ0 κ1).bind κ = remoteT_0L a0 a1 g3 a5 b6 a7 a2 a4 (fun ae1 ae2 => (κ0 ae1 ae2).bind κ) (fun ae1 => (κ1 ae1).bind κ) := by
 unfold remoteT_0L
 refine loopB_bind κ (fun i k => ?_) _ _
 unfold remoteT_0B
 first | rfl | (simp only [bind_cond, bind_ret_, bind_op, bind_fail, T.bind_assoc, drainT_0L_bind])
def remoteT_0_p : Pat := ⟨slotsN 71 0 [(0, .c (.raw (.ptr 0 0))), (1, .c (.int .i64)), (4, .c (.raw (.ptr 1 0))), (14, .c (.int .i64)), (15, .c (.int .i64))], [some ⟨[.raw (.port), .geo, .int .u64], 150, false, none⟩, some ⟨[.int .i64, .bool, .int .i64], 221, false, none⟩]⟩
def remoteT_0_e0 : Pat := ⟨slotsN 71 0 [(4, .c (.raw (.ptr 1 0)))], [some ⟨[.raw (.port), .geo, .int .u64], 150, false, none⟩, some ⟨[.int .i64, .bool, .int .i64], 221, false, none⟩]⟩
def remoteT_0F : St → (Ex → St → T R) → Option (T R) := fun st K => match matchSt remoteT_0_p st with
 | some [.i a0, .i a1, .i a2, .g g3, .i a4, .i a5, .b b6, .i a7] => some (remoteT_0L a0 a1 g3 a5 b6 a7 a2 a4 (fun ae1 ae2 => K (.ret) (instSt remoteT_0_e0 [.g g3, .i ae1, .i ae2, .b true, .i 0])) (fun ae1 => K (.exit 0) (instSt remoteT_0_e0 [.g g3, .i ae1, .i a5, .b b6, .i a7])))
 | _ => none
theorem remoteT_0Ok : ∀ st K t, remoteT_0F st K = some t → loopN fuelN (loopF2 Tryz.prog (lookK ka7) fuelN 1 .no (loopC [1, 0, 1, 0] Tryz.f226) (loopV [1, 0, 1, 0] Tryz.f226) K) st = t := by
 intro st K t h
 unfold remoteT_0F at h
 split at h
 ·rename_i a0 a1 a2 g3 a4 a5 b6 a7 hm
  cases h
  rw [matchSt_eq hm]
  exact cast (by kernel_rfl) (loop_eq (F := loopF2 Tryz.prog (lookK ka7) fuelN 1 .no (loopC [1, 0, 1, 0] Tryz.f226) (loopV [1, 0, 1, 0] Tryz.f226) K) (S := fun i => instSt remoteT_0_p [.i a0, .i a1, .i (i.1), .g g3, .i (i.2), .i a5, .b b6, .i a7]) (B := remoteT_0B a0 a1 g3 a5 b6 a7 (fun ae1 ae2 => K (.ret) (instSt remoteT_0_e0 [.g g3, .i ae1, .i ae2, .b true, .i 0])) (fun ae1 => K (.exit 0) (instSt remoteT_0_e0 [.g g3, .i ae1, .i a5, .b b6, .i a7]))) (fun i k => by kernel_rfl) fuelN (a2, a4))
 ·cases h
def remoteTK {β : Type} (g : Geo) (o c : Int) (κ : (Fnd × Int) → T β) : T β :=
 remoteT_0L (c) (g.pages) (g) (0) (false) (0) (0) (o) (fun y0_0 y0_1 =>
 κ (⟨(y0_1), (true), (0)⟩, (y0_0))) (fun y0_0 =>
 κ (⟨(0), (false), (0)⟩, (y0_0)))
def remoteT (g : Geo) (o c : Int) : T (Fnd × Int) := remoteTK g o c .ret
theorem remoteT_bind {β : Type} (g : Geo) (o c : Int) (κ : (Fnd × Int) → T β) : (remoteT g o c).bind κ = remoteTK g o c κ := by
 unfold remoteT remoteTK
 first | rfl | (simp only [bind_cond, bind_ret_, bind_op, bind_fail, T.bind_assoc, remoteT_0L_bind])
def remotesT_0B {β : Type} (a0 : Int) (g2 : Geo) (κ0 : Int → T β) (i : Int × Int) (k : Int × Int → T β) : T β :=
 bif decide (i.1 < a0) then ((isT g2 i.1 0).bind fun r1 =>
 bif !r1 then (k (IntKind.i64.wrap (i.1 + 1), i.2)) else
 .op (.load (atF g2 9 i.1)) fun x3 =>
 drainT_0L (i.1) (g2) (i.1) (x3) (fun y4_0 =>
 bif y4_0 != 0 then (.op (.load (atF g2 10 (IntKind.i64.wrap (IntKind.i64.wrap y4_0 - 1)))) fun x6 =>
 bif x6 !=   (0 :     POp.Ans       (POp.load         (atF           g2           10 (IntKind.i64.wrap (IntKind.i64.wrap y4_0 - 1))))) then (.op (.load (atF g2 10 (IntKind.i64.wrap (IntKind.i64.wrap x6 - 1)))) fun x8 =>
 bif x8 !=   (0 :     POp.Ans       (POp.load         (atF           g2           10 (IntKind.i64.wrap (IntKind.i64.wrap x6 - 1))))) then (.op (.load (atF g2 10 (IntKind.i64.wrap (IntKind.i64.wrap x8 - 1)))) fun x10 =>
 bif x10 !=   (0 :     POp.Ans       (POp.load         (atF           g2           10 (IntKind.i64.wrap (IntKind.i64.wrap x8 - 1))))) then (.op (.load (atF g2 10 (IntKind.i64.wrap (IntKind.i64.wrap x10 - 1)))) fun x12 =>
 bif x12 !=   (0 :     POp.Ans       (POp.load         (atF           g2           10 (IntKind.i64.wrap (IntKind.i64.wrap x10 - 1))))) then (.op (.load (atF g2 10 (IntKind.i64.wrap (IntKind.i64.wrap x12 - 1)))) fun x14 =>
 bif x14 !=   (0 :     POp.Ans       (POp.load         (atF           g2           10 (IntKind.i64.wrap (IntKind.i64.wrap x12 - 1))))) then (.op (.load (atF g2 10 (IntKind.i64.wrap (IntKind.i64.wrap x14 - 1)))) fun x16 =>
 bif x16 !=   (0 :     POp.Ans       (POp.load         (atF           g2           10 (IntKind.i64.wrap (IntKind.i64.wrap x14 - 1))))) then (.op (.load (atF g2 10 (IntKind.i64.wrap (IntKind.i64.wrap x16 - 1)))) fun x18 =>
 bif x18 !=   (0 :     POp.Ans       (POp.load         (atF           g2           10 (IntKind.i64.wrap (IntKind.i64.wrap x16 - 1))))) then (.op (.load (atF g2 10 (IntKind.i64.wrap (IntKind.i64.wrap x18 - 1)))) fun x20 =>
 bif x20 !=   (0 :     POp.Ans       (POp.load         (atF           g2           10 (IntKind.i64.wrap (IntKind.i64.wrap x18 - 1))))) then ((homeT g2 i.2 (IntKind.i64.wrap (IntKind.i64.wrap y4_0 - 1))).bind fun r22 =>
 (homeT g2 r22.2 (IntKind.i64.wrap (IntKind.i64.wrap x6 - 1))).bind fun r23 =>
 (homeT g2 r23.2 (IntKind.i64.wrap (IntKind.i64.wrap x8 - 1))).bind fun r24 =>
 (homeT g2 r24.2 (IntKind.i64.wrap (IntKind.i64.wrap x10 - 1))).bind fun r25 =>
 (homeT g2 r25.2 (IntKind.i64.wrap (IntKind.i64.wrap x12 - 1))).bind fun r26 =>
 (homeT g2 r26.2 (IntKind.i64.wrap (IntKind.i64.wrap x14 - 1))).bind fun r27 =>
 (homeT g2 r27.2 (IntKind.i64.wrap (IntKind.i64.wrap x16 - 1))).bind fun r28 =>
 (homeT g2 r28.2 (IntKind.i64.wrap (IntKind.i64.wrap x18 - 1))).bind fun r29 =>
 k (IntKind.i64.wrap (i.1 + 1), r29.2)) else
 (homeT g2 i.2 (IntKind.i64.wrap (IntKind.i64.wrap y4_0 - 1))).bind fun r22 =>
 (homeT g2 r22.2 (IntKind.i64.wrap (IntKind.i64.wrap x6 - 1))).bind fun r23 =>
 (homeT g2 r23.2 (IntKind.i64.wrap (IntKind.i64.wrap x8 - 1))).bind fun r24 =>
 (homeT g2 r24.2 (IntKind.i64.wrap (IntKind.i64.wrap x10 - 1))).bind fun r25 =>
 (homeT g2 r25.2 (IntKind.i64.wrap (IntKind.i64.wrap x12 - 1))).bind fun r26 =>
 (homeT g2 r26.2 (IntKind.i64.wrap (IntKind.i64.wrap x14 - 1))).bind fun r27 =>
 (homeT g2 r27.2 (IntKind.i64.wrap (IntKind.i64.wrap x16 - 1))).bind fun r28 =>
 (homeT g2 r28.2 (IntKind.i64.wrap (IntKind.i64.wrap x18 - 1))).bind fun r29 =>
 k (IntKind.i64.wrap (i.1 + 1), r29.2)) else
 (homeT g2 i.2 (IntKind.i64.wrap (IntKind.i64.wrap y4_0 - 1))).bind fun r20 =>
 (homeT g2 r20.2 (IntKind.i64.wrap (IntKind.i64.wrap x6 - 1))).bind fun r21 =>
 (homeT g2 r21.2 (IntKind.i64.wrap (IntKind.i64.wrap x8 - 1))).bind fun r22 =>
 (homeT g2 r22.2 (IntKind.i64.wrap (IntKind.i64.wrap x10 - 1))).bind fun r23 =>
 (homeT g2 r23.2 (IntKind.i64.wrap (IntKind.i64.wrap x12 - 1))).bind fun r24 =>
 (homeT g2 r24.2 (IntKind.i64.wrap (IntKind.i64.wrap x14 - 1))).bind fun r25 =>
 (homeT g2 r25.2 (IntKind.i64.wrap (IntKind.i64.wrap x16 - 1))).bind fun r26 =>
 k (IntKind.i64.wrap (i.1 + 1), r26.2)) else
 (homeT g2 i.2 (IntKind.i64.wrap (IntKind.i64.wrap y4_0 - 1))).bind fun r18 =>
 (homeT g2 r18.2 (IntKind.i64.wrap (IntKind.i64.wrap x6 - 1))).bind fun r19 =>
 (homeT g2 r19.2 (IntKind.i64.wrap (IntKind.i64.wrap x8 - 1))).bind fun r20 =>
 (homeT g2 r20.2 (IntKind.i64.wrap (IntKind.i64.wrap x10 - 1))).bind fun r21 =>
 (homeT g2 r21.2 (IntKind.i64.wrap (IntKind.i64.wrap x12 - 1))).bind fun r22 =>
 (homeT g2 r22.2 (IntKind.i64.wrap (IntKind.i64.wrap x14 - 1))).bind fun r23 =>
 k (IntKind.i64.wrap (i.1 + 1), r23.2)) else
 (homeT g2 i.2 (IntKind.i64.wrap (IntKind.i64.wrap y4_0 - 1))).bind fun r16 =>
 (homeT g2 r16.2 (IntKind.i64.wrap (IntKind.i64.wrap x6 - 1))).bind fun r17 =>
 (homeT g2 r17.2 (IntKind.i64.wrap (IntKind.i64.wrap x8 - 1))).bind fun r18 =>
 (homeT g2 r18.2 (IntKind.i64.wrap (IntKind.i64.wrap x10 - 1))).bind fun r19 =>
 (homeT g2 r19.2 (IntKind.i64.wrap (IntKind.i64.wrap x12 - 1))).bind fun r20 =>
 k (IntKind.i64.wrap (i.1 + 1), r20.2)) else
 (homeT g2 i.2 (IntKind.i64.wrap (IntKind.i64.wrap y4_0 - 1))).bind fun r14 =>
 (homeT g2 r14.2 (IntKind.i64.wrap (IntKind.i64.wrap x6 - 1))).bind fun r15 =>
 (homeT g2 r15.2 (IntKind.i64.wrap (IntKind.i64.wrap x8 - 1))).bind fun r16 =>
 (homeT g2 r16.2 (IntKind.i64.wrap (IntKind.i64.wrap x10 - 1))).bind fun r17 =>
 k (IntKind.i64.wrap (i.1 + 1), r17.2)) else
 (homeT g2 i.2 (IntKind.i64.wrap (IntKind.i64.wrap y4_0 - 1))).bind fun r12 =>
 (homeT g2 r12.2 (IntKind.i64.wrap (IntKind.i64.wrap x6 - 1))).bind fun r13 =>
 (homeT g2 r13.2 (IntKind.i64.wrap (IntKind.i64.wrap x8 - 1))).bind fun r14 =>
 k (IntKind.i64.wrap (i.1 + 1), r14.2)) else
 (homeT g2 i.2 (IntKind.i64.wrap (IntKind.i64.wrap y4_0 - 1))).bind fun r10 =>
 (homeT g2 r10.2 (IntKind.i64.wrap (IntKind.i64.wrap x6 - 1))).bind fun r11 =>
 k (IntKind.i64.wrap (i.1 + 1), r11.2)) else
 (homeT g2 i.2 (IntKind.i64.wrap (IntKind.i64.wrap y4_0 - 1))).bind fun r8 =>
 k (IntKind.i64.wrap (i.1 + 1), r8.2)) else
 k (IntKind.i64.wrap (i.1 + 1), i.2))) else
 κ0 (i.2)
def remotesT_0L {β : Type} (a0 : Int) (g2 : Geo) (a1 a3 : Int) (κ0 : Int → T β) : T β := loopB fuelN (remotesT_0B a0 g2 κ0) (a1, a3)
theorem remotesT_0L_bind {β γ : Type} (a0 : Int) (g2 : Geo) (a1 a3 : Int) (κ0 : Int → T β) (κ : β → T γ) : (remotesT_0L a0 g2 a1 a3 κ0).bind κ = remotesT_0L a0 g2 a1 a3 (fun ae1 => (κ0 ae1).bind κ) := by
 unfold remotesT_0L
 refine loopB_bind κ (fun i k => ?_) _ _
 unfold remotesT_0B
 first | rfl | (simp only [bind_cond, bind_ret_, bind_op, bind_fail, T.bind_assoc, drainT_0L_bind])
def remotesT_0_p : Pat := ⟨slotsN 33 0 [(0, .c (.raw (.ptr 0 0))), (9, .c (.int .i64)), (10, .c (.int .i64))], [some ⟨[.raw (.port), .geo, .int .u64], 150, false, none⟩]⟩
def remotesT_0_e0 : Pat := ⟨slotsN 33 0 [], [some ⟨[.raw (.port), .geo, .int .u64], 150, false, none⟩]⟩
def remotesT_0F : St → (Ex → St → T R) → Option (T R) := fun st K => match matchSt remotesT_0_p st with
 | some [.i a0, .i a1, .g g2, .i a3] => some (remotesT_0L a0 g2 a1 a3 (fun ae1 => K (.exit 0) (instSt remotesT_0_e0 [.g g2, .i ae1])))
 | _ => none
theorem remotesT_0Ok : ∀ st K t, remotesT_0F st K = some t → loopN fuelN (loopF2 Tryz.prog (lookK ka7) fuelN 1 .no (loopC [1, 0] Tryz.f242) (loopV [1, 0] Tryz.f242) K) st = t := by
 intro st K t h
 unfold remotesT_0F at h
 split at h
 ·rename_i a0 a1 g2 a3 hm
  cases h
  rw [matchSt_eq hm]
  exact cast (by kernel_rfl) (loop_eq (F := loopF2 Tryz.prog (lookK ka7) fuelN 1 .no (loopC [1, 0] Tryz.f242) (loopV [1, 0] Tryz.f242) K) (S := fun i => instSt remotesT_0_p [.i a0, .i (i.1), .g g2, .i (i.2)]) (B := remotesT_0B a0 g2 (fun ae1 => K (.exit 0) (instSt remotesT_0_e0 [.g g2, .i ae1]))) (fun i k => by kernel_rfl) fuelN (a1, a3))
 ·cases h
def remotesTK {β : Type} (g : Geo) (o : Int) (κ : (Unit × Int) → T β) : T β :=
 remotesT_0L (g.pages) (g) (0) (o) (fun y0_0 =>
 κ ((), (y0_0)))
def remotesT (g : Geo) (o : Int) : T (Unit × Int) := remotesTK g o .ret
theorem remotesT_bind {β : Type} (g : Geo) (o : Int) (κ : (Unit × Int) → T β) : (remotesT g o).bind κ = remotesTK g o κ := by
 unfold remotesT remotesTK
 first | rfl | (simp only [bind_cond, bind_ret_, bind_op, bind_fail, T.bind_assoc, remotesT_0L_bind])
def retiresT_0B {β : Type} (a0 : Int) (g2 : Geo) (κ0 : Int → T β) (i : Int × Int) (k : Int × Int → T β) : T β :=
 bif decide (i.1 < a0) then (.op (.load (atF g2 8 i.1)) fun x1 =>
 bif decide (ofW IntKind.i64 x1 8 3 > 0) then (bif decide   ((bif decide (ofW IntKind.i64 x1 8 3 > 0) then       IntKind.i64.wrap (ofW IntKind.i64 x1 8 3 - 1)     else (0 : Int)) <     4) then (bif decide (0 ≤ (btOf x1).cls ∧ (btOf x1).cls < 4) then ((fullT   { map := ofW IntKind.u8 x1 0 8, has := decide (ofW IntKind.i64 x1 8 3 > 0),     cls :=       bif decide (ofW IntKind.i64 x1 8 3 > 0) then         IntKind.i64.wrap (ofW IntKind.i64 x1 8 3 - 1)       else (0 : Int),     ver := ofW IntKind.u32 x1 32 32 }   (bif       (bif decide (ofW IntKind.i64 x1 8 3 > 0) then           IntKind.i64.wrap (ofW IntKind.i64 x1 8 3 - 1)         else (0 : Int)) ==         0 then     8   else     bif         (bif decide (ofW IntKind.i64 x1 8 3 > 0) then             IntKind.i64.wrap (ofW IntKind.i64 x1 8 3 - 1)           else (0 : Int)) ==           0 + 1 then       4     else       bif           (bif decide (ofW IntKind.i64 x1 8 3 > 0) then               IntKind.i64.wrap (ofW IntKind.i64 x1 8 3 - 1)             else (0 : Int)) ==             0 + 1 + 1 then         2       else (2 : Int))).bind fun r5 =>
 bif r5 then ((sretireT g2 i.1).bind fun r7 =>
 bif r7 then ((movedT g2 i.2 1).bind fun r9 =>
 k (IntKind.i64.wrap (i.1 + 1), r9.2)) else
 k (IntKind.i64.wrap (i.1 + 1), i.2)) else
 k (IntKind.i64.wrap (i.1 + 1), i.2)) else
 .fail) else
 k (IntKind.i64.wrap (i.1 + 1), i.2)) else
 k (IntKind.i64.wrap (i.1 + 1), i.2)) else
 κ0 (i.2)
def retiresT_0L {β : Type} (a0 : Int) (g2 : Geo) (a1 a3 : Int) (κ0 : Int → T β) : T β := loopB fuelN (retiresT_0B a0 g2 κ0) (a1, a3)
theorem retiresT_0L_bind {β γ : Type} (a0 : Int) (g2 : Geo) (a1 a3 : Int) (κ0 : Int → T β) (κ : β → T γ) : (retiresT_0L a0 g2 a1 a3 κ0).bind κ = retiresT_0L a0 g2 a1 a3 (fun ae1 => (κ0 ae1).bind κ) := by
 unfold retiresT_0L
 refine loopB_bind κ (fun i k => ?_) _ _
 unfold retiresT_0B
 first | rfl | (simp only [bind_cond, bind_ret_, bind_op, bind_fail, T.bind_assoc])
def retiresT_0_p : Pat := ⟨slotsN 57 0 [(0, .c (.raw (.ptr 0 0))), (8, .c (.int .i64)), (9, .c (.int .i64))], [some ⟨[.raw (.port), .geo, .int .u64], 150, false, none⟩]⟩
def retiresT_0_e0 : Pat := ⟨slotsN 57 0 [], [some ⟨[.raw (.port), .geo, .int .u64], 150, false, none⟩]⟩
def retiresT_0F : St → (Ex → St → T R) → Option (T R) := fun st K => match matchSt retiresT_0_p st with
 | some [.i a0, .i a1, .g g2, .i a3] => some (retiresT_0L a0 g2 a1 a3 (fun ae1 => K (.exit 0) (instSt retiresT_0_e0 [.g g2, .i ae1])))
 | _ => none
theorem retiresT_0Ok : ∀ st K t, retiresT_0F st K = some t → loopN fuelN (loopF2 Tryz.prog (lookK ka7) fuelN 1 .no (loopC [1, 0] Tryz.f243) (loopV [1, 0] Tryz.f243) K) st = t := by
 intro st K t h
 unfold retiresT_0F at h
 split at h
 ·rename_i a0 a1 g2 a3 hm
  cases h
  rw [matchSt_eq hm]
  exact cast (by kernel_rfl) (loop_eq (F := loopF2 Tryz.prog (lookK ka7) fuelN 1 .no (loopC [1, 0] Tryz.f243) (loopV [1, 0] Tryz.f243) K) (S := fun i => instSt retiresT_0_p [.i a0, .i (i.1), .g g2, .i (i.2)]) (B := retiresT_0B a0 g2 (fun ae1 => K (.exit 0) (instSt retiresT_0_e0 [.g g2, .i ae1]))) (fun i k => by kernel_rfl) fuelN (a1, a3))
 ·cases h
def retiresTK {β : Type} (g : Geo) (o : Int) (κ : (Unit × Int) → T β) : T β :=
 retiresT_0L (g.pages) (g) (0) (o) (fun y0_0 =>
 κ ((), (y0_0)))
def retiresT (g : Geo) (o : Int) : T (Unit × Int) := retiresTK g o .ret
theorem retiresT_bind {β : Type} (g : Geo) (o : Int) (κ : (Unit × Int) → T β) : (retiresT g o).bind κ = retiresTK g o κ := by
 unfold retiresT retiresTK
 first | rfl | (simp only [bind_cond, bind_ret_, bind_op, bind_fail, T.bind_assoc, retiresT_0L_bind])
def hcollectTK {β : Type} (g : Geo) (o : Int) (κ : (Unit × Int) → T β) : T β :=
 (tryT g).bind fun r0 =>
 bif r0 then ((collectT g).bind fun r2 =>
 (movedT g o r2).bind fun r3 =>
 (dropT g).bind fun r4 =>
 κ ((), (r3.2))) else
 κ ((), (o))
def hcollectT (g : Geo) (o : Int) : T (Unit × Int) := hcollectTK g o .ret
theorem hcollectT_bind {β : Type} (g : Geo) (o : Int) (κ : (Unit × Int) → T β) : (hcollectT g o).bind κ = hcollectTK g o κ := by
 unfold hcollectT hcollectTK
 first | rfl | (simp only [bind_cond, bind_ret_, bind_op, bind_fail, T.bind_assoc])
def hrunTK {β : Type} (g : Geo) (o k a : Int) (κ : (Fnd × Int) → T β) : T β :=
 (tryT g).bind fun r0 =>
 bif !r0 then (κ (⟨(0), (false), (5)⟩, (o))) else
 (collectT g).bind fun r2 =>
 (movedT g o r2).bind fun r3 =>
 (rallocT g k a).bind fun r4 =>
 (dropT g).bind fun r5 =>
 κ (⟨(IntKind.i64.wrap (r4.1 * 8)), (r4.2), (0)⟩, (r3.2))
def hrunT (g : Geo) (o k a : Int) : T (Fnd × Int) := hrunTK g o k a .ret
theorem hrunT_bind {β : Type} (g : Geo) (o k a : Int) (κ : (Fnd × Int) → T β) : (hrunT g o k a).bind κ = hrunTK g o k a κ := by
 unfold hrunT hrunTK
 first | rfl | (simp only [bind_cond, bind_ret_, bind_op, bind_fail, T.bind_assoc])
def cachesT_2B {β : Type} (a0 a1 a4 a5 a6 : Int) (g7 : Geo) (κ0 : Int → T β) (i : Int × Bool × Int) (k : Int × Bool × Int → T β) : T β :=
 bif i.2.1 then ((homeT g7 i.2.2 (IntKind.i64.wrap (IntKind.i64.wrap i.1 - 1))).bind fun r1 =>
 (stealT g7 a0 a1).bind fun r2 =>
 k (r2.1, r2.2, r1.2)) else
 κ0 (i.2.2)
def cachesT_2L {β : Type} (a0 a1 a4 a5 a6 : Int) (g7 : Geo) (a2 : Int) (b3 : Bool) (a8 : Int) (κ0 : Int → T β) : T β := loopB fuelN (cachesT_2B a0 a1 a4 a5 a6 g7 κ0) (a2, b3, a8)
theorem cachesT_2L_bind {β γ : Type} (a0 a1 a4 a5 a6 : Int) (g7 : Geo) (a2 : Int) (b3 : Bool) (a8 : Int) (κ0 : Int → T β) (κ : β → T γ) : (cachesT_2L a0 a1 a4 a5 a6 g7 a2 b3 a8 κ0).bind κ = cachesT_2L a0 a1 a4 a5 a6 g7 a2 b3 a8 (fun ae5 => (κ0 ae5).bind κ) := by
 unfold cachesT_2L
 refine loopB_bind κ (fun i k => ?_) _ _
 unfold cachesT_2B
 first | rfl | (simp only [bind_cond, bind_ret_, bind_op, bind_fail, T.bind_assoc])
def cachesT_2_p : Pat := ⟨slotsN 52 0 [(0, .c (.raw (.ptr 0 0))), (2, .c (.int .i64)), (3, .c (.int .i64)), (4, .c (.int .u64)), (5, .c (.bool)), (10, .c (.int .i64)), (11, .c (.int .i64)), (14, .c (.int .i64))], [some ⟨[.raw (.port), .geo, .int .u64], 150, false, none⟩]⟩
def cachesT_2_e0 : Pat := ⟨slotsN 52 0 [(0, .c (.raw (.ptr 0 0))), (2, .c (.int .i64)), (10, .c (.int .i64)), (11, .c (.int .i64)), (14, .c (.int .i64))], [some ⟨[.raw (.port), .geo, .int .u64], 150, false, none⟩]⟩
def cachesT_2F : St → (Ex → St → T R) → Option (T R) := fun st K => match matchSt cachesT_2_p st with
 | some [.i a0, .i a1, .i a2, .b b3, .i a4, .i a5, .i a6, .g g7, .i a8] => some (cachesT_2L a0 a1 a4 a5 a6 g7 a2 b3 a8 (fun ae5 => K (.exit 4) (instSt cachesT_2_e0 [.i a0, .i a4, .i a5, .i a6, .g g7, .i ae5])))
 | _ => none
theorem cachesT_2Ok : ∀ st K t, cachesT_2F st K = some t → loopN fuelN (loopF2 Tryz.prog (lookK ka7) fuelN 1 .no (loopC [1, 0, 0, 1, 1, 0, 0, 1, 1, 0, 0, 1, 1, 0, 0, 1, 1, 0] Tryz.f240) (loopV [1, 0, 0, 1, 1, 0, 0, 1, 1, 0, 0, 1, 1, 0, 0, 1, 1, 0] Tryz.f240) K) st = t := by
 intro st K t h
 unfold cachesT_2F at h
 split at h
 ·rename_i a0 a1 a2 b3 a4 a5 a6 g7 a8 hm
  cases h
  rw [matchSt_eq hm]
  exact cast (by kernel_rfl) (loop_eq (F := loopF2 Tryz.prog (lookK ka7) fuelN 1 .no (loopC [1, 0, 0, 1, 1, 0, 0, 1, 1, 0, 0, 1, 1, 0, 0, 1, 1, 0] Tryz.f240) (loopV [1, 0, 0, 1, 1, 0, 0, 1, 1, 0, 0, 1, 1, 0, 0, 1, 1, 0] Tryz.f240) K) (S := fun i => instSt cachesT_2_p [.i a0, .i a1, .i (i.1), .b (i.2.1), .i a4, .i a5, .i a6, .g g7, .i (i.2.2)]) (B := cachesT_2B a0 a1 a4 a5 a6 g7 (fun ae5 => K (.exit 4) (instSt cachesT_2_e0 [.i a0, .i a4, .i a5, .i a6, .g g7, .i ae5]))) (fun i k => by kernel_rfl) fuelN (a2, b3, a8))
 ·cases h
def cachesT_1B {β : Type} (a0 a1 a2 : Int) (g4 : Geo) (κ0 : Int → T β) (i : Int × Int) (k : Int × Int → T β) : T β :=
 bif decide (i.1 < 4) then ((stealT g4 a0 i.1).bind fun r1 =>
 cachesT_2L (a0) (i.1) (a1) (a2) (i.1) (g4) (r1.1) (r1.2) (i.2) (fun y2_0 =>
 k (IntKind.i64.wrap (i.1 + 1), y2_0))) else
 κ0 (i.2)
def cachesT_1L {β : Type} (a0 a1 a2 : Int) (g4 : Geo) (a3 a5 : Int) (κ0 : Int → T β) : T β := loopB fuelN (cachesT_1B a0 a1 a2 g4 κ0) (a3, a5)
theorem cachesT_1L_bind {β γ : Type} (a0 a1 a2 : Int) (g4 : Geo) (a3 a5 : Int) (κ0 : Int → T β) (κ : β → T γ) : (cachesT_1L a0 a1 a2 g4 a3 a5 κ0).bind κ = cachesT_1L a0 a1 a2 g4 a3 a5 (fun ae3 => (κ0 ae3).bind κ) := by
 unfold cachesT_1L
 refine loopB_bind κ (fun i k => ?_) _ _
 unfold cachesT_1B
 first | rfl | (simp only [bind_cond, bind_ret_, bind_op, bind_fail, T.bind_assoc, cachesT_2L_bind])
def cachesT_1_e0 : Pat := ⟨slotsN 52 0 [(0, .c (.raw (.ptr 0 0))), (10, .c (.int .i64)), (11, .c (.int .i64))], [some ⟨[.raw (.port), .geo, .int .u64], 150, false, none⟩]⟩
def cachesT_1F : St → (Ex → St → T R) → Option (T R) := fun st K => match matchSt cachesT_2_e0 st with
 | some [.i a0, .i a1, .i a2, .i a3, .g g4, .i a5] => some (cachesT_1L a0 a1 a2 g4 a3 a5 (fun ae3 => K (.exit 2) (instSt cachesT_1_e0 [.i a1, .i a2, .g g4, .i ae3])))
 | _ => none
theorem cachesT_1Ok : ∀ st K t, cachesT_1F st K = some t → loopN fuelN (loopF2 Tryz.prog (lookK ka7) fuelN 1 (lsAt cachesT_2F .no [1, 1, 0, 0, 1, 1, 0]) (loopC [1, 0, 0, 1, 1, 0, 0, 1, 1, 0] Tryz.f240) (loopV [1, 0, 0, 1, 1, 0, 0, 1, 1, 0] Tryz.f240) K) st = t := by
 intro st K t h
 unfold cachesT_1F at h
 split at h
 ·rename_i a0 a1 a2 a3 g4 a5 hm
  cases h
  rw [matchSt_eq hm]
  exact cast (by kernel_rfl) (loop_eq (F := loopF2 Tryz.prog (lookK ka7) fuelN 1 (lsAt cachesT_2F .no [1, 1, 0, 0, 1, 1, 0]) (loopC [1, 0, 0, 1, 1, 0, 0, 1, 1, 0] Tryz.f240) (loopV [1, 0, 0, 1, 1, 0, 0, 1, 1, 0] Tryz.f240) K) (S := fun i => instSt cachesT_2_e0 [.i a0, .i a1, .i a2, .i (i.1), .g g4, .i (i.2)]) (B := cachesT_1B a0 a1 a2 g4 (fun ae3 => K (.exit 2) (instSt cachesT_1_e0 [.i a1, .i a2, .g g4, .i ae3]))) (fun i k => by kernel_rfl) fuelN (a3, a5))
 ·cases h
def cachesT_0B {β : Type} (a0 : Int) (g2 : Geo) (κ0 : Int → T β) (i : Int × Int) (k : Int × Int → T β) : T β :=
 bif decide (i.1 < a0) then (cachesT_1L (i.1) (a0) (i.1) (g2) (0) (i.2) (fun y1_0 =>
 k (IntKind.i64.wrap (i.1 + 1), y1_0))) else
 κ0 (i.2)
def cachesT_0L {β : Type} (a0 : Int) (g2 : Geo) (a1 a3 : Int) (κ0 : Int → T β) : T β := loopB fuelN (cachesT_0B a0 g2 κ0) (a1, a3)
theorem cachesT_0L_bind {β γ : Type} (a0 : Int) (g2 : Geo) (a1 a3 : Int) (κ0 : Int → T β) (κ : β → T γ) : (cachesT_0L a0 g2 a1 a3 κ0).bind κ = cachesT_0L a0 g2 a1 a3 (fun ae1 => (κ0 ae1).bind κ) := by
 unfold cachesT_0L
 refine loopB_bind κ (fun i k => ?_) _ _
 unfold cachesT_0B
 first | rfl | (simp only [bind_cond, bind_ret_, bind_op, bind_fail, T.bind_assoc, cachesT_1L_bind])
def cachesT_0_e0 : Pat := ⟨slotsN 52 0 [], [some ⟨[.raw (.port), .geo, .int .u64], 150, false, none⟩]⟩
def cachesT_0F : St → (Ex → St → T R) → Option (T R) := fun st K => match matchSt cachesT_1_e0 st with
 | some [.i a0, .i a1, .g g2, .i a3] => some (cachesT_0L a0 g2 a1 a3 (fun ae1 => K (.exit 0) (instSt cachesT_0_e0 [.g g2, .i ae1])))
 | _ => none
theorem cachesT_0Ok : ∀ st K t, cachesT_0F st K = some t → loopN fuelN (loopF2 Tryz.prog (lookK ka7) fuelN 1 (lsAt cachesT_1F (lsAt cachesT_2F .no [1, 1, 0, 0, 1, 1, 0]) [1, 1, 0, 0, 1, 1, 0]) (loopC [1, 0] Tryz.f240) (loopV [1, 0] Tryz.f240) K) st = t := by
 intro st K t h
 unfold cachesT_0F at h
 split at h
 ·rename_i a0 a1 g2 a3 hm
  cases h
  rw [matchSt_eq hm]
  exact cast (by kernel_rfl) (loop_eq (F := loopF2 Tryz.prog (lookK ka7) fuelN 1 (lsAt cachesT_1F (lsAt cachesT_2F .no [1, 1, 0, 0, 1, 1, 0]) [1, 1, 0, 0, 1, 1, 0]) (loopC [1, 0] Tryz.f240) (loopV [1, 0] Tryz.f240) K) (S := fun i => instSt cachesT_1_e0 [.i a0, .i (i.1), .g g2, .i (i.2)]) (B := cachesT_0B a0 g2 (fun ae1 => K (.exit 0) (instSt cachesT_0_e0 [.g g2, .i ae1]))) (fun i k => by kernel_rfl) fuelN (a1, a3))
 ·cases h
def cachesTK {β : Type} (g : Geo) (o : Int) (κ : (Unit × Int) → T β) : T β :=
 cachesT_0L (g.threads) (g) (0) (o) (fun y0_0 =>
 κ ((), (y0_0)))
def cachesT (g : Geo) (o : Int) : T (Unit × Int) := cachesTK g o .ret
theorem cachesT_bind {β : Type} (g : Geo) (o : Int) (κ : (Unit × Int) → T β) : (cachesT g o).bind κ = cachesTK g o κ := by
 unfold cachesT cachesTK
 first | rfl | (simp only [bind_cond, bind_ret_, bind_op, bind_fail, T.bind_assoc, cachesT_0L_bind])
def m_pinitT : Sm := fun args H => match args, H with
 | [.c .port, .agg gc], [] => (match geoOf gc with
   | some g => some (mkS (Unit) (pinitT g) fun r => some (.tup [], []))
   | _ => none)
 | _, _ => none
theorem pinitT_good : Good Tryz.prog (lookK ka7) fuelN 0 (lsAt pinitT_0F .no [1, 1, 0, 1, 0]) (Tryz.f126.body.getD .skip) (resMask Tryz.f126.results.toList) := good_fn (body_eq (by kernel_rfl)) good_no pinitT_0Ok
variable {σ : Type} {I : Port Tryz.prog σ}
theorem s_m_pinitT (hl : SoundL I ka7) : SoundF I 126 m_pinitT := by
 refine sq hl fuelN Tryz.func126 fun args H t ht => ?_
 unfold m_pinitT at ht
 split at ht
 ·rename_i gc
  split at ht
  ·rename_i g hg
   obtain rfl := geoOf_eq hg
   cases ht
   refine (evF2_eq (P := Tryz.prog) (n := fuelN) (x := (lsAt pinitT_0F .no [1, 1, 0, 1, 0])) (fn := Tryz.f126) (H := []) (c := Tryz.f126.body.getD .skip) (body_eq (by kernel_rfl)) pinitT_good).symm.trans ?_
   refine Eq.trans ?_ (pinitT_bind g _).symm
   kernel_rfl
  ·cases ht
 ·cases ht
def m_acqT : Sm := fun args H => match args, H with
 | [.c .port, .agg gc], [] => (match geoOf gc with
   | some g => some (mkS (Int) (acqT g) fun r => some (.c (.int .i64 r), []))
   | _ => none)
 | _, _ => none
theorem acqT_good : Good Tryz.prog (lookK ka7) fuelN 0 (lsAt acqT_0F .no [1, 1, 0]) (Tryz.f267.body.getD .skip) (resMask Tryz.f267.results.toList) := good_fn (body_eq (by kernel_rfl)) good_no acqT_0Ok
theorem s_m_acqT (hl : SoundL I ka7) : SoundF I 267 m_acqT := by
 refine sq hl fuelN Tryz.func267 fun args H t ht => ?_
 unfold m_acqT at ht
 split at ht
 ·rename_i gc
  split at ht
  ·rename_i g hg
   obtain rfl := geoOf_eq hg
   cases ht
   refine (evF2_eq (P := Tryz.prog) (n := fuelN) (x := (lsAt acqT_0F .no [1, 1, 0])) (fn := Tryz.f267) (H := []) (c := Tryz.f267.body.getD .skip) (body_eq (by kernel_rfl)) acqT_good).symm.trans ?_
   refine Eq.trans ?_ (acqT_bind g _).symm
   kernel_rfl
  ·cases ht
 ·cases ht
def m_protT : Sm := fun args H => match args, H with
 | [.c .port, .agg gc, .c (.int .i64 s), .c (.int .i64 a)], [] => (match geoOf gc with
   | some g => some (mkS (Ref) (protT g s a) fun r => some (.agg r.cells, []))
   | _ => none)
 | _, _ => none
theorem protT_good : Good Tryz.prog (lookK ka7) fuelN 0 (lsAt protT_0F .no [1, 1, 1, 0]) (Tryz.f285.body.getD .skip) (resMask Tryz.f285.results.toList) := good_fn (body_eq (by kernel_rfl)) good_no protT_0Ok
theorem s_m_protT (hl : SoundL I ka7) : SoundF I 285 m_protT := by
 refine sq hl fuelN Tryz.func285 fun args H t ht => ?_
 unfold m_protT at ht
 split at ht
 ·rename_i gc s a
  split at ht
  ·rename_i g hg
   obtain rfl := geoOf_eq hg
   cases ht
   refine (evF2_eq (P := Tryz.prog) (n := fuelN) (x := (lsAt protT_0F .no [1, 1, 1, 0])) (fn := Tryz.f285) (H := []) (c := Tryz.f285.body.getD .skip) (body_eq (by kernel_rfl)) protT_good).symm.trans ?_
   refine Eq.trans ?_ (protT_bind g s a _).symm
   kernel_rfl
  ·cases ht
 ·cases ht
def m_clearT : Sm := fun args H => match args, H with
 | [.c .port, .agg gc, .c (.int .i64 s)], [] => (match geoOf gc with
   | some g => some (mkS (Unit) (clearT g s) fun r => some (.tup [], []))
   | _ => none)
 | _, _ => none
theorem s_m_clearT (hl : SoundL I ka7) : SoundF I 287 m_clearT := by
 refine sq hl 1 Tryz.func287 fun args H t ht => ?_
 unfold m_clearT at ht
 split at ht
 ·rename_i gc s
  split at ht
  ·rename_i g hg
   obtain rfl := geoOf_eq hg
   cases ht
   refine Eq.trans ?_ (clearT_bind g s _).symm
   kernel_rfl
  ·cases ht
 ·cases ht
def m_remoteT : Sm := fun args H => match args, H with
 | [.c (.ptr 0 0), .c (.int .i64 c)], [some ⟨.port :: gc, 150, false, none⟩] => (match hdOf gc with
   | some (g, o) => some (mkS ((Fnd × Int)) (remoteT g o c) fun r => some (.agg r.1.cells, [some ⟨.port :: (g.cells ++ [.int .u64 r.2]), 150, false, none⟩]))
   | _ => none)
 | _, _ => none
theorem remoteT_good : Good Tryz.prog (lookK ka7) fuelN 1 (lsAt remoteT_0F .no [1, 0, 1, 0]) (Tryz.f226.body.getD .skip) (resMask Tryz.f226.results.toList) := good_fn (body_eq (by kernel_rfl)) good_no remoteT_0Ok
theorem s_m_remoteT (hl : SoundL I ka7) : SoundF I 226 m_remoteT := by
 refine sq hl fuelN Tryz.func226 fun args H t ht => ?_
 unfold m_remoteT at ht
 split at ht
 ·rename_i c gc
  split at ht
  ·rename_i g o hg
   obtain rfl := hdOf_eq hg
   cases ht
   refine (evF2_eq (P := Tryz.prog) (n := fuelN) (x := (lsAt remoteT_0F .no [1, 0, 1, 0])) (fn := Tryz.f226) (H := [some ⟨.port :: (g.cells ++ [.int .u64 o]), 150, false, none⟩]) (c := Tryz.f226.body.getD .skip) (body_eq (by kernel_rfl)) remoteT_good).symm.trans ?_
   refine Eq.trans ?_ (remoteT_bind g o c _).symm
   kernel_rfl
  ·cases ht
 ·cases ht
def m_remotesT : Sm := fun args H => match args, H with
 | [.c (.ptr 0 0)], [some ⟨.port :: gc, 150, false, none⟩] => (match hdOf gc with
   | some (g, o) => some (mkS ((Unit × Int)) (remotesT g o) fun r => some (.tup [], [some ⟨.port :: (g.cells ++ [.int .u64 r.2]), 150, false, none⟩]))
   | _ => none)
 | _, _ => none
theorem remotesT_good : Good Tryz.prog (lookK ka7) fuelN 1 (lsAt remotesT_0F .no [1, 0]) (Tryz.f242.body.getD .skip) (resMask Tryz.f242.results.toList) := good_fn (body_eq (by kernel_rfl)) good_no remotesT_0Ok
theorem s_m_remotesT (hl : SoundL I ka7) : SoundF I 242 m_remotesT := by
 refine sq hl fuelN Tryz.func242 fun args H t ht => ?_
 unfold m_remotesT at ht
 split at ht
 ·rename_i gc
  split at ht
  ·rename_i g o hg
   obtain rfl := hdOf_eq hg
   cases ht
   refine (evF2_eq (P := Tryz.prog) (n := fuelN) (x := (lsAt remotesT_0F .no [1, 0])) (fn := Tryz.f242) (H := [some ⟨.port :: (g.cells ++ [.int .u64 o]), 150, false, none⟩]) (c := Tryz.f242.body.getD .skip) (body_eq (by kernel_rfl)) remotesT_good).symm.trans ?_
   refine Eq.trans ?_ (remotesT_bind g o _).symm
   kernel_rfl
  ·cases ht
 ·cases ht
def m_retiresT : Sm := fun args H => match args, H with
 | [.c (.ptr 0 0)], [some ⟨.port :: gc, 150, false, none⟩] => (match hdOf gc with
   | some (g, o) => some (mkS ((Unit × Int)) (retiresT g o) fun r => some (.tup [], [some ⟨.port :: (g.cells ++ [.int .u64 r.2]), 150, false, none⟩]))
   | _ => none)
 | _, _ => none
theorem retiresT_good : Good Tryz.prog (lookK ka7) fuelN 1 (lsAt retiresT_0F .no [1, 0]) (Tryz.f243.body.getD .skip) (resMask Tryz.f243.results.toList) := good_fn (body_eq (by kernel_rfl)) good_no retiresT_0Ok
theorem s_m_retiresT (hl : SoundL I ka7) : SoundF I 243 m_retiresT := by
 refine sq hl fuelN Tryz.func243 fun args H t ht => ?_
 unfold m_retiresT at ht
 split at ht
 ·rename_i gc
  split at ht
  ·rename_i g o hg
   obtain rfl := hdOf_eq hg
   cases ht
   refine (evF2_eq (P := Tryz.prog) (n := fuelN) (x := (lsAt retiresT_0F .no [1, 0])) (fn := Tryz.f243) (H := [some ⟨.port :: (g.cells ++ [.int .u64 o]), 150, false, none⟩]) (c := Tryz.f243.body.getD .skip) (body_eq (by kernel_rfl)) retiresT_good).symm.trans ?_
   refine Eq.trans ?_ (retiresT_bind g o _).symm
   kernel_rfl
  ·cases ht
 ·cases ht
def m_hcollectT : Sm := fun args H => match args, H with
 | [.c (.ptr 0 0)], [some ⟨.port :: gc, 150, false, none⟩] => (match hdOf gc with
   | some (g, o) => some (mkS ((Unit × Int)) (hcollectT g o) fun r => some (.tup [], [some ⟨.port :: (g.cells ++ [.int .u64 r.2]), 150, false, none⟩]))
   | _ => none)
 | _, _ => none
theorem s_m_hcollectT (hl : SoundL I ka7) : SoundF I 87 m_hcollectT := by
 refine sq hl 1 Tryz.func87 fun args H t ht => ?_
 unfold m_hcollectT at ht
 split at ht
 ·rename_i gc
  split at ht
  ·rename_i g o hg
   obtain rfl := hdOf_eq hg
   cases ht
   refine Eq.trans ?_ (hcollectT_bind g o _).symm
   kernel_rfl
  ·cases ht
 ·cases ht
def m_hrunT : Sm := fun args H => match args, H with
 | [.c (.ptr 0 0), .c (.int .i64 k), .c (.int .i64 a)], [some ⟨.port :: gc, 150, false, none⟩] => (match hdOf gc with
   | some (g, o) => some (mkS ((Fnd × Int)) (hrunT g o k a) fun r => some (.agg r.1.cells, [some ⟨.port :: (g.cells ++ [.int .u64 r.2]), 150, false, none⟩]))
   | _ => none)
 | _, _ => none
theorem s_m_hrunT (hl : SoundL I ka7) : SoundF I 162 m_hrunT := by
 refine sq hl 1 Tryz.func162 fun args H t ht => ?_
 unfold m_hrunT at ht
 split at ht
 ·rename_i k a gc
  split at ht
  ·rename_i g o hg
   obtain rfl := hdOf_eq hg
   cases ht
   refine Eq.trans ?_ (hrunT_bind g o k a _).symm
   kernel_rfl
  ·cases ht
 ·cases ht
def m_cachesT : Sm := fun args H => match args, H with
 | [.c (.ptr 0 0)], [some ⟨.port :: gc, 150, false, none⟩] => (match hdOf gc with
   | some (g, o) => some (mkS ((Unit × Int)) (cachesT g o) fun r => some (.tup [], [some ⟨.port :: (g.cells ++ [.int .u64 r.2]), 150, false, none⟩]))
   | _ => none)
 | _, _ => none
theorem cachesT_good : Good Tryz.prog (lookK ka7) fuelN 1 (lsAt cachesT_0F (lsAt cachesT_1F (lsAt cachesT_2F .no [1, 1, 0, 0, 1, 1, 0]) [1, 1, 0, 0, 1, 1, 0]) [1, 0]) (Tryz.f240.body.getD .skip) (resMask Tryz.f240.results.toList) := good_fn (body_eq (by kernel_rfl)) (good_in (p := [1, 0]) (q := [1, 1, 0, 0, 1, 1, 0]) (body_eq (fn := Tryz.f240) (by kernel_rfl)) (good_in (p := [1, 0, 0, 1, 1, 0, 0, 1, 1, 0]) (q := [1, 1, 0, 0, 1, 1, 0]) (body_eq (fn := Tryz.f240) (by kernel_rfl)) good_no cachesT_2Ok (by kernel_rfl)) cachesT_1Ok (by kernel_rfl)) cachesT_0Ok
theorem s_m_cachesT (hl : SoundL I ka7) : SoundF I 240 m_cachesT := by
 refine sq hl fuelN Tryz.func240 fun args H t ht => ?_
 unfold m_cachesT at ht
 split at ht
 ·rename_i gc
  split at ht
  ·rename_i g o hg
   obtain rfl := hdOf_eq hg
   cases ht
   refine (evF2_eq (P := Tryz.prog) (n := fuelN) (x := (lsAt cachesT_0F (lsAt cachesT_1F (lsAt cachesT_2F .no [1, 1, 0, 0, 1, 1, 0]) [1, 1, 0, 0, 1, 1, 0]) [1, 0])) (fn := Tryz.f240) (H := [some ⟨.port :: (g.cells ++ [.int .u64 o]), 150, false, none⟩]) (c := Tryz.f240.body.getD .skip) (body_eq (by kernel_rfl)) cachesT_good).symm.trans ?_
   refine Eq.trans ?_ (cachesT_bind g o _).symm
   kernel_rfl
  ·cases ht
 ·cases ht
def ka8 : List (Nat × Sm) := (126, m_pinitT) :: (267, m_acqT) :: (285, m_protT) :: (287, m_clearT) :: (226, m_remoteT) :: (242, m_remotesT) :: (243, m_retiresT) :: (87, m_hcollectT) :: (162, m_hrunT) :: (240, m_cachesT) :: ka7
theorem s_ka8 : SoundL I ka8 := (.cons (s_m_pinitT s_ka7) (.cons (s_m_acqT s_ka7) (.cons (s_m_protT s_ka7) (.cons (s_m_clearT s_ka7) (.cons (s_m_remoteT s_ka7) (.cons (s_m_remotesT s_ka7) (.cons (s_m_retiresT s_ka7) (.cons (s_m_hcollectT s_ka7) (.cons (s_m_hrunT s_ka7) (.cons (s_m_cachesT s_ka7) s_ka7))))))))))
end Go.Proofs.YtaegelbaghaooaaGreat.Lx
