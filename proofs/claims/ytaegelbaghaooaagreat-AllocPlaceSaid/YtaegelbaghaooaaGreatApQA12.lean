/- Summaries: central. (trees printed by program, wip/auto.py) -/
import Derived.Test.YtaegelbaghaooaaGreatApQA11
import Derived.WalkKit
set_option linter.unusedSimpArgs false
set_option linter.unusedVariables false
namespace Go.Proofs.YtaegelbaghaooaaGreat.Lx
open Go
set_option maxRecDepth 1000000
set_option linter.unusedVariables false

def sweepTK {β : Type} (g : Geo) (o : Int) (κ : (Bool × Int) → T β) : T β :=
  (cachesT g o).bind fun r0 =>
  (bagsT g r0.2).bind fun r1 =>
   (remotesT g r1.2).bind fun r2 =>
    (tryT g).bind fun r3 =>
     bif !r3 then (κ ((false), (r2.2))) else
      (collectT g).bind fun r5 =>
       (movedT g r2.2 r5).bind fun r6 =>
        (retiresT g r6.2).bind fun r7 =>
         (dropT g).bind fun r8 =>
          κ ((true), (r7.2))
def sweepT (g : Geo) (o : Int) : T (Bool × Int) := sweepTK g o .ret
theorem sweepT_bind {β : Type} (g : Geo) (o : Int) (κ : (Bool × Int) → T β) : (sweepT g o).bind κ = sweepTK g o κ := by
  unfold sweepT sweepTK
  first | rfl | (simp only [bind_cond, bind_ret_, bind_op, bind_fail, T.bind_assoc])
def releaseTK {β : Type} (g : Geo) (k : Int) (κ : Unit → T β) : T β :=
  (cnoneT g).bind fun r0 =>
  bif r0 then (κ ()) else
   bif atF g 11 k == (-1) then (κ ()) else
    (findT g k).bind fun r3 =>
     bif r3.kind == 4 then ((markT g (IntKind.wrap IntKind.i64 (Int.tdiv k 8)) r3.len).bind fun r5 =>
       bif r5 then ((movedT g 0 1).bind fun r7 =>
         (hcollectT g r7.2).bind fun r8 =>
          κ ()) else
        κ ()) else
      bif r3.kind != 3 then (κ ()) else
       .op (.self ) fun x6 =>
        bif r3.owner != x6 then ((pushT g k).bind fun r8 =>
          (movedT g 0 1).bind fun r9 =>
           κ ()) else
         (putT_ g r3.cls (IntKind.wrap IntKind.u64 (IntKind.wrap IntKind.u64 k + 1))).bind fun r8 =>
          bif r8 then ((movedT g 0 1).bind fun r10 =>
            κ ()) else
           (baddT g r3.cls (IntKind.wrap IntKind.u64 (IntKind.wrap IntKind.u64 k + 1))).bind fun r10 =>
            bif r10 then ((movedT g 0 1).bind fun r12 =>
              κ ()) else
             (shomeT g k).bind fun r12 =>
              (movedT g 0 1).bind fun r13 =>
               κ ()
def releaseT (g : Geo) (k : Int) : T Unit := releaseTK g k .ret
theorem releaseT_bind {β : Type} (g : Geo) (k : Int) (κ : Unit → T β) : (releaseT g k).bind κ = releaseTK g k κ := by
  unfold releaseT releaseTK
  first | rfl | (simp only [bind_cond, bind_ret_, bind_op, bind_fail, T.bind_assoc])
def flushT_1B {β : Type} (a0 : Int) (a3 : Int) (g4 : Geo) (g5 : Geo) (κ0 : Int → T β) (i : Int × Bool × Int) (k : Int × Bool × Int → T β) : T β :=
  bif i.2.1 then ((homeT g5 i.2.2 (IntKind.wrap IntKind.i64 (IntKind.wrap IntKind.i64 i.1 - 1))).bind fun r1 =>
   (ctakeT g4 a0).bind fun r2 =>
    k (r2.1, r2.2, r1.2)) else
  κ0 (i.2.2)
def flushT_1L {β : Type} (a0 : Int) (a3 : Int) (g4 : Geo) (g5 : Geo) (a1 : Int) (b2 : Bool) (a6 : Int) (κ0 : Int → T β) : T β := loopB fuelN (flushT_1B a0 a3 g4 g5 κ0) (a1, b2, a6)
theorem flushT_1L_bind {β γ : Type} (a0 : Int) (a3 : Int) (g4 : Geo) (g5 : Geo) (a1 : Int) (b2 : Bool) (a6 : Int) (κ0 : Int → T β) (κ : β → T γ) : (flushT_1L a0 a3 g4 g5 a1 b2 a6 κ0).bind κ = flushT_1L a0 a3 g4 g5 a1 b2 a6 (fun ae4 => (κ0 ae4).bind κ) := by
  unfold flushT_1L
  refine loopB_bind κ (fun i k => ?_) _ _
  unfold flushT_1B
  first | rfl | (simp only [bind_cond, bind_ret_, bind_op, bind_fail, T.bind_assoc])
def flushT_1_p : Pat := ⟨slotsN 42 0 [(0, .c (.raw (.port))), (3, .c (.raw (.ptr 0 0))), (4, .c (.raw (.ptr 1 0))), (5, .c (.int .i64)), (6, .c (.int .u64)), (7, .c (.bool)), (15, .c (.int .i64))], [some ⟨[.geo], 24, false, none⟩, some ⟨[.raw (.port), .geo, .int .u64], 150, false, none⟩]⟩
def flushT_1_e0 : Pat := ⟨slotsN 42 0 [(0, .c (.raw (.port))), (3, .c (.raw (.ptr 0 0))), (4, .c (.raw (.ptr 1 0))), (5, .c (.int .i64)), (15, .c (.int .i64))], [some ⟨[.geo], 24, false, none⟩, some ⟨[.raw (.port), .geo, .int .u64], 150, false, none⟩]⟩
def flushT_1F : St → (Ex → St → T R) → Option (T R) := fun st K => match matchSt flushT_1_p st with
  | some [.i a0, .i a1, .b b2, .i a3, .g g4, .g g5, .i a6] => some (flushT_1L a0 a3 g4 g5 a1 b2 a6 (fun ae4 => K (.exit 2) (instSt flushT_1_e0 [.i (a0), .i (a3), .g (g4), .g (g5), .i (ae4)])))
  | _ => none
theorem flushT_1Ok : ∀ st K t, flushT_1F st K = some t → loopN fuelN (loopF2 Tryz.prog (lookK ka11) fuelN 0 .no (loopC [1, 1, 1, 1, 0, 0, 1, 1, 0, 0, 1, 0, 1, 0] Tryz.f134) (loopV [1, 1, 1, 1, 0, 0, 1, 1, 0, 0, 1, 0, 1, 0] Tryz.f134) K) st = t := by
  intro st K t h
  unfold flushT_1F at h
  split at h
  · rename_i a0 a1 b2 a3 g4 g5 a6 hm
    cases h
    rw [matchSt_eq hm]
    exact cast (by kernel_rfl) (loop_eq (F := loopF2 Tryz.prog (lookK ka11) fuelN 0 .no (loopC [1, 1, 1, 1, 0, 0, 1, 1, 0, 0, 1, 0, 1, 0] Tryz.f134) (loopV [1, 1, 1, 1, 0, 0, 1, 1, 0, 0, 1, 0, 1, 0] Tryz.f134) K) (S := fun i => instSt flushT_1_p [.i (a0), .i (i.1), .b (i.2.1), .i (a3), .g (g4), .g (g5), .i (i.2.2)]) (B := flushT_1B a0 a3 g4 g5 (fun ae4 => K (.exit 2) (instSt flushT_1_e0 [.i (a0), .i (a3), .g (g4), .g (g5), .i (ae4)]))) (fun i k => by kernel_rfl) fuelN (a1, b2, a6))
  · cases h
def flushT_0B {β : Type} (g1 : Geo) (g2 : Geo) (κ0 : Unit → T β) (i : Int × Int) (k : Int × Int → T β) : T β :=
  bif decide (i.1 < 4) then ((ctakeT g1 i.1).bind fun r1 =>
   flushT_1L (i.1) (i.1) (g1) (g2) (r1.1) (r1.2) (i.2) (fun y2_0 =>
    (pruneT g1 i.1).bind fun r3 =>
     k (IntKind.wrap IntKind.i64 (i.1 + 1), y2_0))) else
  κ0 ()
def flushT_0L {β : Type} (g1 : Geo) (g2 : Geo) (a0 : Int) (a3 : Int) (κ0 : Unit → T β) : T β := loopB fuelN (flushT_0B g1 g2 κ0) (a0, a3)
theorem flushT_0L_bind {β γ : Type} (g1 : Geo) (g2 : Geo) (a0 : Int) (a3 : Int) (κ0 : Unit → T β) (κ : β → T γ) : (flushT_0L g1 g2 a0 a3 κ0).bind κ = flushT_0L g1 g2 a0 a3 (fun u => (κ0 u).bind κ) := by
  unfold flushT_0L
  refine loopB_bind κ (fun i k => ?_) _ _
  unfold flushT_0B
  first | rfl | (simp only [bind_cond, bind_ret_, bind_op, bind_fail, T.bind_assoc, flushT_1L_bind])
def flushT_0_p : Pat := ⟨slotsN 42 0 [(0, .c (.raw (.port))), (3, .c (.raw (.ptr 0 0))), (4, .c (.raw (.ptr 1 0))), (15, .c (.int .i64))], [some ⟨[.geo], 24, false, none⟩, some ⟨[.raw (.port), .geo, .int .u64], 150, false, none⟩]⟩
def flushT_0_e0 : Pat := ⟨slotsN 42 0 [], []⟩
def flushT_0F : St → (Ex → St → T R) → Option (T R) := fun st K => match matchSt flushT_0_p st with
  | some [.i a0, .g g1, .g g2, .i a3] => some (flushT_0L g1 g2 a0 a3 (fun _ => K (.exit 0) (instSt flushT_0_e0 [])))
  | _ => none
theorem flushT_0Ok : ∀ st K t, flushT_0F st K = some t → loopN fuelN (loopF2 Tryz.prog (lookK ka11) fuelN 0 (lsAt flushT_1F .no [1, 1, 0, 0, 1, 0, 1, 0]) (loopC [1, 1, 1, 1, 0] Tryz.f134) (loopV [1, 1, 1, 1, 0] Tryz.f134) K) st = t := by
  intro st K t h
  unfold flushT_0F at h
  split at h
  · rename_i a0 g1 g2 a3 hm
    cases h
    rw [matchSt_eq hm]
    exact cast (by kernel_rfl) (loop_eq (F := loopF2 Tryz.prog (lookK ka11) fuelN 0 (lsAt flushT_1F .no [1, 1, 0, 0, 1, 0, 1, 0]) (loopC [1, 1, 1, 1, 0] Tryz.f134) (loopV [1, 1, 1, 1, 0] Tryz.f134) K) (S := fun i => instSt flushT_0_p [.i (i.1), .g (g1), .g (g2), .i (i.2)]) (B := flushT_0B g1 g2 (fun _ => K (.exit 0) (instSt flushT_0_e0 []))) (fun i k => by kernel_rfl) fuelN (a0, a3))
  · cases h
def flushTK {β : Type} (g : Geo) (κ : Unit → T β) : T β :=
  (cnoneT g).bind fun r0 =>
  bif r0 then (κ ()) else
   flushT_0L (g) (g) (0) (0) (fun y2_0 =>
    κ ())
def flushT (g : Geo) : T Unit := flushTK g .ret
theorem flushT_bind {β : Type} (g : Geo) (κ : Unit → T β) : (flushT g).bind κ = flushTK g κ := by
  unfold flushT flushTK
  first | rfl | (simp only [bind_cond, bind_ret_, bind_op, bind_fail, T.bind_assoc, flushT_0L_bind])
def m_sweepT : Sm := fun args H => match args, H with
  | [.c (.ptr 0 0)], [some ⟨.port :: gc, 150, false, none⟩] => (match hdOf gc with
      | some (g, o) => some (mkS ((Bool × Int)) (sweepT g o) fun r => some (.c (.bool r.1), [some ⟨.port :: (g.cells ++ [.int .u64 r.2]), 150, false, none⟩]))
      | _ => none)
  | _, _ => none
theorem s_m_sweepT {σ : Type} {I : Port Tryz.prog σ} (hl : SoundL I ka11) : SoundF I 179 m_sweepT := by
  refine sound_eq hl 1 Tryz.func179 (by kernel_rfl) (by kernel_rfl) fun args H t ht => ?_
  unfold m_sweepT at ht
  split at ht
  · rename_i gc
    split at ht
    · rename_i g o hg
      obtain rfl := hdOf_eq hg
      cases ht
      refine Eq.trans ?_ (sweepT_bind g o _).symm
      kernel_rfl
    · cases ht
  · cases ht
def m_releaseT : Sm := fun args H => match args, H with
  | [.c .port, .agg gc, .c (.int .i64 k)], [] => (match geoOf gc with
      | some g => some (mkS (Unit) (releaseT g k) fun r => some (.tup [], []))
      | _ => none)
  | _, _ => none
theorem s_m_releaseT {σ : Type} {I : Port Tryz.prog σ} (hl : SoundL I ka11) : SoundF I 27 m_releaseT := by
  refine sound_eq hl 1 Tryz.func27 (by kernel_rfl) (by kernel_rfl) fun args H t ht => ?_
  unfold m_releaseT at ht
  split at ht
  · rename_i gc k
    split at ht
    · rename_i g hg
      obtain rfl := geoOf_eq hg
      cases ht
      refine Eq.trans ?_ (releaseT_bind g k _).symm
      kernel_rfl
    · cases ht
  · cases ht
def m_flushT : Sm := fun args H => match args, H with
  | [.c .port, .agg gc], [] => (match geoOf gc with
      | some g => some (mkS (Unit) (flushT g) fun r => some (.tup [], []))
      | _ => none)
  | _, _ => none
theorem flushT_good : Good Tryz.prog (lookK ka11) fuelN 0 (lsAt flushT_0F (lsAt flushT_1F .no [1, 1, 0, 0, 1, 0, 1, 0]) [1, 1, 1, 1, 0]) (Tryz.f134.body.getD .skip) (resMask Tryz.f134.results.toList) := good_fn (body_eq (by kernel_rfl)) (good_in (p := [1, 1, 1, 1, 0]) (q := [1, 1, 0, 0, 1, 0, 1, 0]) (body_eq (fn := Tryz.f134) (by kernel_rfl)) good_no flushT_1Ok (by kernel_rfl)) flushT_0Ok
theorem s_m_flushT {σ : Type} {I : Port Tryz.prog σ} (hl : SoundL I ka11) : SoundF I 134 m_flushT := by
  refine sound_eq hl fuelN Tryz.func134 (by kernel_rfl) (by kernel_rfl) fun args H t ht => ?_
  unfold m_flushT at ht
  split at ht
  · rename_i gc
    split at ht
    · rename_i g hg
      obtain rfl := geoOf_eq hg
      cases ht
      refine (evF2_eq (P := Tryz.prog) (n := fuelN) (x := (lsAt flushT_0F (lsAt flushT_1F .no [1, 1, 0, 0, 1, 0, 1, 0]) [1, 1, 1, 1, 0])) (fn := Tryz.f134) (H := []) (c := Tryz.f134.body.getD .skip) (body_eq (by kernel_rfl)) flushT_good).symm.trans ?_
      refine Eq.trans ?_ (flushT_bind g _).symm
      kernel_rfl
    · cases ht
  · cases ht
def ka12 : List (Nat × Sm) := (179, m_sweepT) :: (27, m_releaseT) :: (134, m_flushT) :: ka11
theorem s_ka12 {σ : Type} {I : Port Tryz.prog σ} : SoundL I ka12 := (.cons (s_m_sweepT s_ka11) (.cons (s_m_releaseT s_ka11) (.cons (s_m_flushT s_ka11) s_ka11)))
end Go.Proofs.YtaegelbaghaooaaGreat.Lx
