/- Summaries: alloc, renew, data, call. (trees printed by program, wip/auto.py) -/
import Derived.Test.YtaegelbaghaooaaGreatAzQA14
import Derived.WalkKit
set_option linter.unusedSimpArgs false
set_option linter.unusedVariables false
set_option linter.unusedSectionVars false
namespace Go.Proofs.YtaegelbaghaooaaGreat.Lx
open Go
set_option maxRecDepth 1000000

def alignedTK {β : Type} (g : Geo) (a : Int) (s : Int) (κ : Res → T β) : T β :=
 bif g.pages == 0 then (κ ⟨(0), (0), (0), (0), (0), (0), (0), (0), (15), (0), (0)⟩) else
 (placeT g s a).bind fun r1 =>
 bif r1.snd.2 != 0 then (.op (.steps ) fun x3 =>
 (failsT r1.snd.2 x3).bind fun r4 =>
 κ ⟨(r4.at_), (r4.n), (r4.byte), (r4.c1), (r4.c2), (r4.c3), (r4.c4), (r4.c5), (r4.e), (r4.lin), (r4.touch)⟩) else
 (bornT g r1.1 r1.snd.1 s).bind fun r3 =>
 κ ⟨(r3.at_), (r3.n), (r3.byte), (r3.c1), (r3.c2), (r3.c3), (r3.c4), (r3.c5), (r3.e), (r3.lin), (r3.touch)⟩
def alignedT (g : Geo) (a : Int) (s : Int) : T Res := alignedTK g a s .ret
theorem alignedT_bind {β : Type} (g : Geo) (a : Int) (s : Int) (κ : Res → T β) : (alignedT g a s).bind κ = alignedTK g a s κ := by
  unfold alignedT alignedTK
  first | rfl | (simp only [bind_cond, bind_ret_, bind_op, bind_fail, T.bind_assoc])
def callocT_0B {β : Type} (a0 : Int) (a1 : Int) (a2 : Int) (a3 : Int) (a4 : Int) (g6 : Geo) (a7 : Int) (a8 : Int) (a9 : Int) (a10 : Int) (a11 : Int) (a12 : Int) (a13 : Int) (a14 : Int) (a15 : Int) (a16 : Int) (a17 : Int) (κ0 : Unit → T β) (i : Int) (k : Int → T β) : T β :=
 bif decide (i < a4) then (.op (.put (IntKind.wrap IntKind.i64 (IntKind.wrap IntKind.i64 (a2 * 8) + i)) (0)) fun _ =>
 k (IntKind.wrap IntKind.i64 (i + 1))) else
 κ0 ()
def callocT_0L {β : Type} (a0 : Int) (a1 : Int) (a2 : Int) (a3 : Int) (a4 : Int) (g6 : Geo) (a7 : Int) (a8 : Int) (a9 : Int) (a10 : Int) (a11 : Int) (a12 : Int) (a13 : Int) (a14 : Int) (a15 : Int) (a16 : Int) (a17 : Int) (a5 : Int) (κ0 : Unit → T β) : T β := loopB fuelN (callocT_0B a0 a1 a2 a3 a4 g6 a7 a8 a9 a10 a11 a12 a13 a14 a15 a16 a17 κ0) (a5)
theorem callocT_0L_bind {β γ : Type} (a0 : Int) (a1 : Int) (a2 : Int) (a3 : Int) (a4 : Int) (g6 : Geo) (a7 : Int) (a8 : Int) (a9 : Int) (a10 : Int) (a11 : Int) (a12 : Int) (a13 : Int) (a14 : Int) (a15 : Int) (a16 : Int) (a17 : Int) (a5 : Int) (κ0 : Unit → T β) (κ : β → T γ) : (callocT_0L a0 a1 a2 a3 a4 g6 a7 a8 a9 a10 a11 a12 a13 a14 a15 a16 a17 a5 κ0).bind κ = callocT_0L a0 a1 a2 a3 a4 g6 a7 a8 a9 a10 a11 a12 a13 a14 a15 a16 a17 a5 (fun u => (κ0 u).bind κ) := by
  unfold callocT_0L
  refine loopB_bind κ (fun i k => ?_) _ _
  unfold callocT_0B
  first | rfl | (simp only [bind_cond, bind_ret_, bind_op, bind_fail, T.bind_assoc])
def callocT_0_p : Pat := ⟨slotsN 80 0 [(0, .c (.raw (.port))), (2, .c (.int .i64)), (3, .c (.int .i64)), (5, .c (.raw (.ptr 0 0))), (8, .c (.raw (.ptr 1 0))), (10, .c (.int .i64)), (11, .c (.int .i64)), (61, .c (.int .i64)), (62, .c (.int .i64))], [some ⟨[.geo], 24, false, none⟩, some ⟨[.int .i64, .int .i64, .int .u8, .int .u64, .int .u64, .int .u64, .int .u64, .int .u64, .int .i64, .int .i64, .int .i64], 38, false, none⟩]⟩
def callocT_0_e0 : Pat := ⟨slotsN 80 0 [(0, .c (.raw (.port))), (2, .c (.int .i64)), (3, .c (.int .i64)), (5, .c (.raw (.ptr 0 0))), (8, .c (.raw (.ptr 1 0))), (10, .c (.int .i64)), (11, .c (.int .i64))], [some ⟨[.geo], 24, false, none⟩, some ⟨[.int .i64, .int .i64, .int .u8, .int .u64, .int .u64, .int .u64, .int .u64, .int .u64, .int .i64, .int .i64, .int .i64], 38, false, none⟩]⟩
def callocT_0F : St → (Ex → St → T R) → Option (T R) := fun st K => match matchSt callocT_0_p st with
  | some [.i a0, .i a1, .i a2, .i a3, .i a4, .i a5, .g g6, .i a7, .i a8, .i a9, .i a10, .i a11, .i a12, .i a13, .i a14, .i a15, .i a16, .i a17] => some (callocT_0L a0 a1 a2 a3 a4 g6 a7 a8 a9 a10 a11 a12 a13 a14 a15 a16 a17 a5 (fun _ => K (.exit 0) (instSt callocT_0_e0 [.i (a0), .i (a1), .i (a2), .i (a3), .g (g6), .i (a7), .i (a8), .i (a9), .i (a10), .i (a11), .i (a12), .i (a13), .i (a14), .i (a15), .i (a16), .i (a17)])))
  | _ => none
theorem callocT_0Ok : ∀ st K t, callocT_0F st K = some t → loopN fuelN (loopF2 Tryz.prog (lookK ka14) fuelN 0 .no (loopC [1, 1, 1, 1, 1, 1, 0, 1, 0] Tryz.f30) (loopV [1, 1, 1, 1, 1, 1, 0, 1, 0] Tryz.f30) K) st = t := by
  intro st K t h
  unfold callocT_0F at h
  split at h
  · rename_i a0 a1 a2 a3 a4 a5 g6 a7 a8 a9 a10 a11 a12 a13 a14 a15 a16 a17 hm
    cases h
    rw [matchSt_eq hm]
    exact cast (by kernel_rfl) (loop_eq (F := loopF2 Tryz.prog (lookK ka14) fuelN 0 .no (loopC [1, 1, 1, 1, 1, 1, 0, 1, 0] Tryz.f30) (loopV [1, 1, 1, 1, 1, 1, 0, 1, 0] Tryz.f30) K) (S := fun i => instSt callocT_0_p [.i (a0), .i (a1), .i (a2), .i (a3), .i (a4), .i (i), .g (g6), .i (a7), .i (a8), .i (a9), .i (a10), .i (a11), .i (a12), .i (a13), .i (a14), .i (a15), .i (a16), .i (a17)]) (B := callocT_0B a0 a1 a2 a3 a4 g6 a7 a8 a9 a10 a11 a12 a13 a14 a15 a16 a17 (fun _ => K (.exit 0) (instSt callocT_0_e0 [.i (a0), .i (a1), .i (a2), .i (a3), .g (g6), .i (a7), .i (a8), .i (a9), .i (a10), .i (a11), .i (a12), .i (a13), .i (a14), .i (a15), .i (a16), .i (a17)]))) (fun i k => by kernel_rfl) fuelN (a5))
  · cases h
def callocTK {β : Type} (g : Geo) (n : Int) (s : Int) (κ : Res → T β) : T β :=
 bif g.pages == 0 then (κ ⟨(0), (0), (0), (0), (0), (0), (0), (0), (15), (0), (0)⟩) else
 bif decide (n < 0) then (.op (.steps ) fun x2 =>
 (failsT 11 x2).bind fun r3 =>
 κ ⟨(r3.at_), (r3.n), (r3.byte), (r3.c1), (r3.c2), (r3.c3), (r3.c4), (r3.c5), (r3.e), (r3.lin), (r3.touch)⟩) else
 bif decide (s < 0) then (.op (.steps ) fun x3 =>
 (failsT 11 x3).bind fun r4 =>
 κ ⟨(r4.at_), (r4.n), (r4.byte), (r4.c1), (r4.c2), (r4.c3), (r4.c4), (r4.c5), (r4.e), (r4.lin), (r4.touch)⟩) else
 bif decide (s > 0) then (bif bif s == 0 then false else true then (bif decide (n > IntKind.wrap IntKind.i64 (Int.tdiv (IntKind.wrap IntKind.i64 (g.pages * 64)) s)) then (.op (.steps ) fun x6 =>
 (failsT 11 x6).bind fun r7 =>
 κ ⟨(r7.at_), (r7.n), (r7.byte), (r7.c1), (r7.c2), (r7.c3), (r7.c4), (r7.c5), (r7.e), (r7.lin), (r7.touch)⟩) else
 (placeT g (IntKind.wrap IntKind.i64 (n * s)) 1).bind fun r6 =>
 bif r6.snd.2 != 0 then (.op (.steps ) fun x8 =>
 (failsT r6.snd.2 x8).bind fun r9 =>
 κ ⟨(r9.at_), (r9.n), (r9.byte), (r9.c1), (r9.c2), (r9.c3), (r9.c4), (r9.c5), (r9.e), (r9.lin), (r9.touch)⟩) else
 callocT_0L (n) (s) (r6.1) (r6.snd.1) (IntKind.wrap IntKind.i64 (n * s)) (g) (0) (0) (0) (0) (0) (0) (0) (0) (0) (0) (0) (0) (fun y8_0 =>
 (bornT g r6.1 r6.snd.1 (IntKind.wrap IntKind.i64 (n * s))).bind fun r9 =>
 κ ⟨(r9.at_), (r9.n), (r9.byte), (r9.c1), (r9.c2), (r9.c3), (r9.c4), (r9.c5), (r9.e), (r9.lin), (r9.touch)⟩)) else
 .fail) else
 (placeT g (IntKind.wrap IntKind.i64 (n * s)) 1).bind fun r4 =>
 bif r4.snd.2 != 0 then (.op (.steps ) fun x6 =>
 (failsT r4.snd.2 x6).bind fun r7 =>
 κ ⟨(r7.at_), (r7.n), (r7.byte), (r7.c1), (r7.c2), (r7.c3), (r7.c4), (r7.c5), (r7.e), (r7.lin), (r7.touch)⟩) else
 callocT_0L (n) (s) (r4.1) (r4.snd.1) (IntKind.wrap IntKind.i64 (n * s)) (g) (0) (0) (0) (0) (0) (0) (0) (0) (0) (0) (0) (0) (fun y6_0 =>
 (bornT g r4.1 r4.snd.1 (IntKind.wrap IntKind.i64 (n * s))).bind fun r7 =>
 κ ⟨(r7.at_), (r7.n), (r7.byte), (r7.c1), (r7.c2), (r7.c3), (r7.c4), (r7.c5), (r7.e), (r7.lin), (r7.touch)⟩)
def callocT (g : Geo) (n : Int) (s : Int) : T Res := callocTK g n s .ret
theorem callocT_bind {β : Type} (g : Geo) (n : Int) (s : Int) (κ : Res → T β) : (callocT g n s).bind κ = callocTK g n s κ := by
  unfold callocT callocTK
  first | rfl | (simp only [bind_cond, bind_ret_, bind_op, bind_fail, T.bind_assoc, callocT_0L_bind])
def m_alignedT : Sm := fun args H => match args, H with
  | [.c .port, .agg gc, .c (.int .i64 a), .c (.int .i64 s)], [] => (match geoOf gc with
      | some g => some (mkS (Res) (alignedT g a s) fun r => some (.agg r.cells, []))
      | _ => none)
  | _, _ => none
theorem s_m_alignedT {σ : Type} {I : Port Tryz.prog σ} (hl : SoundL I ka14) : SoundF I 22 m_alignedT := by
  refine sound_eq hl 1 Tryz.func22 (by kernel_rfl) (by kernel_rfl) fun args H t ht => ?_
  unfold m_alignedT at ht
  split at ht
  · rename_i gc a s
    split at ht
    · rename_i g hg
      obtain rfl := geoOf_eq hg
      cases ht
      refine Eq.trans ?_ (alignedT_bind g a s _).symm
      kernel_rfl
    · cases ht
  · cases ht
def m_callocT : Sm := fun args H => match args, H with
  | [.c .port, .agg gc, .c (.int .i64 n), .c (.int .i64 s)], [] => (match geoOf gc with
      | some g => some (mkS (Res) (callocT g n s) fun r => some (.agg r.cells, []))
      | _ => none)
  | _, _ => none
theorem callocT_good : Good Tryz.prog (lookK ka14) fuelN 0 (lsAt callocT_0F .no [1, 1, 1, 1, 1, 1, 0, 1, 0]) (Tryz.f30.body.getD .skip) (resMask Tryz.f30.results.toList) := good_fn (body_eq (by kernel_rfl)) good_no callocT_0Ok
theorem s_m_callocT {σ : Type} {I : Port Tryz.prog σ} (hl : SoundL I ka14) : SoundF I 30 m_callocT := by
  refine sound_eq hl fuelN Tryz.func30 (by kernel_rfl) (by kernel_rfl) fun args H t ht => ?_
  unfold m_callocT at ht
  split at ht
  · rename_i gc n s
    split at ht
    · rename_i g hg
      obtain rfl := geoOf_eq hg
      cases ht
      refine (evF2_eq (P := Tryz.prog) (n := fuelN) (x := (lsAt callocT_0F .no [1, 1, 1, 1, 1, 1, 0, 1, 0])) (fn := Tryz.f30) (H := []) (c := Tryz.f30.body.getD .skip) (body_eq (by kernel_rfl)) callocT_good).symm.trans ?_
      refine Eq.trans ?_ (callocT_bind g n s _).symm
      kernel_rfl
    · cases ht
  · cases ht
noncomputable def ka15 : List (Nat × Sm) := (22, m_alignedT) :: (30, m_callocT) :: ka14
theorem s_ka15 {σ : Type} {I : Port Tryz.prog σ} : SoundL I ka15 := (.cons (s_m_alignedT s_ka14) (.cons (s_m_callocT s_ka14) s_ka14))
end Go.Proofs.YtaegelbaghaooaaGreat.Lx
