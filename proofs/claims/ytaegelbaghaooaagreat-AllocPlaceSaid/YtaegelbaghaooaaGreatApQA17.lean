/- Summaries: data, call. (trees printed by program, wip/auto.py) -/
import Derived.Test.YtaegelbaghaooaaGreatApQI2
import Derived.WalkKit
set_option linter.unusedSimpArgs false
set_option linter.unusedVariables false
namespace Go.Proofs.YtaegelbaghaooaaGreat.Lx
open Go
set_option maxRecDepth 1000000
set_option linter.unusedVariables false

def dwriteTK {β : Type} (g : Geo) (a : Int) (o : Int) (b : Int) (κ : Res → T β) : T β :=
  (looksT g a).bind fun r0 =>
  bif !r0.snd.snd.2 then (κ ⟨(r0.snd.snd.1.at_), (r0.snd.snd.1.n), (r0.snd.snd.1.byte), (r0.snd.snd.1.c1), (r0.snd.snd.1.c2), (r0.snd.snd.1.c3), (r0.snd.snd.1.c4), (r0.snd.snd.1.c5), (r0.snd.snd.1.e), (r0.snd.snd.1.lin), (r0.snd.snd.1.touch)⟩) else
   bif decide (o < 0) then ((dtellsT (Res.mk 0 0 0 0 0 0 0 0 14 r0.snd.1.lin 0)).bind fun r3 =>
     κ ⟨(r3.at_), (r3.n), (r3.byte), (r3.c1), (r3.c2), (r3.c3), (r3.c4), (r3.c5), (r3.e), (r3.lin), (r3.touch)⟩) else
    bif decide (o ≥ r0.snd.1.size) then ((dtellsT (Res.mk 0 0 0 0 0 0 0 0 14 r0.snd.1.lin 0)).bind fun r4 =>
      κ ⟨(r4.at_), (r4.n), (r4.byte), (r4.c1), (r4.c2), (r4.c3), (r4.c4), (r4.c5), (r4.e), (r4.lin), (r4.touch)⟩) else
     (dtellsT (Res.mk 0 0 0 0 0 0 0 0 0 r0.snd.1.lin 0)).bind fun r4 =>
      .op (.put (IntKind.wrap IntKind.i64 (a + o)) (b)) fun _ =>
       .op (.steps ) fun x6 =>
        (dtellsT (Res.mk r4.at_ r4.n 0 r4.c1 r4.c2 r4.c3 r4.c4 r4.c5 r4.e r4.lin x6)).bind fun r7 =>
         κ ⟨(r7.at_), (r7.n), (r7.byte), (r7.c1), (r7.c2), (r7.c3), (r7.c4), (r7.c5), (r7.e), (r7.lin), (r7.touch)⟩
def dwriteT (g : Geo) (a : Int) (o : Int) (b : Int) : T Res := dwriteTK g a o b .ret
theorem dwriteT_bind {β : Type} (g : Geo) (a : Int) (o : Int) (b : Int) (κ : Res → T β) : (dwriteT g a o b).bind κ = dwriteTK g a o b κ := by
  unfold dwriteT dwriteTK
  first | rfl | (simp only [bind_cond, bind_ret_, bind_op, bind_fail, T.bind_assoc])
def dreadTK {β : Type} (g : Geo) (a : Int) (o : Int) (κ : Res → T β) : T β :=
  (looksT g a).bind fun r0 =>
  bif !r0.snd.snd.2 then (κ ⟨(r0.snd.snd.1.at_), (r0.snd.snd.1.n), (r0.snd.snd.1.byte), (r0.snd.snd.1.c1), (r0.snd.snd.1.c2), (r0.snd.snd.1.c3), (r0.snd.snd.1.c4), (r0.snd.snd.1.c5), (r0.snd.snd.1.e), (r0.snd.snd.1.lin), (r0.snd.snd.1.touch)⟩) else
   bif decide (o < 0) then ((dtellsT (Res.mk 0 0 0 0 0 0 0 0 14 r0.snd.1.lin 0)).bind fun r3 =>
     κ ⟨(r3.at_), (r3.n), (r3.byte), (r3.c1), (r3.c2), (r3.c3), (r3.c4), (r3.c5), (r3.e), (r3.lin), (r3.touch)⟩) else
    bif decide (o ≥ r0.snd.1.size) then ((dtellsT (Res.mk 0 0 0 0 0 0 0 0 14 r0.snd.1.lin 0)).bind fun r4 =>
      κ ⟨(r4.at_), (r4.n), (r4.byte), (r4.c1), (r4.c2), (r4.c3), (r4.c4), (r4.c5), (r4.e), (r4.lin), (r4.touch)⟩) else
     (dtellsT (Res.mk 0 0 0 0 0 0 0 0 0 r0.snd.1.lin 0)).bind fun r4 =>
      .op (.get (IntKind.wrap IntKind.i64 (a + o))) fun x5 =>
       .op (.steps ) fun x6 =>
        (dtellsT (Res.mk r4.at_ r4.n x5 r4.c1 r4.c2 r4.c3 r4.c4 r4.c5 r4.e r4.lin x6)).bind fun r7 =>
         κ ⟨(r7.at_), (r7.n), (r7.byte), (r7.c1), (r7.c2), (r7.c3), (r7.c4), (r7.c5), (r7.e), (r7.lin), (r7.touch)⟩
def dreadT (g : Geo) (a : Int) (o : Int) : T Res := dreadTK g a o .ret
theorem dreadT_bind {β : Type} (g : Geo) (a : Int) (o : Int) (κ : Res → T β) : (dreadT g a o).bind κ = dreadTK g a o κ := by
  unfold dreadT dreadTK
  first | rfl | (simp only [bind_cond, bind_ret_, bind_op, bind_fail, T.bind_assoc])
def usableT_0B {β : Type} (a0 : Int) (g1 : Geo) (a2 : Int) (a3 : Int) (a4 : Int) (a5 : Int) (a6 : Int) (a7 : Int) (a8 : Int) (a9 : Int) (a10 : Int) (a11 : Int) (a12 : Int) (κ0 : Int → Int → Int → Int → Int → Int → Int → Int → Int → Int → Int → T β) (i : Unit) (k : Unit → T β) : T β :=
  (looksT g1 a0).bind fun r0 =>
  bif !r0.snd.snd.2 then (κ0 (r0.snd.snd.1.at_) (r0.snd.snd.1.n) (r0.snd.snd.1.byte) (r0.snd.snd.1.c1) (r0.snd.snd.1.c2) (r0.snd.snd.1.c3) (r0.snd.snd.1.c4) (r0.snd.snd.1.c5) (r0.snd.snd.1.e) (r0.snd.snd.1.lin) (r0.snd.snd.1.touch)) else
   (findT g1 r0.1).bind fun r2 =>
    (droomT { kind := r2.kind, len := r2.len, cls := r2.cls, owner := r2.owner }).bind fun r3 =>
     .op (.load (atF g1 11 r0.1)) fun x4 =>
      bif x4 == Stt.word { kind := r0.snd.1.kind, size := r0.snd.1.size, other := r0.snd.1.other, ver := r0.snd.1.ver } then (.op (.steps ) fun x6 =>
        (dtellsT   { at_ := 0, n := r3, byte := 0, c1 := 0, c2 := 0, c3 := 0, c4 := 0,     c5 := 0, e := 0, lin := x6, touch := 0 }).bind fun r7 =>
         κ0 (r7.at_) (r7.n) (r7.byte) (r7.c1) (r7.c2) (r7.c3) (r7.c4) (r7.c5) (r7.e) (r7.lin) (r7.touch)) else
       k ()
def usableT_0L {β : Type} (a0 : Int) (g1 : Geo) (a2 : Int) (a3 : Int) (a4 : Int) (a5 : Int) (a6 : Int) (a7 : Int) (a8 : Int) (a9 : Int) (a10 : Int) (a11 : Int) (a12 : Int)  (κ0 : Int → Int → Int → Int → Int → Int → Int → Int → Int → Int → Int → T β) : T β := loopB fuelN (usableT_0B a0 g1 a2 a3 a4 a5 a6 a7 a8 a9 a10 a11 a12 κ0) ()
theorem usableT_0L_bind {β γ : Type} (a0 : Int) (g1 : Geo) (a2 : Int) (a3 : Int) (a4 : Int) (a5 : Int) (a6 : Int) (a7 : Int) (a8 : Int) (a9 : Int) (a10 : Int) (a11 : Int) (a12 : Int)  (κ0 : Int → Int → Int → Int → Int → Int → Int → Int → Int → Int → Int → T β) (κ : β → T γ) : (usableT_0L a0 g1 a2 a3 a4 a5 a6 a7 a8 a9 a10 a11 a12  κ0).bind κ = usableT_0L a0 g1 a2 a3 a4 a5 a6 a7 a8 a9 a10 a11 a12  (fun ae0 ae1 ae2 ae3 ae4 ae5 ae6 ae7 ae8 ae9 ae10 => (κ0 ae0 ae1 ae2 ae3 ae4 ae5 ae6 ae7 ae8 ae9 ae10).bind κ) := by
  unfold usableT_0L
  refine loopB_bind κ (fun i k => ?_) _ _
  unfold usableT_0B
  first | rfl | (simp only [bind_cond, bind_ret_, bind_op, bind_fail, T.bind_assoc])
def usableT_0_p : Pat := ⟨slotsN 47 0 [(0, .c (.raw (.port))), (2, .c (.int .i64)), (4, .c (.raw (.ptr 0 0))), (6, .c (.raw (.ptr 1 0)))], [some ⟨[.geo], 24, false, none⟩, some ⟨[.int .i64, .int .i64, .int .u8, .int .u64, .int .u64, .int .u64, .int .u64, .int .u64, .int .i64, .int .i64, .int .i64], 38, false, none⟩]⟩
def usableT_0_e0 : Pat := ⟨slotsN 47 0 [(6, .c (.raw (.ptr 1 0)))], [none, some ⟨[.int .i64, .int .i64, .int .u8, .int .u64, .int .u64, .int .u64, .int .u64, .int .u64, .int .i64, .int .i64, .int .i64], 38, false, none⟩]⟩
def usableT_0F : St → (Ex → St → T R) → Option (T R) := fun st K => match matchSt usableT_0_p st with
  | some [.i a0, .g g1, .i a2, .i a3, .i a4, .i a5, .i a6, .i a7, .i a8, .i a9, .i a10, .i a11, .i a12] => some (usableT_0L a0 g1 a2 a3 a4 a5 a6 a7 a8 a9 a10 a11 a12  (fun ae0 ae1 ae2 ae3 ae4 ae5 ae6 ae7 ae8 ae9 ae10 => K (.ret) (instSt usableT_0_e0 [.i (ae0), .i (ae1), .i (ae2), .i (ae3), .i (ae4), .i (ae5), .i (ae6), .i (ae7), .i (ae8), .i (ae9), .i (ae10)])))
  | _ => none
theorem usableT_0Ok : ∀ st K t, usableT_0F st K = some t → loopN fuelN (loopF2 Tryz.prog (lookK kI5) fuelN 0 .no (loopC [1, 0] Tryz.f131) (loopV [1, 0] Tryz.f131) K) st = t := by
  intro st K t h
  unfold usableT_0F at h
  split at h
  · rename_i a0 g1 a2 a3 a4 a5 a6 a7 a8 a9 a10 a11 a12 hm
    cases h
    rw [matchSt_eq hm]
    exact cast (by kernel_rfl) (loop_eq (F := loopF2 Tryz.prog (lookK kI5) fuelN 0 .no (loopC [1, 0] Tryz.f131) (loopV [1, 0] Tryz.f131) K) (S := fun i => instSt usableT_0_p [.i (a0), .g (g1), .i (a2), .i (a3), .i (a4), .i (a5), .i (a6), .i (a7), .i (a8), .i (a9), .i (a10), .i (a11), .i (a12)]) (B := usableT_0B a0 g1 a2 a3 a4 a5 a6 a7 a8 a9 a10 a11 a12 (fun ae0 ae1 ae2 ae3 ae4 ae5 ae6 ae7 ae8 ae9 ae10 => K (.ret) (instSt usableT_0_e0 [.i (ae0), .i (ae1), .i (ae2), .i (ae3), .i (ae4), .i (ae5), .i (ae6), .i (ae7), .i (ae8), .i (ae9), .i (ae10)]))) (fun i k => by kernel_rfl) fuelN ())
  · cases h
def usableTK {β : Type} (g : Geo) (a : Int) (κ : Res → T β) : T β :=
  usableT_0L (a) (g) (0) (0) (0) (0) (0) (0) (0) (0) (0) (0) (0) (fun y0_0 y0_1 y0_2 y0_3 y0_4 y0_5 y0_6 y0_7 y0_8 y0_9 y0_10 =>
  κ ⟨(y0_0), (y0_1), (y0_2), (y0_3), (y0_4), (y0_5), (y0_6), (y0_7), (y0_8), (y0_9), (y0_10)⟩)
def usableT (g : Geo) (a : Int) : T Res := usableTK g a .ret
theorem usableT_bind {β : Type} (g : Geo) (a : Int) (κ : Res → T β) : (usableT g a).bind κ = usableTK g a κ := by
  unfold usableT usableTK
  first | rfl | (simp only [bind_cond, bind_ret_, bind_op, bind_fail, T.bind_assoc, usableT_0L_bind])
def renewsTK {β : Type} (g : Geo) (c : Cal) (κ : Res → T β) : T β :=
  (reallocT g c.at_ c.size).bind fun r0 =>
  bif r0.1.e == 0 then ((tresizedT g r0.2 c.size).bind fun r2 =>
    κ ⟨(r0.1.at_), (r0.1.n), (r0.1.byte), (r0.1.c1), (r0.1.c2), (r0.1.c3), (r0.1.c4), (r0.1.c5), (r0.1.e), (r0.1.lin), (r0.1.touch)⟩) else
   (failedT (Res.mk r0.1.at_ r0.1.n r0.1.byte r0.1.c1 r0.1.c2 r0.1.c3 r0.1.c4 r0.1.c5 r0.1.e r0.1.lin r0.1.touch)).bind fun r2 =>
    bif r2 then ((tfailedT g).bind fun r4 =>
      κ ⟨(r0.1.at_), (r0.1.n), (r0.1.byte), (r0.1.c1), (r0.1.c2), (r0.1.c3), (r0.1.c4), (r0.1.c5), (r0.1.e), (r0.1.lin), (r0.1.touch)⟩) else
     κ ⟨(r0.1.at_), (r0.1.n), (r0.1.byte), (r0.1.c1), (r0.1.c2), (r0.1.c3), (r0.1.c4), (r0.1.c5), (r0.1.e), (r0.1.lin), (r0.1.touch)⟩
def renewsT (g : Geo) (c : Cal) : T Res := renewsTK g c .ret
theorem renewsT_bind {β : Type} (g : Geo) (c : Cal) (κ : Res → T β) : (renewsT g c).bind κ = renewsTK g c κ := by
  unfold renewsT renewsTK
  first | rfl | (simp only [bind_cond, bind_ret_, bind_op, bind_fail, T.bind_assoc])
def m_dwriteT : Sm := fun args H => match args, H with
  | [.c .port, .agg gc, .c (.int .i64 a), .c (.int .i64 o), .c (.int .u8 b)], [] => (match geoOf gc with
      | some g => some (mkS (Res) (dwriteT g a o b) fun r => some (.agg r.cells, []))
      | _ => none)
  | _, _ => none
theorem s_m_dwriteT {σ : Type} {I : Port Tryz.prog σ} (hl : SoundL I kI5) : SoundF I 132 m_dwriteT := by
  refine sound_eq hl 1 Tryz.func132 (by kernel_rfl) (by kernel_rfl) fun args H t ht => ?_
  unfold m_dwriteT at ht
  split at ht
  · rename_i gc a o b
    split at ht
    · rename_i g hg
      obtain rfl := geoOf_eq hg
      cases ht
      refine Eq.trans ?_ (dwriteT_bind g a o b _).symm
      kernel_rfl
    · cases ht
  · cases ht
def m_dreadT : Sm := fun args H => match args, H with
  | [.c .port, .agg gc, .c (.int .i64 a), .c (.int .i64 o)], [] => (match geoOf gc with
      | some g => some (mkS (Res) (dreadT g a o) fun r => some (.agg r.cells, []))
      | _ => none)
  | _, _ => none
theorem s_m_dreadT {σ : Type} {I : Port Tryz.prog σ} (hl : SoundL I kI5) : SoundF I 133 m_dreadT := by
  refine sound_eq hl 1 Tryz.func133 (by kernel_rfl) (by kernel_rfl) fun args H t ht => ?_
  unfold m_dreadT at ht
  split at ht
  · rename_i gc a o
    split at ht
    · rename_i g hg
      obtain rfl := geoOf_eq hg
      cases ht
      refine Eq.trans ?_ (dreadT_bind g a o _).symm
      kernel_rfl
    · cases ht
  · cases ht
def m_usableT : Sm := fun args H => match args, H with
  | [.c .port, .agg gc, .c (.int .i64 a)], [] => (match geoOf gc with
      | some g => some (mkS (Res) (usableT g a) fun r => some (.agg r.cells, []))
      | _ => none)
  | _, _ => none
theorem usableT_good : Good Tryz.prog (lookK kI5) fuelN 0 (lsAt usableT_0F .no [1, 0]) (Tryz.f131.body.getD .skip) (resMask Tryz.f131.results.toList) := good_fn (body_eq (by kernel_rfl)) good_no usableT_0Ok
theorem s_m_usableT {σ : Type} {I : Port Tryz.prog σ} (hl : SoundL I kI5) : SoundF I 131 m_usableT := by
  refine sound_eq hl fuelN Tryz.func131 (by kernel_rfl) (by kernel_rfl) fun args H t ht => ?_
  unfold m_usableT at ht
  split at ht
  · rename_i gc a
    split at ht
    · rename_i g hg
      obtain rfl := geoOf_eq hg
      cases ht
      refine (evF2_eq (P := Tryz.prog) (n := fuelN) (x := (lsAt usableT_0F .no [1, 0])) (fn := Tryz.f131) (H := []) (c := Tryz.f131.body.getD .skip) (body_eq (by kernel_rfl)) usableT_good).symm.trans ?_
      refine Eq.trans ?_ (usableT_bind g a _).symm
      kernel_rfl
    · cases ht
  · cases ht
def m_renewsT : Sm := fun args H => match args, H with
  | [.c .port, .agg gc, .agg cc], [] => (match geoOf gc with
      | some g => (match Cal.of cc with
      | some c => some (mkS (Res) (renewsT g c) fun r => some (.agg r.cells, []))
      | _ => none)
      | _ => none)
  | _, _ => none
theorem s_m_renewsT {σ : Type} {I : Port Tryz.prog σ} (hl : SoundL I kI5) : SoundF I 129 m_renewsT := by
  refine sound_eq hl 1 Tryz.func129 (by kernel_rfl) (by kernel_rfl) fun args H t ht => ?_
  unfold m_renewsT at ht
  split at ht
  · rename_i gc cc
    split at ht
    · rename_i g hg
      obtain rfl := geoOf_eq hg
      split at ht
      · rename_i c hc
        obtain rfl := Cal.of_eq hc
        cases ht
        refine Eq.trans ?_ (renewsT_bind g c _).symm
        kernel_rfl
      · cases ht
    · cases ht
  · cases ht
noncomputable def ka17 : List (Nat × Sm) := (132, m_dwriteT) :: (133, m_dreadT) :: (131, m_usableT) :: (129, m_renewsT) :: kI5
theorem s_ka17 {σ : Type} {I : Port Tryz.prog σ} : SoundL I ka17 := (.cons (s_m_dwriteT s_kI5) (.cons (s_m_dreadT s_kI5) (.cons (s_m_usableT s_kI5) (.cons (s_m_renewsT s_kI5) s_kI5))))
end Go.Proofs.YtaegelbaghaooaaGreat.Lx
