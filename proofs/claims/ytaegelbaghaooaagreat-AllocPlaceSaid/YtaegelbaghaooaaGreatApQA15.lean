/- Summaries: alloc, renew, data, call. (trees printed by program, wip/auto.py) -/
import Derived.Test.YtaegelbaghaooaaGreatApQA14
import Derived.WalkKit
set_option linter.unusedSimpArgs false
set_option linter.unusedVariables false
namespace Go.Proofs.YtaegelbaghaooaaGreat.Lx
open Go
set_option maxRecDepth 1000000
set_option linter.unusedVariables false

def alignedTK {β : Type} (g : Geo) (a : Int) (s : Int) (κ : Res → T β) : T β :=
  bif g.pages == 0 then (κ ⟨(0), (0), (0), (0), (0), (0), (0), (0), (15), (0), (0)⟩) else
  (placeT g s a).bind fun r1 =>
   bif r1.snd.2 != 0 then (.op (.steps ) fun x3 =>
     (failsT r1.snd.2 x3).bind fun r4 =>
      κ ⟨(r4.at_), (r4.n), (r4.byte), (r4.c1), (r4.c2), (r4.c3), (r4.c4), (r4.c5), (r4.e), (r4.lin), (r4.touch)⟩) else
    (bornT g r1.1 r1.snd.1 s).bind fun r3 =>
     κ ⟨(r3.at_), (r3.n), (r3.byte), (r3.c1), (r3.c2), (r3.c3), (r3.c4), (r3.c5), (r3.e), (r3.lin), (r3.touch)⟩
def alignedT (g : Geo) (a : Int) (s : Int) : T Res := alignedTK g a s .ret
theorem alignedT_bind {β : Type} (g : Geo) (a : Int) (s : Int) (κ : Res → T β) : (alignedT g a s).bind κ = alignedTK g a s κ := by
  unfold alignedT alignedTK
  first | rfl | (simp only [bind_cond, bind_ret_, bind_op, bind_fail, T.bind_assoc])
def callocT_0B {β : Type} (a0 : Int) (a1 : Int) (a2 : Int) (a3 : Int) (a4 : Int) (g6 : Geo) (a7 : Int) (a8 : Int) (a9 : Int) (a10 : Int) (a11 : Int) (a12 : Int) (a13 : Int) (a14 : Int) (a15 : Int) (a16 : Int) (a17 : Int) (κ0 : Unit → T β) (i : Int) (k : Int → T β) : T β :=
  bif decide (i < a4) then (.op (.put (IntKind.wrap IntKind.i64 (IntKind.wrap IntKind.i64 (a2 * 8) + i)) (0)) fun _ =>
   k (IntKind.wrap IntKind.i64 (i + 1))) else
  κ0 ()
def callocT_0L {β : Type} (a0 : Int) (a1 : Int) (a2 : Int) (a3 : Int) (a4 : Int) (g6 : Geo) (a7 : Int) (a8 : Int) (a9 : Int) (a10 : Int) (a11 : Int) (a12 : Int) (a13 : Int) (a14 : Int) (a15 : Int) (a16 : Int) (a17 : Int) (a5 : Int) (κ0 : Unit → T β) : T β := loopB fuelN (callocT_0B a0 a1 a2 a3 a4 g6 a7 a8 a9 a10 a11 a12 a13 a14 a15 a16 a17 κ0) (a5)
theorem callocT_0L_bind {β γ : Type} (a0 : Int) (a1 : Int) (a2 : Int) (a3 : Int) (a4 : Int) (g6 : Geo) (a7 : Int) (a8 : Int) (a9 : Int) (a10 : Int) (a11 : Int) (a12 : Int) (a13 : Int) (a14 : Int) (a15 : Int) (a16 : Int) (a17 : Int) (a5 : Int) (κ0 : Unit → T β) (κ : β → T γ) : (callocT_0L a0 a1 a2 a3 a4 g6 a7 a8 a9 a10 a11 a12 a13 a14 a15 a16 a17 a5 κ0).bind κ = callocT_0L a0 a1 a2 a3 a4 g6 a7 a8 a9 a10 a11 a12 a13 a14 a15 a16 a17 a5 (fun u => (κ0 u).bind κ) := by
  unfold callocT_0L
  refine loopB_bind κ (fun i k => ?_) _ _
  unfold callocT_0B
  first | rfl | (simp only [bind_cond, bind_ret_, bind_op, bind_fail, T.bind_assoc])
def callocT_0_p : Pat := ⟨slotsN 80 0 [(0, .c (.raw (.port))), (2, .c (.int .i64)), (3, .c (.int .i64)), (5, .c (.raw (.ptr 0 0))), (8, .c (.raw (.ptr 1 0))), (10, .c (.int .i64)), (11, .c (.int .i64)), (61, .c (.int .i64)), (62, .c (.int .i64))], [some ⟨[.geo], 24, false, none⟩, some ⟨[.int .i64, .int .i64, .int .u8, .int .u64, .int .u64, .int .u64, .int .u64, .int .u64, .int .i64, .int .i64, .int .i64], 38, false, none⟩]⟩
def callocT_0_e0 : Pat := ⟨slotsN 80 0 [(0, .c (.raw (.port))), (2, .c (.int .i64)), (3, .c (.int .i64)), (5, .c (.raw (.ptr 0 0))), (8, .c (.raw (.ptr 1 0))), (10, .c (.int .i64)), (11, .c (.int .i64))], [some ⟨[.geo], 24, false, none⟩, some ⟨[.int .i64, .int .i64, .int .u8, .int .u64, .int .u64, .int .u64, .int .u64, .int .u64, .int .i64, .int .i64, .int .i64], 38, false, none⟩]⟩
def callocT_0F : St → (Ex → St → T R) → Option (T R) := fun st K => match matchSt callocT_0_p st with
  | some [.i a0, .i a1, .i a2, .i a3, .i a4, .i a5, .g g6, .i a7, .i a8, .i a9, .i a10, .i a11, .i a12, .i a13, .i a14, .i a15, .i a16, .i a17] => some (callocT_0L a0 a1 a2 a3 a4 g6 a7 a8 a9 a10 a11 a12 a13 a14 a15 a16 a17 a5 (fun _ => K (.exit 0) (instSt callocT_0_e0 [.i (a0), .i (a1), .i (a2), .i (a3), .g (g6), .i (a7), .i (a8), .i (a9), .i (a10), .i (a11), .i (a12), .i (a13), .i (a14), .i (a15), .i (a16), .i (a17)])))
  | _ => none
theorem callocT_0Ok : ∀ st K t, callocT_0F st K = some t → loopN fuelN (loopF2 Tryz.prog (lookK ka14) fuelN 0 .no (loopC [1, 1, 1, 1, 1, 1, 0, 1, 0] Tryz.f30) (loopV [1, 1, 1, 1, 1, 1, 0, 1, 0] Tryz.f30) K) st = t := by
  intro st K t h
  unfold callocT_0F at h
  split at h
  · rename_i a0 a1 a2 a3 a4 a5 g6 a7 a8 a9 a10 a11 a12 a13 a14 a15 a16 a17 hm
    cases h
    rw [matchSt_eq hm]
    exact cast (by kernel_rfl) (loop_eq (F := loopF2 Tryz.prog (lookK ka14) fuelN 0 .no (loopC [1, 1, 1, 1, 1, 1, 0, 1, 0] Tryz.f30) (loopV [1, 1, 1, 1, 1, 1, 0, 1, 0] Tryz.f30) K) (S := fun i => instSt callocT_0_p [.i (a0), .i (a1), .i (a2), .i (a3), .i (a4), .i (i), .g (g6), .i (a7), .i (a8), .i (a9), .i (a10), .i (a11), .i (a12), .i (a13), .i (a14), .i (a15), .i (a16), .i (a17)]) (B := callocT_0B a0 a1 a2 a3 a4 g6 a7 a8 a9 a10 a11 a12 a13 a14 a15 a16 a17 (fun _ => K (.exit 0) (instSt callocT_0_e0 [.i (a0), .i (a1), .i (a2), .i (a3), .g (g6), .i (a7), .i (a8), .i (a9), .i (a10), .i (a11), .i (a12), .i (a13), .i (a14), .i (a15), .i (a16), .i (a17)]))) (fun i k => by kernel_rfl) fuelN (a5))
  · cases h
def callocTK {β : Type} (g : Geo) (n : Int) (s : Int) (κ : Res → T β) : T β :=
  bif g.pages == 0 then (κ ⟨(0), (0), (0), (0), (0), (0), (0), (0), (15), (0), (0)⟩) else
  bif decide (n < 0) then (.op (.steps ) fun x2 =>
    (failsT 11 x2).bind fun r3 =>
     κ ⟨(r3.at_), (r3.n), (r3.byte), (r3.c1), (r3.c2), (r3.c3), (r3.c4), (r3.c5), (r3.e), (r3.lin), (r3.touch)⟩) else
   bif decide (s < 0) then (.op (.steps ) fun x3 =>
     (failsT 11 x3).bind fun r4 =>
      κ ⟨(r4.at_), (r4.n), (r4.byte), (r4.c1), (r4.c2), (r4.c3), (r4.c4), (r4.c5), (r4.e), (r4.lin), (r4.touch)⟩) else
    bif decide (s > 0) then (bif bif s == 0 then false else true then (bif decide (n > IntKind.wrap IntKind.i64 (Int.tdiv (IntKind.wrap IntKind.i64 (g.pages * 64)) s)) then (.op (.steps ) fun x6 =>
        (failsT 11 x6).bind fun r7 =>
         κ ⟨(r7.at_), (r7.n), (r7.byte), (r7.c1), (r7.c2), (r7.c3), (r7.c4), (r7.c5), (r7.e), (r7.lin), (r7.touch)⟩) else
       (placeT g (IntKind.wrap IntKind.i64 (n * s)) 1).bind fun r6 =>
        bif r6.snd.2 != 0 then (.op (.steps ) fun x8 =>
          (failsT r6.snd.2 x8).bind fun r9 =>
           κ ⟨(r9.at_), (r9.n), (r9.byte), (r9.c1), (r9.c2), (r9.c3), (r9.c4), (r9.c5), (r9.e), (r9.lin), (r9.touch)⟩) else
         callocT_0L (n) (s) (r6.1) (r6.snd.1) (IntKind.wrap IntKind.i64 (n * s)) (g) (0) (0) (0) (0) (0) (0) (0) (0) (0) (0) (0) (0) (fun y8_0 =>
          (bornT g r6.1 r6.snd.1 (IntKind.wrap IntKind.i64 (n * s))).bind fun r9 =>
           κ ⟨(r9.at_), (r9.n), (r9.byte), (r9.c1), (r9.c2), (r9.c3), (r9.c4), (r9.c5), (r9.e), (r9.lin), (r9.touch)⟩)) else
      .fail) else
     (placeT g (IntKind.wrap IntKind.i64 (n * s)) 1).bind fun r4 =>
      bif r4.snd.2 != 0 then (.op (.steps ) fun x6 =>
        (failsT r4.snd.2 x6).bind fun r7 =>
         κ ⟨(r7.at_), (r7.n), (r7.byte), (r7.c1), (r7.c2), (r7.c3), (r7.c4), (r7.c5), (r7.e), (r7.lin), (r7.touch)⟩) else
       callocT_0L (n) (s) (r4.1) (r4.snd.1) (IntKind.wrap IntKind.i64 (n * s)) (g) (0) (0) (0) (0) (0) (0) (0) (0) (0) (0) (0) (0) (fun y6_0 =>
        (bornT g r4.1 r4.snd.1 (IntKind.wrap IntKind.i64 (n * s))).bind fun r7 =>
         κ ⟨(r7.at_), (r7.n), (r7.byte), (r7.c1), (r7.c2), (r7.c3), (r7.c4), (r7.c5), (r7.e), (r7.lin), (r7.touch)⟩)
def callocT (g : Geo) (n : Int) (s : Int) : T Res := callocTK g n s .ret
theorem callocT_bind {β : Type} (g : Geo) (n : Int) (s : Int) (κ : Res → T β) : (callocT g n s).bind κ = callocTK g n s κ := by
  unfold callocT callocTK
  first | rfl | (simp only [bind_cond, bind_ret_, bind_op, bind_fail, T.bind_assoc, callocT_0L_bind])
def staysTK {β : Type} (g : Geo) (x : Rn) (se : Seen) (rm : Int) (κ : ((Res × Bool) × Rn) → T β) : T β :=
  (resizeT g x.grain (Stt.mk se.kind se.size se.other se.ver) x.size).bind fun r0 =>
  bif !r0 then (κ ((⟨(0), (0), (0), (0), (0), (0), (0), (0), (0), (0), (0)⟩, (false)), ⟨(x.grain), (x.size), (x.to), (x.usable), (x.has)⟩)) else
   .op (.steps ) fun x2 =>
    (rtoldT g (Rn.mk x.grain x.size x.to x.usable x.has) (Res.mk (IntKind.wrap IntKind.i64 (x.grain * 8)) rm 0 0 0 0 0 0 0 x2 0)).bind fun r3 =>
     (dropsT g (Rn.mk r3.2.grain r3.2.size r3.2.to r3.2.usable r3.2.has)).bind fun r4 =>
      κ ((⟨(r3.1.at_), (r3.1.n), (r3.1.byte), (r3.1.c1), (r3.1.c2), (r3.1.c3), (r3.1.c4), (r3.1.c5), (r3.1.e), (r3.1.lin), (r3.1.touch)⟩, (true)), ⟨(r4.2.grain), (r4.2.size), (r4.2.to), (r4.2.usable), (r4.2.has)⟩)
def staysT (g : Geo) (x : Rn) (se : Seen) (rm : Int) : T ((Res × Bool) × Rn) := staysTK g x se rm .ret
theorem staysT_bind {β : Type} (g : Geo) (x : Rn) (se : Seen) (rm : Int) (κ : ((Res × Bool) × Rn) → T β) : (staysT g x se rm).bind κ = staysTK g x se rm κ := by
  unfold staysT staysTK
  first | rfl | (simp only [bind_cond, bind_ret_, bind_op, bind_fail, T.bind_assoc])
def goesTK {β : Type} (g : Geo) (x : Rn) (se : Seen) (κ : ((Res × Bool) × Rn) → T β) : T β :=
  bif !x.has then ((placeT g x.size 1).bind fun r1 =>
   bif r1.snd.2 != 0 then ((rtoldT g (Rn.mk x.grain x.size x.to x.usable x.has) (Res.mk 0 0 0 0 0 0 0 0 r1.snd.2 se.lin 0)).bind fun r3 =>
     κ ((⟨(r3.1.at_), (r3.1.n), (r3.1.byte), (r3.1.c1), (r3.1.c2), (r3.1.c3), (r3.1.c4), (r3.1.c5), (r3.1.e), (r3.1.lin), (r3.1.touch)⟩, (true)), ⟨(r3.2.grain), (r3.2.size), (r3.2.to), (r3.2.usable), (r3.2.has)⟩)) else
    (copiesT g (Rn.mk x.grain x.size r1.1 r1.snd.1 true) (if x.size < se.size then x.size else se.size)).bind fun r3 =>
     (promiseT g r3.2.to r3.2.grain r3.2.size).bind fun r4 =>
      (moveT g r3.2.grain (Stt.mk se.kind se.size se.other se.ver) r3.2.to r4).bind fun r5 =>
       bif !r5 then ((abortT g r3.2.to).bind fun r7 =>
         κ ((⟨(0), (0), (0), (0), (0), (0), (0), (0), (0), (0), (0)⟩, (false)), ⟨(r3.2.grain), (r3.2.size), (r3.2.to), (r3.2.usable), (r3.2.has)⟩)) else
        .op (.steps ) fun x7 =>
         (rtoldT g (Rn.mk r3.2.grain r3.2.size r3.2.to r3.2.usable r3.2.has) (Res.mk (IntKind.wrap IntKind.i64 (r3.2.to * 8)) r3.2.usable 0 0 0 0 0 0 0 x7 0)).bind fun r8 =>
          (settleT g r8.2.to r8.2.grain r8.2.size r4).bind fun r9 =>
           (releaseT g r8.2.grain).bind fun r10 =>
            κ ((⟨(r8.1.at_), (r8.1.n), (r8.1.byte), (r8.1.c1), (r8.1.c2), (r8.1.c3), (r8.1.c4), (r8.1.c5), (r8.1.e), (r8.1.lin), (r8.1.touch)⟩, (true)), ⟨(r8.2.grain), (r8.2.size), (r8.2.to), (r8.2.usable), (r8.2.has)⟩)) else
  (copiesT g (Rn.mk x.grain x.size x.to x.usable x.has) (if x.size < se.size then x.size else se.size)).bind fun r1 =>
   (promiseT g r1.2.to r1.2.grain r1.2.size).bind fun r2 =>
    (moveT g r1.2.grain (Stt.mk se.kind se.size se.other se.ver) r1.2.to r2).bind fun r3 =>
     bif !r3 then ((abortT g r1.2.to).bind fun r5 =>
       κ ((⟨(0), (0), (0), (0), (0), (0), (0), (0), (0), (0), (0)⟩, (false)), ⟨(r1.2.grain), (r1.2.size), (r1.2.to), (r1.2.usable), (r1.2.has)⟩)) else
      .op (.steps ) fun x5 =>
       (rtoldT g (Rn.mk r1.2.grain r1.2.size r1.2.to r1.2.usable r1.2.has) (Res.mk (IntKind.wrap IntKind.i64 (r1.2.to * 8)) r1.2.usable 0 0 0 0 0 0 0 x5 0)).bind fun r6 =>
        (settleT g r6.2.to r6.2.grain r6.2.size r2).bind fun r7 =>
         (releaseT g r6.2.grain).bind fun r8 =>
          κ ((⟨(r6.1.at_), (r6.1.n), (r6.1.byte), (r6.1.c1), (r6.1.c2), (r6.1.c3), (r6.1.c4), (r6.1.c5), (r6.1.e), (r6.1.lin), (r6.1.touch)⟩, (true)), ⟨(r6.2.grain), (r6.2.size), (r6.2.to), (r6.2.usable), (r6.2.has)⟩)
def goesT (g : Geo) (x : Rn) (se : Seen) : T ((Res × Bool) × Rn) := goesTK g x se .ret
theorem goesT_bind {β : Type} (g : Geo) (x : Rn) (se : Seen) (κ : ((Res × Bool) × Rn) → T β) : (goesT g x se).bind κ = goesTK g x se κ := by
  unfold goesT goesTK
  first | rfl | (simp only [bind_cond, bind_ret_, bind_op, bind_fail, T.bind_assoc])
def cfreesTK {β : Type} (g : Geo) (c : Cal) (κ : Res → T β) : T β :=
  (afreeT g c.at_).bind fun r0 =>
  bif r0.e == 0 then ((tfreedT g r0.n).bind fun r2 =>
    κ ⟨(r0.at_), (r0.n), (r0.byte), (r0.c1), (r0.c2), (r0.c3), (r0.c4), (r0.c5), (r0.e), (r0.lin), (r0.touch)⟩) else
   κ ⟨(r0.at_), (r0.n), (r0.byte), (r0.c1), (r0.c2), (r0.c3), (r0.c4), (r0.c5), (r0.e), (r0.lin), (r0.touch)⟩
def cfreesT (g : Geo) (c : Cal) : T Res := cfreesTK g c .ret
theorem cfreesT_bind {β : Type} (g : Geo) (c : Cal) (κ : Res → T β) : (cfreesT g c).bind κ = cfreesTK g c κ := by
  unfold cfreesT cfreesTK
  first | rfl | (simp only [bind_cond, bind_ret_, bind_op, bind_fail, T.bind_assoc])
def m_alignedT : Sm := fun args H => match args, H with
  | [.c .port, .agg gc, .c (.int .i64 a), .c (.int .i64 s)], [] => (match geoOf gc with
      | some g => some (mkS (Res) (alignedT g a s) fun r => some (.agg r.cells, []))
      | _ => none)
  | _, _ => none
theorem s_m_alignedT {σ : Type} {I : Port Tryz.prog σ} (hl : SoundL I ka14) : SoundF I 22 m_alignedT := by
  refine sound_eq hl 1 Tryz.func22 (by kernel_rfl) (by kernel_rfl) fun args H t ht => ?_
  unfold m_alignedT at ht
  split at ht
  · rename_i gc a s
    split at ht
    · rename_i g hg
      obtain rfl := geoOf_eq hg
      cases ht
      refine Eq.trans ?_ (alignedT_bind g a s _).symm
      kernel_rfl
    · cases ht
  · cases ht
def m_callocT : Sm := fun args H => match args, H with
  | [.c .port, .agg gc, .c (.int .i64 n), .c (.int .i64 s)], [] => (match geoOf gc with
      | some g => some (mkS (Res) (callocT g n s) fun r => some (.agg r.cells, []))
      | _ => none)
  | _, _ => none
theorem callocT_good : Good Tryz.prog (lookK ka14) fuelN 0 (lsAt callocT_0F .no [1, 1, 1, 1, 1, 1, 0, 1, 0]) (Tryz.f30.body.getD .skip) (resMask Tryz.f30.results.toList) := good_fn (body_eq (by kernel_rfl)) good_no callocT_0Ok
theorem s_m_callocT {σ : Type} {I : Port Tryz.prog σ} (hl : SoundL I ka14) : SoundF I 30 m_callocT := by
  refine sound_eq hl fuelN Tryz.func30 (by kernel_rfl) (by kernel_rfl) fun args H t ht => ?_
  unfold m_callocT at ht
  split at ht
  · rename_i gc n s
    split at ht
    · rename_i g hg
      obtain rfl := geoOf_eq hg
      cases ht
      refine (evF2_eq (P := Tryz.prog) (n := fuelN) (x := (lsAt callocT_0F .no [1, 1, 1, 1, 1, 1, 0, 1, 0])) (fn := Tryz.f30) (H := []) (c := Tryz.f30.body.getD .skip) (body_eq (by kernel_rfl)) callocT_good).symm.trans ?_
      refine Eq.trans ?_ (callocT_bind g n s _).symm
      kernel_rfl
    · cases ht
  · cases ht
def m_staysT : Sm := fun args H => match args, H with
  | [.c (.ptr 0 0), .agg sec, .c (.int .i64 rm)], [some ⟨.port :: gc, 179, false, none⟩] => (match rnOf gc with
      | some (g, x) => (match Seen.of sec with
      | some se => some (mkS (((Res × Bool) × Rn)) (staysT g x se rm) fun r => some (.tup [.agg r.1.1.cells, .c (.bool r.1.2)], [some ⟨.port :: (g.cells ++ r.2.cells), 179, false, none⟩]))
      | _ => none)
      | _ => none)
  | _, _ => none
theorem s_m_staysT {σ : Type} {I : Port Tryz.prog σ} (hl : SoundL I ka14) : SoundF I 118 m_staysT := by
  refine sound_eq hl 1 Tryz.func118 (by kernel_rfl) (by kernel_rfl) fun args H t ht => ?_
  unfold m_staysT at ht
  split at ht
  · rename_i sec rm gc
    split at ht
    · rename_i g x hg
      obtain rfl := rnOf_eq hg
      split at ht
      · rename_i se hse
        obtain rfl := Seen.of_eq hse
        cases ht
        refine Eq.trans ?_ (staysT_bind g x se rm _).symm
        kernel_rfl
      · cases ht
    · cases ht
  · cases ht
def m_goesT : Sm := fun args H => match args, H with
  | [.c (.ptr 0 0), .agg sec], [some ⟨.port :: gc, 179, false, none⟩] => (match rnOf gc with
      | some (g, x) => (match Seen.of sec with
      | some se => some (mkS (((Res × Bool) × Rn)) (goesT g x se) fun r => some (.tup [.agg r.1.1.cells, .c (.bool r.1.2)], [some ⟨.port :: (g.cells ++ r.2.cells), 179, false, none⟩]))
      | _ => none)
      | _ => none)
  | _, _ => none
theorem s_m_goesT {σ : Type} {I : Port Tryz.prog σ} (hl : SoundL I ka14) : SoundF I 119 m_goesT := by
  refine sound_eq hl 1 Tryz.func119 (by kernel_rfl) (by kernel_rfl) fun args H t ht => ?_
  unfold m_goesT at ht
  split at ht
  · rename_i sec gc
    split at ht
    · rename_i g x hg
      obtain rfl := rnOf_eq hg
      split at ht
      · rename_i se hse
        obtain rfl := Seen.of_eq hse
        cases ht
        refine Eq.trans ?_ (goesT_bind g x se _).symm
        kernel_rfl
      · cases ht
    · cases ht
  · cases ht
def m_cfreesT : Sm := fun args H => match args, H with
  | [.c .port, .agg gc, .agg cc], [] => (match geoOf gc with
      | some g => (match Cal.of cc with
      | some c => some (mkS (Res) (cfreesT g c) fun r => some (.agg r.cells, []))
      | _ => none)
      | _ => none)
  | _, _ => none
theorem s_m_cfreesT {σ : Type} {I : Port Tryz.prog σ} (hl : SoundL I ka14) : SoundF I 130 m_cfreesT := by
  refine sound_eq hl 1 Tryz.func130 (by kernel_rfl) (by kernel_rfl) fun args H t ht => ?_
  unfold m_cfreesT at ht
  split at ht
  · rename_i gc cc
    split at ht
    · rename_i g hg
      obtain rfl := geoOf_eq hg
      split at ht
      · rename_i c hc
        obtain rfl := Cal.of_eq hc
        cases ht
        refine Eq.trans ?_ (cfreesT_bind g c _).symm
        kernel_rfl
      · cases ht
    · cases ht
  · cases ht
noncomputable def ka15 : List (Nat × Sm) := (22, m_alignedT) :: (30, m_callocT) :: (118, m_staysT) :: (119, m_goesT) :: (130, m_cfreesT) :: ka14
theorem s_ka15 {σ : Type} {I : Port Tryz.prog σ} : SoundL I ka15 := (.cons (s_m_alignedT s_ka14) (.cons (s_m_callocT s_ka14) (.cons (s_m_staysT s_ka14) (.cons (s_m_goesT s_ka14) (.cons (s_m_cfreesT s_ka14) s_ka14)))))
end Go.Proofs.YtaegelbaghaooaaGreat.Lx
