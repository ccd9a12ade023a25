/- Summaries: call. (trees printed by program, wip/auto.py) -/
import Derived.Test.YtaegelbaghaooaaGreatApQA17
import Derived.WalkKit
set_option linter.unusedSimpArgs false
set_option linter.unusedVariables false
namespace Go.Proofs.YtaegelbaghaooaaGreat.Lx
open Go
set_option maxRecDepth 1000000
set_option linter.unusedVariables false

def doTK {β : Type} (g : Geo) (c : Cal) (κ : Res → T β) : T β :=
  bif g.pages == 0 then (κ ⟨(0), (0), (0), (0), (0), (0), (0), (0), (1), (0), (0)⟩) else
  .op (.load (atF g 1 0)) fun x1 =>
   bif c.op == 1 then ((mallocT g c.size).bind fun r3 =>
     (takesT g (Cal.mk c.op c.size c.n c.align c.at_ c.off c.byte) (Res.mk r3.at_ r3.n r3.byte r3.c1 r3.c2 r3.c3 r3.c4 r3.c5 r3.e r3.lin r3.touch)).bind fun r4 =>
      κ ⟨(r4.at_), (r4.n), (r4.byte), (r4.c1), (r4.c2), (r4.c3), (r4.c4), (r4.c5), (r4.e), (r4.lin), (r4.touch)⟩) else
    bif c.op == 2 then ((callocT g c.n c.size).bind fun r4 =>
      (takesT g (Cal.mk c.op c.size c.n c.align c.at_ c.off c.byte) (Res.mk r4.at_ r4.n r4.byte r4.c1 r4.c2 r4.c3 r4.c4 r4.c5 r4.e r4.lin r4.touch)).bind fun r5 =>
       κ ⟨(r5.at_), (r5.n), (r5.byte), (r5.c1), (r5.c2), (r5.c3), (r5.c4), (r5.c5), (r5.e), (r5.lin), (r5.touch)⟩) else
     bif c.op == 3 then ((alignedT g c.align c.size).bind fun r5 =>
       (takesT g (Cal.mk c.op c.size c.n c.align c.at_ c.off c.byte) (Res.mk r5.at_ r5.n r5.byte r5.c1 r5.c2 r5.c3 r5.c4 r5.c5 r5.e r5.lin r5.touch)).bind fun r6 =>
        κ ⟨(r6.at_), (r6.n), (r6.byte), (r6.c1), (r6.c2), (r6.c3), (r6.c4), (r6.c5), (r6.e), (r6.lin), (r6.touch)⟩) else
      bif c.op == 4 then ((renewsT g (Cal.mk c.op c.size c.n c.align c.at_ c.off c.byte)).bind fun r6 =>
        κ ⟨(r6.at_), (r6.n), (r6.byte), (r6.c1), (r6.c2), (r6.c3), (r6.c4), (r6.c5), (r6.e), (r6.lin), (r6.touch)⟩) else
       bif c.op == 5 then ((cfreesT g (Cal.mk c.op c.size c.n c.align c.at_ c.off c.byte)).bind fun r7 =>
         κ ⟨(r7.at_), (r7.n), (r7.byte), (r7.c1), (r7.c2), (r7.c3), (r7.c4), (r7.c5), (r7.e), (r7.lin), (r7.touch)⟩) else
        bif c.op == 6 then ((usableT g c.at_).bind fun r8 =>
          κ ⟨(r8.at_), (r8.n), (r8.byte), (r8.c1), (r8.c2), (r8.c3), (r8.c4), (r8.c5), (r8.e), (r8.lin), (r8.touch)⟩) else
         bif c.op == 7 then ((dwriteT g c.at_ c.off c.byte).bind fun r9 =>
           κ ⟨(r9.at_), (r9.n), (r9.byte), (r9.c1), (r9.c2), (r9.c3), (r9.c4), (r9.c5), (r9.e), (r9.lin), (r9.touch)⟩) else
          bif c.op == 8 then ((dreadT g c.at_ c.off).bind fun r10 =>
            κ ⟨(r10.at_), (r10.n), (r10.byte), (r10.c1), (r10.c2), (r10.c3), (r10.c4), (r10.c5), (r10.e), (r10.lin), (r10.touch)⟩) else
           bif c.op == 9 then ((flushT g).bind fun r11 =>
             (toldT (Res.mk 0 0 0 0 0 0 0 0 0 0 0)).bind fun r12 =>
              κ ⟨(r12.at_), (r12.n), (r12.byte), (r12.c1), (r12.c2), (r12.c3), (r12.c4), (r12.c5), (r12.e), (r12.lin), (r12.touch)⟩) else
            bif c.op == 10 then ((trimT g).bind fun r12 =>
              (toldT (Res.mk 0 0 0 0 0 0 0 0 r12 0 0)).bind fun r13 =>
               κ ⟨(r13.at_), (r13.n), (r13.byte), (r13.c1), (r13.c2), (r13.c3), (r13.c4), (r13.c5), (r13.e), (r13.lin), (r13.touch)⟩) else
             bif c.op == 11 then ((treadT g).bind fun r13 =>
               (toldT (Res.mk 0 0 0 r13.allocs r13.frees r13.failures r13.live r13.bytes 0 0 0)).bind fun r14 =>
                κ ⟨(r14.at_), (r14.n), (r14.byte), (r14.c1), (r14.c2), (r14.c3), (r14.c4), (r14.c5), (r14.e), (r14.lin), (r14.touch)⟩) else
              (toldT (Res.mk 0 0 0 0 0 0 0 0 1 0 0)).bind fun r13 =>
               κ ⟨(r13.at_), (r13.n), (r13.byte), (r13.c1), (r13.c2), (r13.c3), (r13.c4), (r13.c5), (r13.e), (r13.lin), (r13.touch)⟩
def doT (g : Geo) (c : Cal) : T Res := doTK g c .ret
theorem doT_bind {β : Type} (g : Geo) (c : Cal) (κ : Res → T β) : (doT g c).bind κ = doTK g c κ := by
  unfold doT doTK
  first | rfl | (simp only [bind_cond, bind_ret_, bind_op, bind_fail, T.bind_assoc])
def m_doT : Sm := fun args H => match args, H with
  | [.c .port, .agg gc, .agg cc], [] => (match geoOf gc with
      | some g => (match Cal.of cc with
      | some c => some (mkS (Res) (doT g c) fun r => some (.agg r.cells, []))
      | _ => none)
      | _ => none)
  | _, _ => none
theorem s_m_doT {σ : Type} {I : Port Tryz.prog σ} (hl : SoundL I ka17) : SoundF I 57 m_doT := by
  refine sound_eq hl 1 Tryz.func57 (by kernel_rfl) (by kernel_rfl) fun args H t ht => ?_
  unfold m_doT at ht
  split at ht
  · rename_i gc cc
    split at ht
    · rename_i g hg
      obtain rfl := geoOf_eq hg
      split at ht
      · rename_i c hc
        obtain rfl := Cal.of_eq hc
        cases ht
        refine Eq.trans ?_ (doT_bind g c _).symm
        kernel_rfl
      · cases ht
    · cases ht
  · cases ht
noncomputable def ka18 : List (Nat × Sm) := (57, m_doT) :: ka17
theorem s_ka18 {σ : Type} {I : Port Tryz.prog σ} : SoundL I ka18 := (.cons (s_m_doT s_ka17) s_ka17)
end Go.Proofs.YtaegelbaghaooaaGreat.Lx
