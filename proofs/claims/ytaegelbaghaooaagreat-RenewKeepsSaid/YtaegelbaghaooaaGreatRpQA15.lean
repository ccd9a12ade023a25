/- Summaries: alloc, renew, data, call. (trees printed by program, wip/auto.py) -/
import Derived.Test.YtaegelbaghaooaaGreatRpQA14
import Derived.WalkKit
set_option linter.unusedSimpArgs false
set_option linter.unusedVariables false
set_option linter.unusedSectionVars false
namespace Go.Proofs.YtaegelbaghaooaaGreat.Lx
open Go
set_option maxRecDepth 1000000

def alignedTK {β : Type} (g : Geo) (a s : Int) (κ : Res → T β) : T β :=
 bif g.pages == 0 then (κ ⟨(0), (0), (0), (0), (0), (0), (0), (0), (15), (0), (0)⟩) else
 (placeT g s a).bind fun r1 =>
 bif r1.snd.2 != 0 then (.op (.steps ) fun x3 =>
 (failsT r1.snd.2 x3).bind fun r4 =>
 κ ⟨(r4.at_), (r4.n), (r4.byte), (r4.c1), (r4.c2), (r4.c3), (r4.c4), (r4.c5), (r4.e), (r4.lin), (r4.touch)⟩) else
 (bornT g r1.1 r1.snd.1 s).bind fun r3 =>
 κ ⟨(r3.at_), (r3.n), (r3.byte), (r3.c1), (r3.c2), (r3.c3), (r3.c4), (r3.c5), (r3.e), (r3.lin), (r3.touch)⟩
def alignedT (g : Geo) (a s : Int) : T Res := alignedTK g a s .ret
theorem alignedT_bind {β : Type} (g : Geo) (a s : Int) (κ : Res → T β) : (alignedT g a s).bind κ = alignedTK g a s κ := by
 unfold alignedT alignedTK
 first | rfl | (simp only [bind_cond, bind_ret_, bind_op, bind_fail, T.bind_assoc])
def staysTK {β : Type} (g : Geo) (x : Rn) (se : Seen) (rm : Int) (κ : ((Res × Bool) × Rn) → T β) : T β :=
 (resizeT g x.grain (Stt.mk se.kind se.size se.other se.ver) x.size).bind fun r0 =>
 bif !r0 then (κ ((⟨(0), (0), (0), (0), (0), (0), (0), (0), (0), (0), (0)⟩, (false)), ⟨(x.grain), (x.size), (x.to), (x.usable), (x.has)⟩)) else
 .op (.steps ) fun x2 =>
 (rtoldT g (Rn.mk x.grain x.size x.to x.usable x.has) (Res.mk (IntKind.i64.wrap (x.grain * 8)) rm 0 0 0 0 0 0 0 x2 0)).bind fun r3 =>
 (dropsT g (Rn.mk r3.2.grain r3.2.size r3.2.to r3.2.usable r3.2.has)).bind fun r4 =>
 κ ((⟨(r3.1.at_), (r3.1.n), (r3.1.byte), (r3.1.c1), (r3.1.c2), (r3.1.c3), (r3.1.c4), (r3.1.c5), (r3.1.e), (r3.1.lin), (r3.1.touch)⟩, (true)), ⟨(r4.2.grain), (r4.2.size), (r4.2.to), (r4.2.usable), (r4.2.has)⟩)
def staysT (g : Geo) (x : Rn) (se : Seen) (rm : Int) : T ((Res × Bool) × Rn) := staysTK g x se rm .ret
theorem staysT_bind {β : Type} (g : Geo) (x : Rn) (se : Seen) (rm : Int) (κ : ((Res × Bool) × Rn) → T β) : (staysT g x se rm).bind κ = staysTK g x se rm κ := by
 unfold staysT staysTK
 first | rfl | (simp only [bind_cond, bind_ret_, bind_op, bind_fail, T.bind_assoc])
def goesTK {β : Type} (g : Geo) (x : Rn) (se : Seen) (κ : ((Res × Bool) × Rn) → T β) : T β :=
 bif !x.has then ((placeT g x.size 1).bind fun r1 =>
 bif r1.snd.2 != 0 then ((rtoldT g (Rn.mk x.grain x.size x.to x.usable x.has) (Res.mk 0 0 0 0 0 0 0 0 r1.snd.2 se.lin 0)).bind fun r3 =>
 κ ((⟨(r3.1.at_), (r3.1.n), (r3.1.byte), (r3.1.c1), (r3.1.c2), (r3.1.c3), (r3.1.c4), (r3.1.c5), (r3.1.e), (r3.1.lin), (r3.1.touch)⟩, (true)), ⟨(r3.2.grain), (r3.2.size), (r3.2.to), (r3.2.usable), (r3.2.has)⟩)) else
 (copiesT g (Rn.mk x.grain x.size r1.1 r1.snd.1 true) (if x.size < se.size then x.size else se.size)).bind fun r3 =>
 (promiseT g r3.2.to r3.2.grain r3.2.size).bind fun r4 =>
 (moveT g r3.2.grain (Stt.mk se.kind se.size se.other se.ver) r3.2.to r4).bind fun r5 =>
 bif !r5 then ((abortT g r3.2.to).bind fun r7 =>
 κ ((⟨(0), (0), (0), (0), (0), (0), (0), (0), (0), (0), (0)⟩, (false)), ⟨(r3.2.grain), (r3.2.size), (r3.2.to), (r3.2.usable), (r3.2.has)⟩)) else
 .op (.steps ) fun x7 =>
 (rtoldT g (Rn.mk r3.2.grain r3.2.size r3.2.to r3.2.usable r3.2.has) (Res.mk (IntKind.i64.wrap (r3.2.to * 8)) r3.2.usable 0 0 0 0 0 0 0 x7 0)).bind fun r8 =>
 (settleT g r8.2.to r8.2.grain r8.2.size r4).bind fun r9 =>
 (releaseT g r8.2.grain).bind fun r10 =>
 κ ((⟨(r8.1.at_), (r8.1.n), (r8.1.byte), (r8.1.c1), (r8.1.c2), (r8.1.c3), (r8.1.c4), (r8.1.c5), (r8.1.e), (r8.1.lin), (r8.1.touch)⟩, (true)), ⟨(r8.2.grain), (r8.2.size), (r8.2.to), (r8.2.usable), (r8.2.has)⟩)) else
 (copiesT g (Rn.mk x.grain x.size x.to x.usable x.has) (if x.size < se.size then x.size else se.size)).bind fun r1 =>
 (promiseT g r1.2.to r1.2.grain r1.2.size).bind fun r2 =>
 (moveT g r1.2.grain (Stt.mk se.kind se.size se.other se.ver) r1.2.to r2).bind fun r3 =>
 bif !r3 then ((abortT g r1.2.to).bind fun r5 =>
 κ ((⟨(0), (0), (0), (0), (0), (0), (0), (0), (0), (0), (0)⟩, (false)), ⟨(r1.2.grain), (r1.2.size), (r1.2.to), (r1.2.usable), (r1.2.has)⟩)) else
 .op (.steps ) fun x5 =>
 (rtoldT g (Rn.mk r1.2.grain r1.2.size r1.2.to r1.2.usable r1.2.has) (Res.mk (IntKind.i64.wrap (r1.2.to * 8)) r1.2.usable 0 0 0 0 0 0 0 x5 0)).bind fun r6 =>
 (settleT g r6.2.to r6.2.grain r6.2.size r2).bind fun r7 =>
 (releaseT g r6.2.grain).bind fun r8 =>
 κ ((⟨(r6.1.at_), (r6.1.n), (r6.1.byte), (r6.1.c1), (r6.1.c2), (r6.1.c3), (r6.1.c4), (r6.1.c5), (r6.1.e), (r6.1.lin), (r6.1.touch)⟩, (true)), ⟨(r6.2.grain), (r6.2.size), (r6.2.to), (r6.2.usable), (r6.2.has)⟩)
def goesT (g : Geo) (x : Rn) (se : Seen) : T ((Res × Bool) × Rn) := goesTK g x se .ret
theorem goesT_bind {β : Type} (g : Geo) (x : Rn) (se : Seen) (κ : ((Res × Bool) × Rn) → T β) : (goesT g x se).bind κ = goesTK g x se κ := by
 unfold goesT goesTK
 first | rfl | (simp only [bind_cond, bind_ret_, bind_op, bind_fail, T.bind_assoc])
def m_alignedT : Sm := fun args H => match args, H with
 | [.c .port, .agg gc, .c (.int .i64 a), .c (.int .i64 s)], [] => (match geoOf gc with
   | some g => some (mkS (Res) (alignedT g a s) fun r => some (.agg r.cells, []))
   | _ => none)
 | _, _ => none
variable {σ : Type} {I : Port Tryz.prog σ}
theorem s_m_alignedT (hl : SoundL I ka14) : SoundF I 22 m_alignedT := by
 refine sq hl 1 Tryz.func22 fun args H t ht => ?_
 unfold m_alignedT at ht
 split at ht
 ·rename_i gc a s
  split at ht
  ·rename_i g hg
   obtain rfl := geoOf_eq hg
   cases ht
   refine Eq.trans ?_ (alignedT_bind g a s _).symm
   kernel_rfl
  ·cases ht
 ·cases ht
def m_staysT : Sm := fun args H => match args, H with
 | [.c (.ptr 0 0), .agg sec, .c (.int .i64 rm)], [some ⟨.port :: gc, 179, false, none⟩] => (match rnOf gc with
   | some (g, x) => (match Seen.of sec with
   | some se => some (mkS (((Res × Bool) × Rn)) (staysT g x se rm) fun r => some (.tup [.agg r.1.1.cells, .c (.bool r.1.2)], [some ⟨.port :: (g.cells ++ r.2.cells), 179, false, none⟩]))
   | _ => none)
   | _ => none)
 | _, _ => none
theorem s_m_staysT (hl : SoundL I ka14) : SoundF I 118 m_staysT := by
 refine sq hl 1 Tryz.func118 fun args H t ht => ?_
 unfold m_staysT at ht
 split at ht
 ·rename_i sec rm gc
  split at ht
  ·rename_i g x hg
   obtain rfl := rnOf_eq hg
   split at ht
   ·rename_i se hse
    obtain rfl := Seen.of_eq hse
    cases ht
    refine Eq.trans ?_ (staysT_bind g x se rm _).symm
    kernel_rfl
   ·cases ht
  ·cases ht
 ·cases ht
def m_goesT : Sm := fun args H => match args, H with
 | [.c (.ptr 0 0), .agg sec], [some ⟨.port :: gc, 179, false, none⟩] => (match rnOf gc with
   | some (g, x) => (match Seen.of sec with
   | some se => some (mkS (((Res × Bool) × Rn)) (goesT g x se) fun r => some (.tup [.agg r.1.1.cells, .c (.bool r.1.2)], [some ⟨.port :: (g.cells ++ r.2.cells), 179, false, none⟩]))
   | _ => none)
   | _ => none)
 | _, _ => none
theorem s_m_goesT (hl : SoundL I ka14) : SoundF I 119 m_goesT := by
 refine sq hl 1 Tryz.func119 fun args H t ht => ?_
 unfold m_goesT at ht
 split at ht
 ·rename_i sec gc
  split at ht
  ·rename_i g x hg
   obtain rfl := rnOf_eq hg
   split at ht
   ·rename_i se hse
    obtain rfl := Seen.of_eq hse
    cases ht
    refine Eq.trans ?_ (goesT_bind g x se _).symm
    kernel_rfl
   ·cases ht
  ·cases ht
 ·cases ht
noncomputable def ka15 : List (Nat × Sm) := (22, m_alignedT) :: (118, m_staysT) :: (119, m_goesT) :: ka14
theorem s_ka15 : SoundL I ka15 := (.cons (s_m_alignedT s_ka14) (.cons (s_m_staysT s_ka14) (.cons (s_m_goesT s_ka14) s_ka14)))
end Go.Proofs.YtaegelbaghaooaaGreat.Lx
