/- Summaries: alloc, renew, data, call. (trees printed by program, wip/auto.py) -/
import Derived.Test.YtaegelbaghaooaaGreatRpQA13
import Derived.WalkKit
set_option linter.unusedSimpArgs false
set_option linter.unusedVariables false
set_option linter.unusedSectionVars false
namespace Go.Proofs.YtaegelbaghaooaaGreat.Lx
open Go
set_option maxRecDepth 1000000

def placeTK {β : Type} (g : Geo) (s a : Int) (κ : (Int × Int × Int) → T β) : T β :=
 bif g.pages == 0 then (κ ((0), (0), (15))) else
 bif decide (s < 1) then (κ ((0), (0), (11))) else
 bif decide (s > IntKind.i64.wrap (g.pages * 64)) then (κ ((0), (0), (11))) else
 (apowerT a).bind fun r3 =>
 bif !r3 then (κ ((0), (0), (12))) else
 (cofT s a).bind fun r5 =>
 bif decide (r5 ≥ 0) then ((obtainT g r5).bind fun r7 =>
 bif decide (0 ≤ r5 ∧ r5 < 4) then (bif r7.2 != 0 then (κ ((0), (0), (r7.2))) else
 κ ((r7.1), (bif r5 == 0 then (8 : Int) else bif r5 == 1 then (16 : Int) else bif r5 == 2 then (24 : Int) else (32 : Int)), (0))) else
 .fail) else
 (cpagesT2 s).bind fun r7 =>
 (pagesT g r7 (if IntKind.i64.wrap (Int.tdiv a 64) < 1 then (1 : Int) else IntKind.i64.wrap (Int.tdiv a 64))).bind fun r8 =>
 bif r8.2 != 0 then (κ ((0), (0), (r8.2))) else
 κ ((r8.1), (IntKind.i64.wrap (r7 * 64)), (0))
def placeT (g : Geo) (s a : Int) : T (Int × Int × Int) := placeTK g s a .ret
theorem placeT_bind {β : Type} (g : Geo) (s a : Int) (κ : (Int × Int × Int) → T β) : (placeT g s a).bind κ = placeTK g s a κ := by
 unfold placeT placeTK
 first | rfl | (simp only [bind_cond, bind_ret_, bind_op, bind_fail, T.bind_assoc])
def dropsTK {β : Type} (g : Geo) (x : Rn) (κ : (Unit × Rn) → T β) : T β :=
 bif x.has then ((releaseT g x.to).bind fun r1 =>
 κ ((), ⟨(x.grain), (x.size), (x.to), (x.usable), (false)⟩)) else
 κ ((), ⟨(x.grain), (x.size), (x.to), (x.usable), (false)⟩)
def dropsT (g : Geo) (x : Rn) : T (Unit × Rn) := dropsTK g x .ret
theorem dropsT_bind {β : Type} (g : Geo) (x : Rn) (κ : (Unit × Rn) → T β) : (dropsT g x).bind κ = dropsTK g x κ := by
 unfold dropsT dropsTK
 first | rfl | (simp only [bind_cond, bind_ret_, bind_op, bind_fail, T.bind_assoc])
def afreeTK {β : Type} (g : Geo) (a : Int) (κ : Res → T β) : T β :=
 bif g.pages == 0 then (κ ⟨(0), (0), (0), (0), (0), (0), (0), (0), (15), (0), (0)⟩) else
 bif decide (a < 0) then (.op (.steps ) fun x2 =>
 (failsT 13 x2).bind fun r3 =>
 κ ⟨(r3.at_), (r3.n), (r3.byte), (r3.c1), (r3.c2), (r3.c3), (r3.c4), (r3.c5), (r3.e), (r3.lin), (r3.touch)⟩) else
 bif decide (a ≥ IntKind.i64.wrap (g.pages * 64)) then (.op (.steps ) fun x3 =>
 (failsT 13 x3).bind fun r4 =>
 κ ⟨(r4.at_), (r4.n), (r4.byte), (r4.c1), (r4.c2), (r4.c3), (r4.c4), (r4.c5), (r4.e), (r4.lin), (r4.touch)⟩) else
 bif Int.tmod a 8 != 0 then (.op (.steps ) fun x4 =>
 (failsT 13 x4).bind fun r5 =>
 κ ⟨(r5.at_), (r5.n), (r5.byte), (r5.c1), (r5.c2), (r5.c3), (r5.c4), (r5.c5), (r5.e), (r5.lin), (r5.touch)⟩) else
 (deathT g (IntKind.i64.wrap (Int.tdiv a 8))).bind fun r4 =>
 bif !r4.live then ((failsT 13 r4.lin).bind fun r6 =>
 κ ⟨(r6.at_), (r6.n), (r6.byte), (r6.c1), (r6.c2), (r6.c3), (r6.c4), (r6.c5), (r6.e), (r6.lin), (r6.touch)⟩) else
 .op (.tell [.int .i64 (0), .int .i64 (r4.size), .int .u8 (0), .int .u64 (0), .int .u64 (0), .int .u64 (0), .int .u64 (0), .int .u64 (0), .int .i64 (0), .int .i64 (r4.lin), .int .i64 (0)]) fun _ =>
 (releaseT g (IntKind.i64.wrap (Int.tdiv a 8))).bind fun r7 =>
 κ ⟨(0), (r4.size), (0), (0), (0), (0), (0), (0), (0), (r4.lin), (0)⟩
def afreeT (g : Geo) (a : Int) : T Res := afreeTK g a .ret
theorem afreeT_bind {β : Type} (g : Geo) (a : Int) (κ : Res → T β) : (afreeT g a).bind κ = afreeTK g a κ := by
 unfold afreeT afreeTK
 first | rfl | (simp only [bind_cond, bind_ret_, bind_op, bind_fail, T.bind_assoc])
def m_placeT : Sm := fun args H => match args, H with
 | [.c .port, .agg gc, .c (.int .i64 s), .c (.int .i64 a)], [] => (match geoOf gc with
   | some g => some (mkS ((Int × Int × Int)) (placeT g s a) fun r => some (.tup [.c (.int .i64 r.1), .c (.int .i64 r.2.1), .c (.int .i64 r.2.2)], []))
   | _ => none)
 | _, _ => none
variable {σ : Type} {I : Port Tryz.prog σ}
theorem s_m_placeT (hl : SoundL I ka13) : SoundF I 21 m_placeT := by
 refine sq hl 1 Tryz.func21 fun args H t ht => ?_
 unfold m_placeT at ht
 split at ht
 ·rename_i gc s a
  split at ht
  ·rename_i g hg
   obtain rfl := geoOf_eq hg
   cases ht
   refine Eq.trans ?_ (placeT_bind g s a _).symm
   kernel_rfl
  ·cases ht
 ·cases ht
def m_dropsT : Sm := fun args H => match args, H with
 | [.c (.ptr 0 0)], [some ⟨.port :: gc, 179, false, none⟩] => (match rnOf gc with
   | some (g, x) => some (mkS ((Unit × Rn)) (dropsT g x) fun r => some (.tup [], [some ⟨.port :: (g.cells ++ r.2.cells), 179, false, none⟩]))
   | _ => none)
 | _, _ => none
theorem s_m_dropsT (hl : SoundL I ka13) : SoundF I 116 m_dropsT := by
 refine sq hl 1 Tryz.func116 fun args H t ht => ?_
 unfold m_dropsT at ht
 split at ht
 ·rename_i gc
  split at ht
  ·rename_i g x hg
   obtain rfl := rnOf_eq hg
   cases ht
   refine Eq.trans ?_ (dropsT_bind g x _).symm
   kernel_rfl
  ·cases ht
 ·cases ht
def m_afreeT : Sm := fun args H => match args, H with
 | [.c .port, .agg gc, .c (.int .i64 a)], [] => (match geoOf gc with
   | some g => some (mkS (Res) (afreeT g a) fun r => some (.agg r.cells, []))
   | _ => none)
 | _, _ => none
theorem s_m_afreeT (hl : SoundL I ka13) : SoundF I 25 m_afreeT := by
 refine sq hl 1 Tryz.func25 fun args H t ht => ?_
 unfold m_afreeT at ht
 split at ht
 ·rename_i gc a
  split at ht
  ·rename_i g hg
   obtain rfl := geoOf_eq hg
   cases ht
   refine Eq.trans ?_ (afreeT_bind g a _).symm
   kernel_rfl
  ·cases ht
 ·cases ht
noncomputable def ka14 : List (Nat × Sm) := (21, m_placeT) :: (116, m_dropsT) :: (25, m_afreeT) :: ka13
theorem s_ka14 : SoundL I ka14 := (.cons (s_m_placeT s_ka13) (.cons (s_m_dropsT s_ka13) (.cons (s_m_afreeT s_ka13) s_ka13)))
end Go.Proofs.YtaegelbaghaooaaGreat.Lx
