/- Summaries: alloc, renew, data, call. (trees printed by program, wip/auto.py) -/
import Derived.Test.YtaegelbaghaooaaGreatAyQA13
import Derived.WalkKit
set_option linter.unusedSimpArgs false
set_option linter.unusedVariables false
set_option linter.unusedSectionVars false
namespace Go.Proofs.YtaegelbaghaooaaGreat.Lx
open Go
set_option maxRecDepth 1000000

def xbY {β : Type} (g : Geo) (s a : Int) (κ : (Int × Int × Int) → T β) : T β :=
 bif g.pages == 0 then (κ ((0), (0), (15))) else
 bif decide (s < 1) then (κ ((0), (0), (11))) else
 bif decide (s > IntKind.i64.wrap (g.pages * 64)) then (κ ((0), (0), (11))) else
 (Xz a).bind fun r3 =>
 bif !r3 then (κ ((0), (0), (12))) else
 (cofT s a).bind fun r5 =>
 bif decide (r5 ≥ 0) then ((qO g r5).bind fun r7 =>
 bif decide (0 ≤ r5 ∧ r5 < 4) then (bif r7.2 != 0 then (κ ((0), (0), (r7.2))) else
 κ ((r7.1), (bif r5 == 0 then (8 : Int) else bif r5 == 1 then (16 : Int) else bif r5 == 2 then (24 : Int) else (32 : Int)), (0))) else
 .fail) else
 (jX s).bind fun r7 =>
 (Wg g r7 (if IntKind.i64.wrap (Int.tdiv a 64) < 1 then (1 : Int) else IntKind.i64.wrap (Int.tdiv a 64))).bind fun r8 =>
 bif r8.2 != 0 then (κ ((0), (0), (r8.2))) else
 κ ((r8.1), (IntKind.i64.wrap (r7 * 64)), (0))
def qP (g : Geo) (s a : Int) : T (Int × Int × Int) := xbY g s a .ret
theorem xkW {β : Type} (g : Geo) (s a : Int) (κ : (Int × Int × Int) → T β) : (qP g s a).bind κ = xbY g s a κ := by
 unfold qP xbY
 first | rfl | (simp only [xa, xb, xe, xc, T.bind_assoc])
def xh0 {β : Type} (g : Geo) (κ : Int → T β) : T β :=
 (VN g).bind fun r0 =>
 bif !r0.2 then (κ (5)) else
 κ (0)
def xgC (g : Geo) : T Int := xh0 g .ret
theorem xnI {β : Type} (g : Geo) (κ : Int → T β) : (xgC g).bind κ = xh0 g κ := by
 unfold xgC xh0
 first | rfl | (simp only [xa, xb, xe, xc, T.bind_assoc])
def xbZ {β : Type} (g : Geo) (a : Int) (κ : Res → T β) : T β :=
 bif g.pages == 0 then (κ ⟨(0), (0), (0), (0), (0), (0), (0), (0), (15), (0), (0)⟩) else
 bif decide (a < 0) then (.op (.steps ) fun x2 =>
 (vl 13 x2).bind fun r3 =>
 κ ⟨(r3.at_), (r3.n), (r3.byte), (r3.c1), (r3.c2), (r3.c3), (r3.c4), (r3.c5), (r3.e), (r3.lin), (r3.touch)⟩) else
 bif decide (a ≥ IntKind.i64.wrap (g.pages * 64)) then (.op (.steps ) fun x3 =>
 (vl 13 x3).bind fun r4 =>
 κ ⟨(r4.at_), (r4.n), (r4.byte), (r4.c1), (r4.c2), (r4.c3), (r4.c4), (r4.c5), (r4.e), (r4.lin), (r4.touch)⟩) else
 bif Int.tmod a 8 != 0 then (.op (.steps ) fun x4 =>
 (vl 13 x4).bind fun r5 =>
 κ ⟨(r5.at_), (r5.n), (r5.byte), (r5.c1), (r5.c2), (r5.c3), (r5.c4), (r5.c5), (r5.e), (r5.lin), (r5.touch)⟩) else
 (xaD g (IntKind.i64.wrap (Int.tdiv a 8))).bind fun r4 =>
 bif !r4.live then ((vl 13 r4.lin).bind fun r6 =>
 κ ⟨(r6.at_), (r6.n), (r6.byte), (r6.c1), (r6.c2), (r6.c3), (r6.c4), (r6.c5), (r6.e), (r6.lin), (r6.touch)⟩) else
 .op (.tell [.int .i64 (0), .int .i64 (r4.size), .int .u8 (0), .int .u64 (0), .int .u64 (0), .int .u64 (0), .int .u64 (0), .int .u64 (0), .int .i64 (0), .int .i64 (r4.lin), .int .i64 (0)]) fun _ =>
 (jS g (IntKind.i64.wrap (Int.tdiv a 8))).bind fun r7 =>
 κ ⟨(0), (r4.size), (0), (0), (0), (0), (0), (0), (0), (r4.lin), (0)⟩
def xal (g : Geo) (a : Int) : T Res := xbZ g a .ret
theorem xkX {β : Type} (g : Geo) (a : Int) (κ : Res → T β) : (xal g a).bind κ = xbZ g a κ := by
 unfold xal xbZ
 first | rfl | (simp only [xa, xb, xe, xc, T.bind_assoc])
def VO : Sm := fun args H => match args, H with
 | [.c .port, .agg gc, .c (.int .i64 s), .c (.int .i64 a)], [] => (match xu gc with
   | some g => some (mkS ((Int × Int × Int)) (qP g s a) fun r => some (.tup [.c (.int .i64 r.1), .c (.int .i64 r.2.1), .c (.int .i64 r.2.2)], []))
   | _ => none)
 | _, _ => none
variable {σ : Type} {I : Port Tryz.prog σ}
theorem xdH (hl : SoundL I ka13) : SoundF I 21 VO := by
 refine sq hl 1 Tryz.func21 fun args H t ht => ?_
 unfold VO at ht
 split at ht
 ·rename_i gc s a
  split at ht
  ·rename_i g hg
   obtain rfl := xh hg
   cases ht
   refine Eq.trans ?_ (xkW g s a _).symm
   kernel_rfl
  ·cases ht
 ·cases ht
def xb0 : Sm := fun args H => match args, H with
 | [.c .port, .agg gc], [] => (match xu gc with
   | some g => some (mkS (Int) (xgC g) fun r => some (.c (.int .i64 r), []))
   | _ => none)
 | _, _ => none
theorem xgD (hl : SoundL I ka13) : SoundF I 28 xb0 := by
 refine sq hl 1 Tryz.func28 fun args H t ht => ?_
 unfold xb0 at ht
 split at ht
 ·rename_i gc
  split at ht
  ·rename_i g hg
   obtain rfl := xh hg
   cases ht
   refine Eq.trans ?_ (xnI g _).symm
   kernel_rfl
  ·cases ht
 ·cases ht
def VP : Sm := fun args H => match args, H with
 | [.c .port, .agg gc, .c (.int .i64 a)], [] => (match xu gc with
   | some g => some (mkS (Res) (xal g a) fun r => some (.agg r.cells, []))
   | _ => none)
 | _, _ => none
theorem xdI (hl : SoundL I ka13) : SoundF I 25 VP := by
 refine sq hl 1 Tryz.func25 fun args H t ht => ?_
 unfold VP at ht
 split at ht
 ·rename_i gc a
  split at ht
  ·rename_i g hg
   obtain rfl := xh hg
   cases ht
   refine Eq.trans ?_ (xkX g a _).symm
   kernel_rfl
  ·cases ht
 ·cases ht
noncomputable def ka14 : List (Nat × Sm) := (21, VO) :: (28, xb0) :: (25, VP) :: ka13
theorem xdJ : SoundL I ka14 := (.cons (xdH Wh) (.cons (xgD Wh) (.cons (xdI Wh) Wh)))
end Go.Proofs.YtaegelbaghaooaaGreat.Lx
