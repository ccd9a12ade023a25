/- Summaries: the document (13, 15), room and fits. (trees printed by program, wip/auto.py) -/
import Derived.Test.YtaegelbaghaooaaGreatAyQRf3
import Derived.WalkKit
set_option linter.unusedSimpArgs false
set_option linter.unusedVariables false
set_option linter.unusedSectionVars false
namespace Go.Proofs.YtaegelbaghaooaaGreat.Lx
open Go
set_option maxRecDepth 1000000

def KD {β : Type} (n : Nat) (L : RowsL) (m s a : Int) (κ : Bool → T β) : T β :=
 (xaZ s a).bind fun r0 =>
 bif decide (r0 ≥ 0) then ((xbB n L).bind fun r2 =>
 (xa2 r2.1 r2.2 m r0).bind fun r3 =>
 κ (r3)) else
 bif decide (IntKind.i64.wrap (Int.tdiv a 64) < 1) then ((xbB n L).bind fun r3 =>
 (WK r3.1 r3.2 m (IntKind.i64.wrap (Int.tdiv (IntKind.i64.wrap (s + 63)) 64)) 1).bind fun r4 =>
 κ (r4)) else
 (xbB n L).bind fun r3 =>
 (WK r3.1 r3.2 m (IntKind.i64.wrap (Int.tdiv (IntKind.i64.wrap (s + 63)) 64)) (IntKind.i64.wrap (Int.tdiv a 64))).bind fun r4 =>
 κ (r4)
def Yu (n : Nat) (L : RowsL) (m s a : Int) : T Bool := KD n L m s a .ret
theorem xjn {β : Type} (n : Nat) (L : RowsL) (m s a : Int) (κ : Bool → T β) : (Yu n L m s a).bind κ = KD n L m s a κ := by
 unfold Yu KD
 first | rfl | (simp only [xa, xb, xe, xc, T.bind_assoc])
def xa3 : Sm := fun args H => match args, H with
 | [.c (.slr 0 n), .c (.int .i64 m), .c (.int .i64 s), .c (.int .i64 a)], [some ⟨[], 55, true, some (.rows [.int .i64, .int .i64, .int .i64] L)⟩] => some (mkS (Bool) (Yu n L m s a) fun r => some (.c (.bool r), [some ⟨[], 55, true, some (.rows [.int .i64, .int .i64, .int .i64] L)⟩]))
 | _, _ => none
variable {σ : Type} {I : Port Tryz.prog σ}
theorem xmh (hl : SoundL I kr3) : SoundF I 40 xa3 := by
 refine sq hl 3 Tryz.func40 fun args H t ht => ?_
 unfold xa3 at ht
 split at ht
 ·rename_i n m s a L
  cases ht
  refine Eq.trans ?_ (xjn n L m s a _).symm
  kernel_rfl
 ·cases ht
noncomputable def kr4 : List (Nat × Sm) := (40, xa3) :: kr3
theorem s_kr4 : SoundL I kr4 := (.cons (xmh s_kr3) s_kr3)
end Go.Proofs.YtaegelbaghaooaaGreat.Lx
