/- Part. -/
import Derived.Test.YtaegelbaghaooaaGreatCfPDo3
import Derived.Test.YtaegelbaghaooaaGreatCfQCnt1
set_option linter.all false
open Go.IntKind (i64 u64 u32 u8)
namespace Go.Proofs.YtaegelbaghaooaaGreat
open Go Go.RowKit Lx
theorem xt3 (c : Cal) : kR c = .ret (csz c) := by
 unfold kR xad csz
 by_cases h : c.op = 2
 ·rw [show (c.op == 2) = true by simp [h], if_pos h]; rfl
 ·rw [show (c.op == 2) = false by simp [h], if_neg h]; rfl
theorem WP (r : Res) : wo r = .ret (decide (r.e = 15 \/ r.e = 5)) := by
 unfold wo Xq
 by_cases h : r.e = 15
 ·rw [show (r.e == 15) = true by simp [h]]; simp [h]
 ·rw [show (r.e == 15) = false by simp [h]]
  simp only [cond_false, h, false_or]
  rfl
theorem u64_neg (x : Int) : u64.wrap (x + u64.wrap (-1)) = u64.wrap (x - 1) := by
 simp only [IntKind.wrap_u64]; omega
theorem u64_sub (x z : Int) : u64.wrap (x + u64.wrap (i64.wrap (0 - z))) = u64.wrap (x - u64.wrap z) := by
 simp only [IntKind.wrap_u64, IntKind.wrap_i64]; omega
theorem xp3 {f : Nat -> Int} {cl : Cal} {r : Res} {was th fr to_ lin tc : Int} (h4 : cl.op ≠ 4) :
  qq ⟨f 0, f 1, f 2, f 3, f 4⟩ th cl.op cl.size cl.n cl.align cl.at_ cl.off cl.byte fr to_ lin tc true r.at_ r.n r.byte r.c1 r.c2 r.c3 r.c4 r.c5 r.e r.lin r.touch =
   .ret ⟨cntD cl r was f 0, cntD cl r was f 1, cntD cl r was f 2, cntD cl r was f 3, cntD cl r was f 4⟩ := by
 unfold qq YY
 by_cases ha : cl.op = 1 \/ cl.op = 2 \/ cl.op = 3
 ·have d1 : decide (cl.op >= 1) = true := decide_eq_true (by omega)
  have d4 : decide (cl.op <= 4) = true := decide_eq_true (by omega)
  have d3 : decide (cl.op <= 3) = true := decide_eq_true (by omega)
  have d5 : (cl.op == 5) = false := beq_eq_false_iff_ne.2 (by omega)
  have hc : cntD cl r was f = xcp cl r f := by unfold cntD; rw [if_pos ha]
  rw [hc]
  unfold xcp
  by_cases h0 : r.e = 0
  ·have df : decide (r.e = 15 \/ r.e = 5) = false := decide_eq_false (by omega)
   have d0 : (r.e == 0) = true := by rw [h0]; rfl
   simp only [Bool.not_true, cond_false, cond_true, d1, d4, d3, WP, xt3, T.bind, df, d0, if_pos h0]
   rfl
  ·have d0 : (r.e == 0) = false := beq_eq_false_iff_ne.2 h0
   by_cases hfa : r.e = 15 \/ r.e = 5
   ·simp only [Bool.not_true, cond_false, cond_true, d1, d4, WP, T.bind, decide_eq_true hfa, if_neg h0, if_pos hfa]
    rfl
   ·simp only [Bool.not_true, cond_false, cond_true, d1, d4, d3, d5, WP, T.bind, decide_eq_false hfa, d0, if_neg h0, if_neg hfa]
 ·by_cases h5 : cl.op = 5
  ·have d1 : decide (cl.op >= 1) = true := decide_eq_true (by omega)
   have d4 : decide (cl.op <= 4) = false := decide_eq_false (by omega)
   have d3 : decide (cl.op <= 3) = false := decide_eq_false (by omega)
   have d5 : (cl.op == 5) = true := by rw [h5]; rfl
   have hc : cntD cl r was f = if r.e = 0 then xsa f r.n else f := by unfold cntD; rw [if_neg ha, if_neg h4, if_pos h5]
   rw [hc]
   by_cases h0 : r.e = 0
   ·have d0 : (r.e == 0) = true := by rw [h0]; rfl
    simp only [Bool.not_true, cond_false, cond_true, d1, d4, d3, d5, d0, if_pos h0]
    simp only [xsa, addW, T.ret.injEq, Cts.mk.injEq]
    refine ⟨rfl, rfl, rfl, ?_, ?_⟩
    ·exact (u64_neg _).symm
    ·exact (u64_sub _ _).symm
   ·have d0 : (r.e == 0) = false := beq_eq_false_iff_ne.2 h0
    simp only [Bool.not_true, cond_false, cond_true, d1, d4, d3, d5, d0, if_neg h0]
  ·have d5 : (cl.op == 5) = false := beq_eq_false_iff_ne.2 h5
   have hc : cntD cl r was f = f := by unfold cntD; rw [if_neg ha, if_neg h4, if_neg h5]
   rw [hc]
   by_cases h1 : cl.op >= 1
   ·have d1 : decide (cl.op >= 1) = true := decide_eq_true h1
    have d4 : decide (cl.op <= 4) = false := decide_eq_false (by omega)
    have d3 : decide (cl.op <= 3) = false := decide_eq_false (by omega)
    simp only [Bool.not_true, cond_false, cond_true, d1, d4, d3, d5]
   ·have d1 : decide (cl.op >= 1) = false := decide_eq_false h1
    simp only [Bool.not_true, cond_false, cond_true, d1, d5]
end Go.Proofs.YtaegelbaghaooaaGreat
