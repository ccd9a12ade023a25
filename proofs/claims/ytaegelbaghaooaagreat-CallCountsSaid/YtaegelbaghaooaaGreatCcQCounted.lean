/- CallCounts: what is counted of a call is what the document counts. -/
import Derived.Test.YtaegelbaghaooaaGreatCcQCnt1
import Derived.Test.YtaegelbaghaooaaGreatCcEvents
import Derived.Test.YtaegelbaghaooaaGreatCcOpenEvent
namespace Go.Proofs.YtaegelbaghaooaaGreat
open Go Go.RowKit Lx Go.WideShapes
set_option linter.unusedVariables false
set_option maxRecDepth 1000000
theorem u64_zero {x : Int} (h : 0 ≤ x ∧ x < 18446744073709551616) : IntKind.wrap IntKind.u64 (x + 0) = x := by rw [IntKind.wrap_u64]; omega
theorem u64_less (x : Int) : IntKind.wrap IntKind.u64 (IntKind.wrap IntKind.u64 x - 0) = IntKind.wrap IntKind.u64 x := by rw [IntKind.wrap_u64, IntKind.wrap_u64]; omega
theorem u64_less0 {x : Int} (h : 0 ≤ x ∧ x < 18446744073709551616) : IntKind.wrap IntKind.u64 (x - 0) = x := by rw [IntKind.wrap_u64]; omega
theorem op_cases (op : Int) : ∃ b1 b4 b3 b5 b2 : Bool, decide (op ≥ 1) = b1 ∧ decide (op ≤ 4) = b4 ∧ decide (op ≤ 3) = b3 ∧ (op == 5) = b5 ∧ (op == 2) = b2 ∧
    ((b1, b4, b3, b5, b2) = (true, true, true, false, true) ∨ (b1, b4, b3, b5, b2) = (true, true, true, false, false) ∨ (b1, b4, b3, b5, b2) = (true, true, false, false, false) ∨ (b1, b4, b3, b5, b2) = (true, false, false, true, false) ∨
      (b1, b4, b3, b5, b2) = (false, true, true, false, false) ∨ (b1, b4, b3, b5, b2) = (true, false, false, false, false)) := by
  have e5 : (op == 5) = decide (op = 5) := by by_cases h : op = 5 <;> simp [h]
  have e2 : (op == 2) = decide (op = 2) := by by_cases h : op = 2 <;> simp [h]
  refine ⟨_, _, _, _, _, rfl, rfl, rfl, e5, e2, ?_⟩
  by_cases h2 : op = 2
  · left; subst h2; rfl
  · by_cases h5 : op = 5
    · right; right; right; left; subst h5; rfl
    · by_cases h1 : op ≥ 1
      · by_cases h3 : op ≤ 3
        · right; left; simp [h1, h3, h2, h5]; omega
        · by_cases h4 : op ≤ 4
          · right; right; left; simp [h1, h3, h4, h2, h5]
          · right; right; right; right; right; simp [h1, h3, h4, h2, h5]
      · right; right; right; right; left; simp [h1, h2, h5]; omega
theorem re_cases (re : Int) : ∃ e15 e5 e0 : Bool, (re == 15) = e15 ∧ (re == 5) = e5 ∧ (re == 0) = e0 ∧
    ((e15, e5, e0) = (true, false, false) ∨ (e15, e5, e0) = (false, true, false) ∨ (e15, e5, e0) = (false, false, true) ∨ (e15, e5, e0) = (false, false, false)) := by
  refine ⟨_, _, _, rfl, rfl, rfl, ?_⟩
  by_cases h15 : re = 15
  · left; subst h15; rfl
  · by_cases h5 : re = 5
    · right; left; subst h5; rfl
    · by_cases h0 : re = 0
      · right; right; left; subst h0; rfl
      · right; right; right; simp [h15, h5, h0]
theorem counted_both (c : Cts) (th op sz nn al at_ off by_ fr to_ lin tc : Int) (dn : Bool) (ra rn rb u1 u2 u3 u4 u5 re rl rt : Int)
    (h1 : 0 ≤ c.allocs ∧ c.allocs < 18446744073709551616) (h2 : 0 ≤ c.frees ∧ c.frees < 18446744073709551616) (h3 : 0 ≤ c.failures ∧ c.failures < 18446744073709551616) (h4 : 0 ≤ c.live ∧ c.live < 18446744073709551616) :
    ∃ X, countedT c th op sz nn al at_ off by_ fr to_ lin tc dn ra rn rb u1 u2 u3 u4 u5 re rl rt = .ret X ∧ rcountedT c th op sz nn al at_ off by_ fr to_ lin tc dn ra rn rb u1 u2 u3 u4 u5 re rl rt = .ret X := by
  cases dn
  · exact ⟨_, rfl, rfl⟩
  · obtain ⟨b1, b4, b3, b5, b2, k1, k4, k3, k5, k2, hop⟩ := op_cases op
    obtain ⟨e15, e5, e0, g15, g5, g0, hre⟩ := re_cases re
    unfold countedT countedTK rcountedT rcountedTK
    rcases hop with hop | hop | hop | hop | hop | hop <;> rcases hre with hre | hre | hre | hre <;>
      (simp only [Prod.mk.injEq] at hop hre
       obtain ⟨rfl, rfl, rfl, rfl, rfl⟩ := hop
       obtain ⟨rfl, rfl, rfl⟩ := hre
       simp only [failedT, failedTK, csizeT, csizeTK, T.bind, k1, k2, k3, k4, k5, g15, g5, g0, cond_true, cond_false, Bool.not_true, u64_zero h1, u64_zero h2, u64_zero h3, u64_zero h4, u64_less, u64_less0 h4]
       exact ⟨_, rfl, rfl⟩)
/-- the law's run, over what the two functions come to. -/
theorem ran_counts (c : Cts) (th op sz nn al at_ off by_ fr to_ lin tc : Int) (dn : Bool) (ra rn rb u1 u2 u3 u4 u5 re rl rt : Int) :
    evF Tryz.prog (lookK kz4) 1 Tryz.f15 [.agg c.cells, .agg [.int .i64 th, .int .u8 op, .int .i64 sz, .int .i64 nn, .int .i64 al, .int .i64 at_, .int .i64 off, .int .u8 by_, .int .i64 fr, .int .i64 to_, .int .i64 lin, .int .i64 tc, .bool dn, .int .i64 ra, .int .i64 rn, .int .u8 rb, .int .u64 u1, .int .u64 u2, .int .u64 u3, .int .u64 u4, .int .u64 u5, .int .i64 re, .int .i64 rl, .int .i64 rt]] [] =
      (countedT c th op sz nn al at_ off by_ fr to_ lin tc dn ra rn rb u1 u2 u3 u4 u5 re rl rt).bind fun x => (rcountedT c th op sz nn al at_ off by_ fr to_ lin tc dn ra rn rb u1 u2 u3 u4 u5 re rl rt).bind fun y =>
        bif x.allocs == y.allocs && (x.frees == y.frees && (x.failures == y.failures && (x.live == y.live && (x.bytes == y.bytes && true)))) then .ret (.c (.bool true), []) else .ret (.c (.bool false), []) := by kernel_rfl
theorem callCounts_law (c : Cts) (e : Ev) (h1 : u64ok c.allocs) (h2 : u64ok c.frees) (h3 : u64ok c.failures) (h4 : u64ok c.live) (w : World) :
    Calls Tryz.prog 15 #[.agg #[.int .u64 c.allocs, .int .u64 c.frees, .int .u64 c.failures, .int .u64 c.live, .int .u64 c.bytes], .agg e.cells.toArray] w fun en w' => en = .returned (.bool true) ∧ Below w.heap.size w w' := by
  obtain ⟨X, g1, g2⟩ := counted_both c e.thread e.call.op e.call.size e.call.n e.call.align e.call.pos e.call.off e.call.byte e.sfrom e.to e.lin e.touch e.done e.r.pos e.r.n e.r.byte e.r.c0 e.r.c1 e.r.c2 e.r.c3 e.r.c4 e.r.e e.r.lin e.r.touch
    ⟨h1.1, by have := h1.2; omega⟩ ⟨h2.1, by have := h2.2; omega⟩ ⟨h3.1, by have := h3.2; omega⟩ ⟨h4.1, by have := h4.2; omega⟩
  have hr := ran_counts c e.thread e.call.op e.call.size e.call.n e.call.align e.call.pos e.call.off e.call.byte e.sfrom e.to e.lin e.touch e.done e.r.pos e.r.n e.r.byte e.r.c0 e.r.c1 e.r.c2 e.r.c3 e.r.c4 e.r.e e.r.lin e.r.touch
  rw [g1, g2] at hr
  simp only [T.bind, beq_self_eq_true, Bool.and_self, cond_true] at hr
  exact calls_flat (args := [.agg c.cells, .agg [.int .i64 e.thread, .int .u8 e.call.op, .int .i64 e.call.size, .int .i64 e.call.n, .int .i64 e.call.align, .int .i64 e.call.pos, .int .i64 e.call.off, .int .u8 e.call.byte, .int .i64 e.sfrom, .int .i64 e.to, .int .i64 e.lin, .int .i64 e.touch, .bool e.done, .int .i64 e.r.pos, .int .i64 e.r.n, .int .u8 e.r.byte, .int .u64 e.r.c0, .int .u64 e.r.c1, .int .u64 e.r.c2, .int .u64 e.r.c3, .int .u64 e.r.c4, .int .i64 e.r.e, .int .i64 e.r.lin, .int .i64 e.r.touch]]) (sound_in s_kz4 1 Tryz.func15 (by kernel_rfl) (by kernel_rfl)) rfl (vs := [.agg #[.int .u64 c.allocs, .int .u64 c.frees, .int .u64 c.failures, .int .u64 c.live, .int .u64 c.bytes], .agg e.cells.toArray]) rfl (run_ret hr) (v := .c (.bool true)) rfl (fun e => rfl) w
set_option maxRecDepth 100000 in
theorem open_counts {H : Type} {enc : TypeId × Value → H} {W : World} {r : Reach} {b0 base : Nat} {sp : Nat → Bool} {held : Bool} {v : Value} {d : DataW H} {p : List MemPlace}
    (hv : Value.okWide Tryz.prog W r b0 36 v) (h : DataW.Trod enc Tryz.prog W base sp held 36 v d p) : ∃ c : Cts, (u64ok c.allocs ∧ u64ok c.frees ∧ u64ok c.failures ∧ u64ok c.live) ∧ v = .agg #[.int .u64 c.allocs, .int .u64 c.frees, .int .u64 c.failures, .int .u64 c.live, .int .u64 c.bytes] := by
  obtain ⟨cs, rfl, _⟩ := okWide_struct Tryz.underlying36 hv
  obtain ⟨n, hn⟩ := h
  obtain ⟨c0, c1, c2, c3, c4, k0, k1, k2, k3, k4, hc⟩ := trod_counts (cs := cs.toList) (by simpa [Value.cells] using hn)
  exact ⟨⟨c0, c1, c2, c3, c4⟩, ⟨k0, k1, k2, k3⟩, by rw [← Array.toArray_toList (xs := cs), hc]⟩
end Go.Proofs.YtaegelbaghaooaaGreat
