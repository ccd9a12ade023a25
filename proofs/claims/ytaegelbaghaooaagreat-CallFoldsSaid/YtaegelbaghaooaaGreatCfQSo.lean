/- Part. -/
import Derived.Test.YtaegelbaghaooaaGreatCfQKs
set_option linter.all false
open Go.IntKind (i64 u64 u32 u8)
namespace Go.Proofs.YtaegelbaghaooaaGreat.Lx
open Go
noncomputable section
set_option maxRecDepth 1000000
def xsy {β : Type} (g : Geo) (x x2 y y2 : Nat) (W B : IntsL) (th bk op sz nn al at_ off by_ : Int) (κ : Ser -> T β) : T β :=
 bif !g.threads == 0 then ((xgc 0 [] th bk op sz nn al at_ off by_).bind fun r1 =>
 (vR (okS x2 x y2 y W B) (doT g r1) (DS.mk (Mem.mk W B) (Int.tmod (i64.wrap th) g.threads) 0 none)).bind fun r2 =>
 bif r2.snd.1.at_ == r2.fst.at_ && (r2.snd.1.n == r2.fst.n && (r2.snd.1.byte == r2.fst.byte && (r2.snd.1.c1 == r2.fst.c1 && (r2.snd.1.c2 == r2.fst.c2 && (r2.snd.1.c3 == r2.fst.c3 && (r2.snd.1.c4 == r2.fst.c4 && (r2.snd.1.c5 == r2.fst.c5 && true)))) && (r2.snd.1.e == r2.fst.e && (r2.snd.1.lin == r2.fst.lin && (r2.snd.1.touch == r2.fst.touch && true)))))) then (bif decide (r2.fst.lin >= 1) then (bif decide (r2.fst.touch > 0) then (κ ⟨1, [] ++ [[Int.tmod (i64.wrap th) g.threads, r1.op, r1.size, r1.n, r1.align, r1.at_, r1.off, r1.byte, 1, i64.wrap (0 + r2.snd.snd.steps), i64.wrap (0 + r2.fst.lin), i64.wrap (0 + r2.fst.touch), 1, r2.fst.at_, r2.fst.n, r2.fst.byte, r2.fst.c1, r2.fst.c2, r2.fst.c3, r2.fst.c4, r2.fst.c5, r2.fst.e, r2.fst.lin, r2.fst.touch]], decide (r2.fst.lin <= r2.snd.snd.steps), List.length r2.snd.snd.m.1, List.length r2.snd.snd.m.1, List.length r2.snd.snd.m.2, List.length r2.snd.snd.m.2, r2.snd.snd.m.1, r2.snd.snd.m.2⟩) else
 κ ⟨1, [] ++ [[Int.tmod (i64.wrap th) g.threads, r1.op, r1.size, r1.n, r1.align, r1.at_, r1.off, r1.byte, 1, i64.wrap (0 + r2.snd.snd.steps), i64.wrap (0 + r2.fst.lin), (-1), 1, r2.fst.at_, r2.fst.n, r2.fst.byte, r2.fst.c1, r2.fst.c2, r2.fst.c3, r2.fst.c4, r2.fst.c5, r2.fst.e, r2.fst.lin, r2.fst.touch]], decide (r2.fst.lin <= r2.snd.snd.steps), List.length r2.snd.snd.m.1, List.length r2.snd.snd.m.1, List.length r2.snd.snd.m.2, List.length r2.snd.snd.m.2, r2.snd.snd.m.1, r2.snd.snd.m.2⟩) else
 bif decide (r2.fst.touch > 0) then (κ ⟨1, [] ++ [[Int.tmod (i64.wrap th) g.threads, r1.op, r1.size, r1.n, r1.align, r1.at_, r1.off, r1.byte, 1, i64.wrap (0 + r2.snd.snd.steps), i64.wrap (0 + r2.fst.lin), i64.wrap (0 + r2.fst.touch), 1, r2.fst.at_, r2.fst.n, r2.fst.byte, r2.fst.c1, r2.fst.c2, r2.fst.c3, r2.fst.c4, r2.fst.c5, r2.fst.e, r2.fst.lin, r2.fst.touch]], false, List.length r2.snd.snd.m.1, List.length r2.snd.snd.m.1, List.length r2.snd.snd.m.2, List.length r2.snd.snd.m.2, r2.snd.snd.m.1, r2.snd.snd.m.2⟩) else
 κ ⟨1, [] ++ [[Int.tmod (i64.wrap th) g.threads, r1.op, r1.size, r1.n, r1.align, r1.at_, r1.off, r1.byte, 1, i64.wrap (0 + r2.snd.snd.steps), i64.wrap (0 + r2.fst.lin), (-1), 1, r2.fst.at_, r2.fst.n, r2.fst.byte, r2.fst.c1, r2.fst.c2, r2.fst.c3, r2.fst.c4, r2.fst.c5, r2.fst.e, r2.fst.lin, r2.fst.touch]], false, List.length r2.snd.snd.m.1, List.length r2.snd.snd.m.1, List.length r2.snd.snd.m.2, List.length r2.snd.snd.m.2, r2.snd.snd.m.1, r2.snd.snd.m.2⟩) else
 bif decide (r2.fst.touch > 0) then (κ ⟨1, [] ++ [[Int.tmod (i64.wrap th) g.threads, r1.op, r1.size, r1.n, r1.align, r1.at_, r1.off, r1.byte, 1, i64.wrap (0 + r2.snd.snd.steps), i64.wrap (0 + r2.fst.lin), i64.wrap (0 + r2.fst.touch), 1, r2.fst.at_, r2.fst.n, r2.fst.byte, r2.fst.c1, r2.fst.c2, r2.fst.c3, r2.fst.c4, r2.fst.c5, r2.fst.e, r2.fst.lin, r2.fst.touch]], false, List.length r2.snd.snd.m.1, List.length r2.snd.snd.m.1, List.length r2.snd.snd.m.2, List.length r2.snd.snd.m.2, r2.snd.snd.m.1, r2.snd.snd.m.2⟩) else
 κ ⟨1, [] ++ [[Int.tmod (i64.wrap th) g.threads, r1.op, r1.size, r1.n, r1.align, r1.at_, r1.off, r1.byte, 1, i64.wrap (0 + r2.snd.snd.steps), i64.wrap (0 + r2.fst.lin), (-1), 1, r2.fst.at_, r2.fst.n, r2.fst.byte, r2.fst.c1, r2.fst.c2, r2.fst.c3, r2.fst.c4, r2.fst.c5, r2.fst.e, r2.fst.lin, r2.fst.touch]], false, List.length r2.snd.snd.m.1, List.length r2.snd.snd.m.1, List.length r2.snd.snd.m.2, List.length r2.snd.snd.m.2, r2.snd.snd.m.1, r2.snd.snd.m.2⟩) else
 .fail
def seoT (g : Geo) (x x2 y y2 : Nat) (W B : IntsL) (th bk op sz nn al at_ off by_ : Int) : T Ser := xsy g x x2 y y2 W B th bk op sz nn al at_ off by_ .ret
theorem xuO {β : Type} (g : Geo) (x x2 y y2 : Nat) (W B : IntsL) (th bk op sz nn al at_ off by_ : Int) (κ : Ser -> T β) : (seoT g x x2 y y2 W B th bk op sz nn al at_ off by_).bind κ = xsy g x x2 y y2 W B th bk op sz nn al at_ off by_ κ := by
 unfold seoT xsy
 first | rfl | simp only [bz]
def xrz : Sm := fun
 | [.agg gc, .c (.ptr 0 0), .c (.sl 3 0 1 1)], [some ⟨[.sl 1 0 x x2, .sl 2 0 y y2], 188, false, none⟩, some ⟨[], 34, false, some (.col .u64 W)⟩, some ⟨[], 5, false, some (.col .u8 B)⟩, some ⟨[.int .u8 th, .int .u8 bk, .int .u8 op, .int .i64 sz, .int .i64 nn, .int .i64 al, .int .i64 at_, .int .i64 off, .int .u8 by_], 116, false, none⟩] => (match xu gc with
   | some g => some (mkS (Ser) (seoT g x x2 y y2 W B th bk op sz nn al at_ off by_) fun r => some (.tup [.c (.slr 4 r.n), .c (.bool r.ok)], [some ⟨[.sl 1 0 r.x r.x2, .sl 2 0 r.y r.y2], 188, false, none⟩, some ⟨[], 34, false, some (.col .u64 r.W)⟩, some ⟨[], 5, false, some (.col .u8 r.B)⟩, some ⟨[.int .u8 th, .int .u8 bk, .int .u8 op, .int .i64 sz, .int .i64 nn, .int .i64 al, .int .i64 at_, .int .i64 off, .int .u8 by_], 116, false, none⟩, some ⟨[], 108, true, some (.rows [.int .i64, .int .u8, .int .i64, .int .i64, .int .i64, .int .i64, .int .i64, .int .u8, .int .i64, .int .i64, .int .i64, .int .i64, .bool, .int .i64, .int .i64, .int .u8, .int .u64, .int .u64, .int .u64, .int .u64, .int .u64, .int .i64, .int .i64, .int .i64] r.L)⟩]))
   | _ => none)
 | _, _ => none
variable {σ : Type} {I : Port Tryz.prog σ}
theorem xwA (hl : SoundL I kd9) : SoundF I 62 xrz := by
 refine ZY hl (⟨xa, [⟨6, 108, .rows [.int .i64, .int .u8, .int .i64, .int .i64, .int .i64, .int .i64, .int .i64, .int .u8, .int .i64, .int .i64, .int .i64, .int .i64, .bool, .int .i64, .int .i64, .int .u8, .int .u64, .int .u64, .int .u64, .int .u64, .int .u64, .int .i64, .int .i64, .int .i64]⟩, ⟨8, 108, .rows [.int .i64, .int .u8, .int .i64, .int .i64, .int .i64, .int .i64, .int .i64, .int .u8, .int .i64, .int .i64, .int .i64, .int .i64, .bool, .int .i64, .int .i64, .int .u8, .int .u64, .int .u64, .int .u64, .int .u64, .int .u64, .int .i64, .int .i64, .int .i64]⟩], true⟩ : Fu) Tryz.func62 (by kernel_rfl) (by kernel_rfl) fun args H t ht => ?_
 unfold xrz at ht
 split at ht
 ·rename_i gc x x2 y y2 W B th bk op sz nn al at_ off by_
  split at ht
  ·rename_i g hg
   obtain rfl := xe hg
   cases ht
   refine Eq.trans ?_ (xuO g x x2 y y2 W B th bk op sz nn al at_ off by_ _).symm
   kernel_rfl
  ·cases ht
 ·cases ht
def ke10 : List (Nat × Sm) := (62, xrz) :: kd9
theorem s_ke10 : SoundL NP ke10 := (.cons (xwA s_kd9) s_kd9)
end
end Go.Proofs.YtaegelbaghaooaaGreat.Lx
