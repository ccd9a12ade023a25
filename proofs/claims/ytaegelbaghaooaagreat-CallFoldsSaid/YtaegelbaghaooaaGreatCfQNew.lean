/- Part. -/
import Derived.Test.YtaegelbaghaooaaGreatCfM11
set_option linter.all false
open Go.IntKind (i64 u64 u32 u8)
namespace Go.Proofs.YtaegelbaghaooaaGreat.Lx
open Go
set_option maxRecDepth 1000000
def zI (n t : Int) : Nat -> Int
 | 0 => 1 | 1 => 1 | 2 => 5 | 3 => 9 | 4 => 1 | 5 => 4 | 6 => t | 7 => n | 8 => n | 9 => n | 10 => IntKind.wrap .i64 (n * 8) | 11 => IntKind.wrap .i64 (n * 8)
 | 12 => IntKind.wrap .i64 (IntKind.wrap .i64 (t * 4) * 2) | 13 => IntKind.wrap .i64 (t * 4) | 14 => IntKind.wrap .i64 (t * 2) | 15 => t
 | 16 => IntKind.wrap .i64 (t * je (Geo.mk n t 0 0 0 0 0 0 0 0 0 0 0 0 0 0 0 0 0 0 0 0)) | 17 => qR (Geo.mk n t 0 0 0 0 0 0 0 0 0 0 0 0 0 0 0 0 0 0 0 0)
 | _ => IntKind.wrap .i64 (qR (Geo.mk n t 0 0 0 0 0 0 0 0 0 0 0 0 0 0 0 0 0 0 0 0) * 8)
def bI (n t : Int) : Nat -> Int
 | 0 => 0
 | k + 1 => IntKind.wrap .i64 (bI n t k + zI n t k)
def geo0 : Geo := Geo.mk 0 0 0 0 0 0 0 0 0 0 0 0 0 0 0 0 0 0 0 0 0 0
def xou {β : Type} (n t : Int) (κ : (Geo × Bool) -> T β) : T β :=
 bif decide (n < 1) then (κ (geo0, false)) else
 bif decide (n > 256) then (κ (geo0, false)) else
 bif decide (t < 1) then (κ (geo0, false)) else
 bif decide (t > 64) then (κ (geo0, false)) else
 κ (⟨n, t, bI n t 0, bI n t 1, bI n t 2, bI n t 3, bI n t 4, bI n t 5, bI n t 6, bI n t 7, bI n t 8, bI n t 9, bI n t 10, bI n t 11, bI n t 12, bI n t 13, bI n t 14, bI n t 15, bI n t 16, bI n t 17, bI n t 18, bI n t 19⟩, true)
def newT (n t : Int) : T (Geo × Bool) := xou n t .ret
theorem xuN {β : Type} (n t : Int) (κ : (Geo × Bool) -> T β) : (newT n t).bind κ = xou n t κ := by
 unfold newT xou
 first | rfl | simp only [bz]
def xry : Sm := fun
 | [.c (.int .i64 n), .c (.int .i64 t)], [] => some (mkS ((Geo × Bool)) (newT n t) fun r => some (.tup [.agg r.1.cells, .c (.bool r.2)], []))
 | _, _ => none
variable {σ : Type} {I : Port Tryz.prog σ}
theorem xwz (hl : SoundL I ka18) : SoundF I 18 xry := by
 refine sq hl 30 Tryz.func18 fun args H t ht => ?_
 unfold xry at ht
 split at ht
 ·rename_i n t
  cases ht
  refine Eq.trans ?_ (xuN n t _).symm
  kernel_rfl
 ·cases ht
end Go.Proofs.YtaegelbaghaooaaGreat.Lx
