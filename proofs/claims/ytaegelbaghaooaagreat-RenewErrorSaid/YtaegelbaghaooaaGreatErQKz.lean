/- AllocZeros: what its code asks for. -/
import Derived.Test.YtaegelbaghaooaaGreatErQKv
import Derived.Test.YtaegelbaghaooaaGreatErQRf1
import Derived.Test.YtaegelbaghaooaaGreatErQMem
set_option linter.all false
namespace Go.Proofs.YtaegelbaghaooaaGreat
open Go.RowKit Lx
set_option maxRecDepth 1000000
theorem xoZ {σ : Type} {I : Port Tryz.prog σ} {l k : List (Nat × Sm)} (h : SoundL I l) (h' : SoundL I k) : SoundL I (l ++ k) := fun f m hm => (List.mem_append.1 hm).elim (h f m) (h' f m)
noncomputable def kz0m : List (Nat × Sm) := (31, viaB "Put") :: (32, viaB "Get") :: (54, xjq) :: (34, xjr) :: (Lx.kr1 ++ kv5)
theorem xtr : SoundL NP kz0m := .cons s_putS <| .cons s_getS <| .cons xmm <| .cons xmn <| xoZ Lx.s_kr1 s_kv5
end Go.Proofs.YtaegelbaghaooaaGreat
