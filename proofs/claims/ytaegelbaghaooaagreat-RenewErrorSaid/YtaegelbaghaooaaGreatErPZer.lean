/- AllocZeros: the bytes of live blocks are 0. -/
import Derived.Test.YtaegelbaghaooaaGreatErPWhoT
import Derived.Test.YtaegelbaghaooaaGreatErPRenew
import Derived.Test.YtaegelbaghaooaaGreatErPYes
import Derived.Test.YtaegelbaghaooaaGreatErM9
import Derived.Test.YtaegelbaghaooaaGreatErQWin
import Derived.Test.YtaegelbaghaooaaGreatErQZe
set_option linter.all false
namespace Go.Proofs.YtaegelbaghaooaaGreat
open Go Go.RowKit Lx
set_option maxRecDepth 100000
theorem okP' {x y : Nat} {v : Int} (hx : x <= 1000000) (hy : y <= 1000000) (h0 : 0 <= v) (h1 : v <= 255) : (decide (True /\ True /\ True /\ True /\ x <= 1000000 /\ y <= 1000000) && decide (0 <= v /\ v <= 255)) = true := by
 rw [Bool.and_eq_true]
 exact ⟨decide_eq_true ⟨trivial, trivial, trivial, trivial, hx, hy⟩, decide_eq_true ⟨h0, h1⟩⟩
theorem qN {x y : Nat} (h : x < y) : decide ((x : Int) < (y : Int)) = true := decide_eq_true (by omega)
theorem VL {x y : Nat} (h : ¬ x < y) : decide ((x : Int) < (y : Int)) = false := decide_eq_false (by omega)
theorem HG.ext {n : Nat} {held : Nat -> Option HK} (h : HG n held) {g : Nat} {x : HK} (hg : held g = some x) : g + x.ext <= 8 * n := by
 cases x with
 | blk c => obtain ⟨_, p, j, q1, q2, q3⟩ := h.blk g c hg; have := xZ q2; simp only [HK.ext]; omega
 | run m => obtain ⟨_, p, q1, q2⟩ := h.run g m hg; simp only [HK.ext]; omega
end Go.Proofs.YtaegelbaghaooaaGreat
