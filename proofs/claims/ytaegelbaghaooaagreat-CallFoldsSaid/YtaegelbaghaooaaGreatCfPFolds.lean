/- Part. -/
import Derived.Test.YtaegelbaghaooaaGreatCfPFold
import Derived.Test.YtaegelbaghaooaaGreatCfPBegun
import Derived.Test.YtaegelbaghaooaaGreatCfPTrod
set_option linter.all false
open Go.IntKind (i64 u64 u32 u8)
namespace Go.Proofs.YtaegelbaghaooaaGreat
open Go Go.RowKit Go.ChangeShapes Lx
set_option maxRecDepth 100000
theorem fo_yes {pages threads : Int} (h0 : 0 <= pages) (h1 : pages <= 255) (ht0 : 0 <= threads) (ht1 : threads <= 255) {Q : RowsL} (hQ : ∀ r ∈ Q, TurnOk r) {o c : Nat} {z : xcg} : Yes (foT pages threads o z Q.length c o Q) := by
 unfold foT foTK
 by_cases h30 : Q.length > 30
 ·exact Yes.yes (decide_eq_true (by omega)) Yes.ret
 refine Yes.no (decide_eq_false (by omega)) ?_
 obtain ⟨n, hn⟩ : ∃ n : Nat, pages % 10 + 1 = (n : Int) := ⟨(pages % 10 + 1).toNat, by omega⟩
 obtain ⟨t, ht⟩ : ∃ t : Nat, threads % 4 + 1 = (t : Int) := ⟨(threads % 4 + 1).toNat, by omega⟩
 have hn1 : 1 <= n := by omega
 have hn5 : n <= 10 := by omega
 have hf : Small n t := by
  have : t = 1 \/ t = 2 \/ t = 3 \/ t = 4 := by omega
  rcases this with rfl | rfl | rfl | rfl <;> exact ⟨⟨hn1, by omega, by omega, by omega⟩, by unfold nodesN; omega⟩
 have e1 : i64.wrap (i64.wrap (Int.tmod pages 10) + 1) = (n : Int) := by
  rw [Int.tmod_eq_emod_of_nonneg h0, w64 (x := pages % 10) (by omega) (by omega), w64 (by omega) (by omega)]; omega
 have e1t : i64.wrap (i64.wrap (Int.tmod threads 4) + 1) = (t : Int) := by
  rw [Int.tmod_eq_emod_of_nonneg ht0, w64 (x := threads % 4) (by omega) (by omega), w64 (by omega) (by omega)]; omega
 rw [e1, e1t]
 obtain ⟨u3, s3, u4, s4, A, g3, g4, hM, hz⟩ := xv7 hf
 refine Yes.run (xwl (t := t) hf.toFew) (Yes.guard (xmY hf) (Yes.run g3 (Yes.run g4 ?_)))
 exact fo0_yes hf (by omega) hM hz hQ (by omega) Yes.ret
theorem xgv {pages threads : Int} (h0 : 0 <= pages) (h1 : pages <= 255) (ht0 : 0 <= threads) (ht1 : threads <= 255) {k off : Nat} {z : Option Addr} {n c : Nat} {M : RowsL} (hn : M.length = n) (hM : ∀ r ∈ M, TurnOk r) (w : World) (hw : WinAt w k ⟨[], 116, false, some (.wrows off shT M)⟩) :
  Calls Tryz.prog 16 #[.int .u8 pages, .int .u8 threads, winV k off z n c] w fun e w' => e = .returned (.bool true) /\ Below w.heap.size w w' := by
 subst hn
 refine xuP (s_m_foT s_ke10) (args := [.c (.int .u8 pages), .c (.int .u8 threads), .c (.slw 0 off z M.length c)]) [(k, ⟨[], 116, false, some (.wrows off shT M)⟩)] rfl (fun p hp => ?_) rfl (fo_yes h0 h1 ht0 ht1 hM) rfl
 rw [List.mem_singleton] at hp
 subst hp
 exact hw
end Go.Proofs.YtaegelbaghaooaaGreat
