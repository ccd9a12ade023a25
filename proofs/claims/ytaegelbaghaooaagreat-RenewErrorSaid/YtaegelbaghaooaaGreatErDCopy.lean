/- A memory is copied: slices.Clone, mem.Copy; looks at the copy. -/
import Derived.Test.YtaegelbaghaooaaGreatErM4
import Derived.Test.YtaegelbaghaooaaGreatErQMem
import Derived.WalkKit
import Derived.Lib.Walk
import Derived.Lib.SliceRun
import Derived.Laws.AppendOwn
set_option linter.all false
open Go.IntKind (i64 u64 u32 u8)
namespace Go.Proofs.YtaegelbaghaooaaGreat
open Go.Shelf Go.RowKit Go.Lib Lx
set_option maxRecDepth 100000
def xmv (w : World) (e : TypeId) (n : Nat) (xs : List Value) (en : Ending) (w' : World) : Prop := ∃ v', en = .returned v' /\ w'.ownsRow w.heap.size e 1 v' n xs /\ v' ≠ .slice none 0 0 /\ Below w.heap.size w w'
theorem xjx (b n c : Nat) (news : List Value) (w : World) (hl : news.length = n) (hn : n <= 1000000)
  (hc : ∀ j u, news[j]? = some u -> w.cell? ⟨b, 0 + j, none⟩ = some u) (h1 : ∀ u ∈ news, u.oneCell' = true) :
  Calls Tryz.prog 122 #[.slice (some ⟨b, 0, none⟩) n c] w (xmv w 34 n news) := by
 obtain ⟨i0, hi, hz0, hz1, hz2⟩ := xbT (t := 34) (n := 1) (b := 8) (z := .int .u64 0) (by kernel_rfl) (by kernel_rfl)
 have q22 : ∀ (w : World) (a : Option Addr) (n c n' c' : Nat), (binOp .eql 185 (.slice a n c) (.slice none n' c')).run Tryz.prog w = .ok (.bool a.isNone) w := fun w a n c n' c' => Lib.run_eql_slice_nil w _ _ a n c n' c' Tryz.underlying185
 have A := Lib.hid hc
 have hl' : news.length = n * 1 := by omega
 have hbig : n * 8 <= 140737488355328 := by omega
 have hmax : n <= maxLen := by unfold maxLen; omega
 clear hc
 go_enter Tryz.func122, Tryz.ntmps122
 go_wp2_with (at_builtin; refine wpList_append_own _ rfl _ _ 185 rfl w.heap.size 34 i0 (.int .u64 0) 1 8 Tryz.underlying185 hi hz0 hz1 hz2 rfl (by omega) _ _ _ rfl (World.ownsRow_made w #[] 0 (Nat.le_refl _) (Nat.zero_le _) (by simp)) ⟨b, 0, none⟩ n c news rfl ?qc1 ?qc2 ?qc3 ?qc4 ?qc5 ?qc6 ?_)
 case qc1 => exact hl'
 case qc2 =>
  intro j u hj
  rw [Addr.add_lit]
  exact Lib.cell?_alloc_some _ (A.out j u hj)
 case qc3 => exact h1
 case qc4 => rw [Nat.zero_add]; exact hmax
 case qc5 => rw [Nat.zero_add]; exact hbig
 case qc6 => simp
 intro v' w1 hown hgrow hnil
 go_wp2
 go_ret
 refine ⟨v', rfl, by simpa using hown, ?_, ?_⟩
 ·exact hnil
 ·exact ((Below.refl _ w).alloc (Nat.le_refl _) _).grown hgrow (by simp) (by intro k hk; simp [Value.ownBlock] at hk; omega)
theorem xjy (b n c : Nat) (news : List Value) (w : World) (hl : news.length = n) (hn : n <= 1000000)
  (hc : ∀ j u, news[j]? = some u -> w.cell? ⟨b, 0 + j, none⟩ = some u) (h1 : ∀ u ∈ news, u.oneCell' = true) :
  Calls Tryz.prog 123 #[.slice (some ⟨b, 0, none⟩) n c] w (xmv w 5 n news) := by
 obtain ⟨i0, hi, hz0, hz1, hz2⟩ := xbT (t := 5) (n := 1) (b := 1) (z := .int .u8 0) (by kernel_rfl) (by kernel_rfl)
 have q22 : ∀ (w : World) (a : Option Addr) (n c n' c' : Nat), (binOp .eql 52 (.slice a n c) (.slice none n' c')).run Tryz.prog w = .ok (.bool a.isNone) w := fun w a n c n' c' => Lib.run_eql_slice_nil w _ _ a n c n' c' Tryz.underlying52
 have A := Lib.hid hc
 have hl' : news.length = n * 1 := by omega
 have hbig : n * 1 <= 140737488355328 := by omega
 have hmax : n <= maxLen := by unfold maxLen; omega
 clear hc
 go_enter Tryz.func123, Tryz.ntmps123
 go_wp2_with (at_builtin; refine wpList_append_own _ rfl _ _ 52 rfl w.heap.size 5 i0 (.int .u8 0) 1 1 Tryz.underlying52 hi hz0 hz1 hz2 rfl (by omega) _ _ _ rfl (World.ownsRow_made w #[] 0 (Nat.le_refl _) (Nat.zero_le _) (by simp)) ⟨b, 0, none⟩ n c news rfl ?qc1 ?qc2 ?qc3 ?qc4 ?qc5 ?qc6 ?_)
 case qc1 => exact hl'
 case qc2 =>
  intro j u hj
  rw [Addr.add_lit]
  exact Lib.cell?_alloc_some _ (A.out j u hj)
 case qc3 => exact h1
 case qc4 => rw [Nat.zero_add]; exact hmax
 case qc5 => rw [Nat.zero_add]; exact hbig
 case qc6 => simp
 intro v' w1 hown hgrow hnil
 go_wp2
 go_ret
 refine ⟨v', rfl, by simpa using hown, ?_, ?_⟩
 ·exact hnil
 ·exact ((Below.refl _ w).alloc (Nat.le_refl _) _).grown hgrow (by simp) (by intro k hk; simp [Value.ownBlock] at hk; omega)
end Go.Proofs.YtaegelbaghaooaaGreat
