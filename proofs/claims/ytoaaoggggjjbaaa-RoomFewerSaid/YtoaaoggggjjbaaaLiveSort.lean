/- maps.Keys and slices.Sorted at heap.Live's map. -/
import Derived.Test.YtoaaoggggjjbaaaLiveKit
import Derived.Shelf.SlIterI.Sorted
import Derived.Shelf.SlIterI.Keys
namespace Go.Proofs.Ytoaaoggggjjbaaa
open Go.RowKit Go.Deep Go.Sort Go.Lib Go.Maps Go.Shelf
theorem Try.sortsA (m : Nat) : AnyZI.SortsIn Try.prog Try.sortedA_ren Fence.wide m :=
  ⟨fun blk off cap ss W hH hblk hsz => callsIn_wide.2 (Try.slices_Sort_int blk off cap ss W hH hblk hsz),
   fun p cap W => callsIn_wide.2 (Try.slices_Sort_int_none p cap W)⟩
theorem keys_any (mb : Option Nat) (w : World) : Calls Try.prog 32 #[.map mb] w fun e w' => e = .returned (.func (.func 48) #[] #[.pointer (some ⟨w.heap.size, 0, none⟩)]) ∧ w' = w.alloc (.cells #[.map mb] 57) :=
  (callsIn_wide (n := 5)).1 (AnyZI.keys_in Try.keysA Fence.wide 5 trivial rfl mb w)
theorem sorted_any (b n : Nat) (l : List (Int × Blk)) (w W : World) (hown : IM.Own blkEl Try.prog 3 w b n l) (hl : IM.Rising l) (hn : n ≤ 1000000) (hW : W = w.alloc (.cells #[.map (some b)] 57)) :
    Calls Try.prog 31 #[.func (.func 48) #[] #[.pointer (some ⟨w.heap.size, 0, none⟩)]] W fun e w' => ∃ v, e = .returned v ∧ w'.ownsRow W.heap.size 3 1 v l.length ((l.map (·.1)).map encZ) ∧ Below W.heap.size W w' := by
  subst hW
  have hsz : Maps.size (IM.toD blkEl.dv l) = l.length := IM.toD_size _ _
  have hle := hown.length
  have hseq : SeqGives Fence.wide 2 Try.prog 48 #[.pointer (some ⟨w.heap.size, 0, none⟩)] encZ (fun ss => ss.Perm (intKeys (IM.toD blkEl.dv l))) (Maps.size (IM.toD blkEl.dv l)) (w.alloc (.cells #[.map (some b)] 57)) :=
    AnyZI.keys_gives (ρ := Try.keysA_ren) { Try.keysA with } Fence.wide _ trivial rfl (by omega) w.heap.size b n (IM.toD blkEl.dv l) _ (by simp) (by simp) (hown.alloc _)
  have cS := AnyZI.sorted_in Try.sortedA Fence.wide 5 trivial trivial trivial trivial rfl (by omega) (Try.sortsA _) (enters_of Try.func47 (by kernel_rfl) rfl) 48 #[.pointer (some ⟨w.heap.size, 0, none⟩)] trivial (enters_of Try.func48 (by kernel_rfl) rfl) _ _ (by rw [hsz]; unfold maxLen; omega) (by rw [hsz]; omega) _ hseq
  change CallsIn _ _ Try.prog 31 _ _ _ at cS
  refine (callsIn_wide.1 cS).mono ?_
  rintro e w' ⟨v, ss, rfl, hS, hrow, hnil, hb⟩
  rw [IM.toD_keys] at hS
  have hk : (l.map (·.1)).Pairwise (· < ·) := by
    rw [List.pairwise_map]
    exact hl
  rw [mergeSort_perm hS hk] at hrow
  have hlen : ss.length = l.length := by rw [hS.length_eq]; simp
  rw [hlen] at hrow
  exact ⟨v, rfl, hrow, hb⟩
end Go.Proofs.Ytoaaoggggjjbaaa
