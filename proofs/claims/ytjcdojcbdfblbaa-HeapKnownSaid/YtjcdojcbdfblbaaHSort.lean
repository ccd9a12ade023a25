/- slices.Sorted of maps.Keys at an own map, as a summary. -/
import Derived.Test.YtjcdojcbdfblbaaHMaps
import Derived.Test.YtjcdojcbdfblbaaShelf
import Derived.Test.YtjcdojcbdfblbaaIMapKeys
namespace Go.Proofs.Ytjcdojcbdfblbaa.Lx
open Go Go.RowKit Go.Maps Go.Shelf Go.Sort Go.Lib
set_option linter.unusedVariables false
theorem mergeSort_perm {l ss : List Int} (hp : ss.Perm l) (hl : l.Pairwise (· < ·)) : ss.mergeSort (fun x y => decide (x ≤ y)) = l := by
  have h1 : (ss.mergeSort (fun x y => decide (x ≤ y))).Pairwise (fun x y => decide (x ≤ y) = true) :=
    List.pairwise_mergeSort (le := fun x y => decide (x ≤ y)) (fun a b c h1 h2 => by simp at *; omega) (fun a b => by simp; omega) ss
  have h2 : (ss.mergeSort (fun x y => decide (x ≤ y))).Perm l := (List.mergeSort_perm _ _).trans hp
  refine h2.eq_of_pairwise (le := fun x y => decide (x ≤ y) = true) ?_ h1 (hl.imp fun h => by simp; omega)
  intro a b _ _ h3 h4
  simp at h3 h4
  omega
theorem sortsA (m : Nat) : AnyZI.SortsIn Try.prog Try.sortedA_ren Fence.wide m :=
  ⟨fun blk off cap ss W hH hblk hsz => callsIn_wide.2 (Try.slices_Sort_int blk off cap ss W hH hblk hsz),
   fun p cap W => callsIn_wide.2 (Try.slices_Sort_int_none p cap W)⟩
theorem sorted_any {g : Bool} {sh : List CK} (bx b n : Nat) (l : List (Int × List Int)) (w : World) (hbx : bx < w.heap.size) (hm : w.cell? ⟨bx, 0, none⟩ = some (.map (some b))) (hown : IM.Own (rowEl g sh) Try.prog 3 w b n l) (hl : IM.Rising l) (hn : n ≤ 1000000) :
    Calls Try.prog 27 #[.func (.func 43) #[] #[.pointer (some ⟨bx, 0, none⟩)]] w fun e w' => ∃ v, e = .returned v ∧ w'.ownsRow w.heap.size 3 1 v l.length ((l.map (·.1)).map encZ) ∧ Below w.heap.size w w' := by
  have hsz : Maps.size (IM.toD (rowEl g sh).dv l) = l.length := IM.toD_size _ _
  have hle := hown.length
  have hseq : SeqGives Fence.wide 2 Try.prog 43 #[.pointer (some ⟨bx, 0, none⟩)] encZ (fun ss => ss.Perm (intKeys (IM.toD (rowEl g sh).dv l))) (Maps.size (IM.toD (rowEl g sh).dv l)) w :=
    AnyZI.keys_gives (ρ := Try.keysA_ren) { Try.keysA with } Fence.wide _ trivial rfl (by omega) bx b n (IM.toD (rowEl g sh).dv l) _ hbx hm hown
  have cS := AnyZI.sorted_in Try.sortedA Fence.wide 5 trivial trivial trivial trivial rfl (by omega) (sortsA _) (enters_of Try.func42 (by kernel_rfl) rfl) 43 #[.pointer (some ⟨bx, 0, none⟩)] trivial (enters_of Try.func43 (by kernel_rfl) rfl) _ _ (by rw [hsz]; unfold maxLen; omega) (by rw [hsz]; omega) _ hseq
  change CallsIn _ _ Try.prog 27 _ _ _ at cS
  refine (callsIn_wide.1 cS).mono ?_
  rintro e w' ⟨v, ss, rfl, hS, hrow, hnil, hb⟩
  rw [IM.toD_keys] at hS
  have hk : (l.map (·.1)).Pairwise (· < ·) := by
    rw [List.pairwise_map]
    exact hl
  rw [mergeSort_perm hS hk] at hrow
  have hlen : ss.length = l.length := by rw [hS.length_eq]; simp
  rw [hlen] at hrow
  exact ⟨v, rfl, hrow, hb⟩
theorem den_ints (pv : Value) (e : Env) (k : IntKind) : ∀ l : List Int, denL pv e (l.map (C.int k)) = some (l.map (Value.int k))
  | [] => rfl
  | z :: l => by simp only [List.map_cons, denL, den, den_ints pv e k l]
def mSort : Sm := fun args H => match args with
  | [.c (.fn f [.ptr bx 0])] => match Nat.beq f 43 with
    | true => match blkAt H bx with
      | some kx => match kx.tab, kx.cells with
        | none, [.mp mb] => match blkAt H mb with
          | some km => match km.mapped with
            | some (g, sh, l) => match risingB l && (Nat.ble 1 l.length && Nat.ble l.length 1000) with
              | true => some (mkS Unit (.ret ()) fun _ => some (.c (.slg H.length 0 l.length), newB H ⟨l.map fun r => .int .i64 (keyR r), 3, true, none⟩))
              | false => none
            | _ => none
          | none => none
        | _, _ => none
      | none => none
    | false => none
  | _ => none
theorem s_sort : SoundF NP 27 mSort := by
  refine ⟨⟨_, _, Try.func27, by kernel_rfl, rfl⟩, fun args H S hS e w s F vs E hv hR hF x v H' s' hrun hfx => ?_⟩
  unfold mSort at hS
  split at hS
  rotate_left
  · cases hS
  rename_i f bx
  split at hS
  rotate_left
  · cases hS
  rename_i hf
  obtain rfl := Nat.eq_of_beq_eq_true hf
  split at hS
  rotate_left
  · cases hS
  rename_i kx hkx
  split at hS
  rotate_left
  · cases hS
  rename_i mb htx hcx
  split at hS
  rotate_left
  · cases hS
  rename_i km hkm
  split at hS
  rotate_left
  · cases hS
  rename_i g sh l hmp
  split at hS
  rotate_left
  · cases hS
  rename_i hok
  cases hS
  simp only [T.run, Option.some.injEq, Prod.mk.injEq] at hrun hfx
  obtain ⟨rfl, rfl⟩ := hfx
  simp only [Bool.and_eq_true, Nat.ble_eq] at hok
  obtain ⟨o1, o2, o3⟩ := hok
  obtain ⟨r2, cs2, hr2, _, hl2⟩ := E.lies mb km hkm
  have hM := hl2.map hmp
  obtain ⟨r, cs, tl, hr, hd, hw, _, _⟩ := E.row bx kx hkx (Blk.win_none htx) (Blk.virt_none htx) (Blk.mapped_none htx)
  rw [Blk.real_none htx, hcx] at hd
  simp only [denL, den, hr2, Option.map_some, Option.some.injEq] at hd
  subst hd
  simp only [allSome, denV, den, denL, hr, Option.map_some, Option.some.injEq] at hv
  subst hv
  have o := hM Try.prog 3 Try.underlying3
  refine (sorted_any r.1 r2.1 l.length (l.map pairR) w (Array.getElem?_eq_some_iff.1 hw).1 (by simp [World.cell?, hw]) o (risingB_eq o1) (by omega)).mono ?_
  rintro en w' ⟨v, rfl, hrow, hb⟩
  rw [List.length_map] at hrow
  have hlen := hrow.1
  rcases hrow.2 with ⟨_, h0⟩ | ⟨g', cap, cur, rfl, hbase, hgw, hgn, hgc, hgs, hgt⟩
  · omega
  have hgr : w.grownBy w' none := ⟨hb.os, hb.tape, hb.output, hb.size, fun k hk _ => hb.block k hk⟩
  have hden : denL NP.pv e (l.map fun r => C.int .i64 (keyR r)) = some (((l.map pairR).map (·.1)).map encZ) := by
    have := den_ints NP.pv e .i64 (l.map keyR)
    rw [List.map_map, List.map_map] at this
    rw [List.map_map, List.map_map]
    exact this
  have hl2 : (((l.map pairR).map (·.1)).map encZ).length = l.length := by simp
  have hE := E.grew (H1 := H) (row := none) (kn := ⟨l.map fun r => .int .i64 (keyR r), 3, true, none⟩) (vs := ((l.map pairR).map (fun p : Int × List Int => p.1)).map encZ) rfl (fun i k hk => ⟨hk, fun _ _ _ h => by cases h⟩) hgr (Blk.ok_none rfl) (Blk.win_none rfl) rfl rfl hden hgw hgc (by show cur.size = cap * 1; exact hgs) (by rw [hl2]; simpa using hgt) (.inr hbase) (Blk.mapped_none rfl)
  have hel := E.len
  refine ⟨e ++ [(g', cap)], F, _, rfl, ⟨_, rfl⟩, ?_, hE, hR, fun b hb' hf => ?_, grown_keeps hgr, fun q b hb' => ?_⟩
  · simp only [denV, den]
    rw [List.getElem?_append_right (by omega), show H.length - e.length = 0 by omega]
    simp only [List.getElem?_cons_zero, Option.bind_some]
    rw [if_pos (by omega)]
    simp only [Nat.sub_zero, ite_self]
  · exact hR b hf
  · rcases hb' with hb' | hb'
    · rcases own_grew E.len rfl (fun i k hk => hk) hb' with h2 | rfl
      · exact .inl h2
      · exact .inr (.inr hbase)
    · exact .inr (.inl hb')
end Go.Proofs.Ytjcdojcbdfblbaa.Lx
