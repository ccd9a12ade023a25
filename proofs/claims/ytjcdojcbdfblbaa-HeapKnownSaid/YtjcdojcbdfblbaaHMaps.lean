/- maps.Copy and maps.DeleteFunc at own maps of bytes, as summaries. -/
import Derived.Test.YtjcdojcbdfblbaaHFits
import Derived.Test.YtjcdojcbdfblbaaShelfH
namespace Go.Proofs.Ytjcdojcbdfblbaa.Lx
open Go Go.RowKit Go.Maps Go.Shelf
set_option linter.unusedVariables false
/-- a map's rows laid into another's. -/
def mergeR (ld ls : List (List Int)) : List (List Int) := ls.foldl (fun a r => mput (keyR r) (tailR r) a) ld
theorem merge_toD {g : Bool} {sh : List CK} : ∀ (ls ld : List (List Int)), Go.Lib.mergeD (IM.toD (rowEl g sh).dv (ld.map pairR)) (IM.toD (rowEl g sh).dv (ls.map pairR)) = IM.toD (rowEl g sh).dv ((mergeR ld ls).map pairR)
  | [], ld => rfl
  | r :: ls, ld => by
    have ih := merge_toD (g := g) (sh := sh) ls (mput (keyR r) (tailR r) ld)
    have e : (IM.toD (rowEl g sh).dv (ld.map pairR)).put (.int .i64 (keyR r)) ((rowEl g sh).dv (tailR r)) = IM.toD (rowEl g sh).dv ((mput (keyR r) (tailR r) ld).map pairR) := by
      rw [IM.toD_put, put_pair]
    show List.foldl _ (DataW.put _ _ _) _ = _
    have ih' : List.foldl (fun D p => D.put p.1 p.2) (IM.toD (rowEl g sh).dv ((mput (keyR r) (tailR r) ld).map pairR)) ((ls.map pairR).map fun p => (Lit.int .i64 p.1, (rowEl g sh).dv p.2)) = _ := ih
    rw [← e] at ih'
    exact ih'
def mCopy : List V → Heap → Option (V × Nat × List (List Int)) := fun args H => match args with
  | [.c (.mp bd), .c (.mp bs)] => match blkAt H bd, blkAt H bs with
    | some kd, some ks => match kd.mapped, ks.mapped with
      | some (false, [.int .u8], ld), some (false, [.int .u8], ls) => match !Nat.beq bd bs && Nat.ble (ld.length + ls.length) 1000 with
        | true => some (.tup [], bd, mergeR ld ls)
        | false => none
      | _, _ => none
    | _, _ => none
  | _ => none
theorem s_copy : SoundF NP 40 (turnS mCopy) := by
  refine sound_turn ⟨_, _, Try.func40, by kernel_rfl, rfl⟩ ?_
  intro args H v b l' hm k g sh l hk hmp e w vs r E hr hM hv
  unfold mCopy at hm
  split at hm
  rotate_left
  · cases hm
  rename_i bd bs
  split at hm
  rotate_left
  · cases hm
  rename_i kd ks hkd hks
  split at hm
  rotate_left
  · cases hm
  rename_i ld ls hmd hms
  split at hm
  rotate_left
  · cases hm
  rename_i hc
  simp only [Option.some.injEq, Prod.mk.injEq] at hm
  obtain ⟨rfl, rfl, rfl⟩ := hm
  rw [hkd] at hk
  cases hk
  rw [hmd] at hmp
  cases hmp
  simp only [Bool.and_eq_true, Bool.not_eq_true', Nat.ble_eq] at hc
  obtain ⟨hne0, hle⟩ := hc
  have hne := Nat.ne_of_beq_eq_false hne0
  obtain ⟨r2, cs2, hr2, _, hl2⟩ := E.lies bs ks hks
  have hM2 := hl2.map hms
  have hd : r.1 ≠ r2.1 := fun h => hne (E.inj bd bs k ks r r2 hkd hks hr hr2 h (Blk.mapped_win hmd).2.1 (Blk.mapped_win hms).2.1 (.inl (Blk.mapped_win hmd).1))
  simp only [allSome, denV, den, hr, hr2, Option.map_some, Option.some.injEq] at hv
  subst hv
  have o1 : IM.Own (rowEl false [.int .u8]) Try.prog 3 w r.1 l.length (l.map pairR) := hM Try.prog 3 Try.underlying3
  have o2 : IM.Own (rowEl false [.int .u8]) Try.prog 3 w r2.1 ls.length (ls.map pairR) := hM2 Try.prog 3 Try.underlying3
  have hs : Maps.size (IM.toD (rowEl false [.int .u8]).dv (ls.map pairR)) = ls.length := by rw [IM.toD_size, List.length_map]
  refine (AnyX.maps_Copy Try.copyB (int_keyed Try.underlying3) (rowEl false [.int .u8]).R r.1 r2.1 l.length ls.length _ _ w o1 o2 hd (by rw [hs]; unfold maxLen; omega)).mono ?_
  rintro en w' ⟨rfl, h1, _, hg⟩
  rw [merge_toD] at h1
  exact ⟨_, rfl, rfl, MapIs.of Try.underlying3 h1, hg⟩
/-- is a byte struck? -/
def struckB (pos n z : Int) : Bool := decide (z ≥ pos) && decide (wrap64 (z - pos) < n)
theorem comes1_any (ga ge : Nat) (z pos n : Int) (y : Value) (w : World) (h1 : w.cell? ⟨ga, 0, none⟩ = some (.int .i64 pos)) (h2 : w.cell? ⟨ge, 14, none⟩ = some (.int .i64 n)) :
    Calls Try.prog 39 #[.int .i64 z, y, .pointer (some ⟨ga, 0, none⟩), .pointer (some ⟨ge, 0, none⟩)] w fun e w' => e = .returned (.bool (struckB pos n z)) ∧ w.grownBy w' none := by
  unfold struckB
  have hg : ∀ n, w.grownBy (w.drewN n) none := fun n => ⟨rfl, rfl, rfl, Nat.le_refl _, fun _ _ _ => rfl⟩
  have hg0 : w.grownBy w none := ⟨rfl, rfl, rfl, Nat.le_refl _, fun _ _ _ => rfl⟩
  by_cases c : z ≥ pos
  · have cb : decide (z ≥ pos) = true := decide_eq_true c
    rw [cb, Bool.true_and]
    go_enter Try.func39, Try.ntmps39
    go_wp2
    go_ret
    exact ⟨rfl, hg0⟩
  · have cb : decide (z ≥ pos) = false := decide_eq_false c
    rw [cb, Bool.false_and]
    go_enter Try.func39, Try.ntmps39
    go_wp2
    go_ret
    exact ⟨rfl, hg0⟩
def delP (pos n : Int) : Lit → DataW Unit → Bool
  | .int .i64 z, _ => struckB pos n z
  | _, _ => false
theorem del_toD {g : Bool} {sh : List CK} (pos n : Int) (l : List (List Int)) : Go.Lib.deleteFuncD (delP pos n) (IM.toD (rowEl g sh).dv (l.map pairR)) = IM.toD (rowEl g sh).dv ((l.filter fun r => !struckB pos n (keyR r)).map pairR) := by
  unfold IM.toD Go.Lib.deleteFuncD
  simp only [List.map_map, List.filter_map]
  rfl
def mDel : List V → Heap → Option (V × Nat × List (List Int)) := fun args H => match args with
  | [.c (.mp b), .c (.fn f [.ptr ba 0, .ptr be 0])] => match Nat.beq f 39 with
    | true => match blkAt H b, blkAt H ba, blkAt H be with
      | some k, some ka, some ke => match k.mapped, ka.tab, ke.tab, ka.cells, ke.cells with
        | some (false, [.int .u8], l), none, none, [.int .i64 pos], _ :: _ :: _ :: _ :: _ :: _ :: _ :: _ :: _ :: _ :: _ :: _ :: _ :: _ :: .int .i64 n :: _ => some (.tup [], b, l.filter fun r => !struckB pos n (keyR r))
        | _, _, _, _, _ => none
      | _, _, _ => none
    | false => none
  | _ => none
theorem s_del : SoundF NP 38 (turnS mDel) := by
  refine sound_turn ⟨_, _, Try.func38, by kernel_rfl, rfl⟩ ?_
  intro args H v b l' hm k g sh l hk hmp e w vs r E hr hM hv
  unfold mDel at hm
  split at hm
  rotate_left
  · cases hm
  rename_i b0 f ba be
  split at hm
  rotate_left
  · cases hm
  rename_i hf
  obtain rfl := Nat.eq_of_beq_eq_true hf
  split at hm
  rotate_left
  · cases hm
  rename_i k0 ka ke hk0 hka hke
  split at hm
  rotate_left
  · cases hm
  rename_i l0 pos c0 c1 c2 c3 c4 c5 c6 c7 c8 c9 c10 c11 c12 c13 n tlc hmd hta hte hca hce
  simp only [Option.some.injEq, Prod.mk.injEq] at hm
  obtain ⟨rfl, rfl, rfl⟩ := hm
  rw [hk0] at hk
  cases hk
  rw [hmd] at hmp
  cases hmp
  obtain ⟨ra, csa, tla, hra, hda, hwa, _, _⟩ := E.row ba ka hka (Blk.win_none hta) (Blk.virt_none hta) (Blk.mapped_none hta)
  obtain ⟨re, cse, tle, hre, hde, hwe, _, _⟩ := E.row be ke hke (Blk.win_none hte) (Blk.virt_none hte) (Blk.mapped_none hte)
  have na : ra.1 ≠ r.1 := fun h => by
    have := E.inj ba b0 ka k ra r hka hk0 hra hr h (Blk.virt_none hta) (Blk.mapped_win hmd).2.1 (.inl (Blk.win_none hta))
    subst this
    rw [hka] at hk0
    cases hk0
    rw [Blk.mapped_none hta] at hmd
    cases hmd
  have ne : re.1 ≠ r.1 := fun h => by
    have := E.inj be b0 ke k re r hke hk0 hre hr h (Blk.virt_none hte) (Blk.mapped_win hmd).2.1 (.inl (Blk.win_none hte))
    subst this
    rw [hke] at hk0
    cases hk0
    rw [Blk.mapped_none hte] at hmd
    cases hmd
  simp only [allSome, denV, den, denL, hr, hra, hre, Option.map_some, Option.some.injEq] at hv
  subst hv
  rw [Blk.real_none hta, hca] at hda
  simp only [denL, den, Option.some.injEq] at hda
  subst hda
  have hxa : w.cell? ⟨ra.1, 0, none⟩ = some (.int .i64 pos) := by simp [World.cell?, hwa]
  have hxe : w.cell? ⟨re.1, 14, none⟩ = some (.int .i64 n) := by
    rw [Blk.real_none hte, hce, denL_eq] at hde
    obtain ⟨y, h1, h2⟩ := allSome_get _ _ _ hde 14 (.int .i64 n) rfl
    simp only [den, Option.some.injEq] at h1
    subst h1
    have hlt := (List.getElem?_eq_some_iff.1 h2).1
    simp only [World.cell?, hwe]
    rw [List.getElem?_toArray, List.getElem?_append_left hlt]
    exact h2
  have la : ra.1 < w.heap.size := (Array.getElem?_eq_some_iff.1 hwa).1
  have le : re.1 < w.heap.size := (Array.getElem?_eq_some_iff.1 hwe).1
  have o1 : IM.Own (rowEl false [.int .u8]) Try.prog 3 w r.1 l.length (l.map pairR) := hM Try.prog 3 Try.underlying3
  refine (AnyDf.maps_DeleteFunc Try.delB (int_keyed Try.underlying3) (rowEl false [.int .u8]).R (delP pos n) 39 #[.pointer (some ⟨ra.1, 0, none⟩), .pointer (some ⟨re.1, 0, none⟩)] r.1 l.length _ w (fun args w => by kernel_rfl) o1 ?_).mono ?_
  · intro W key val kl yd yp hg hkey hval
    obtain ⟨z, rfl, rfl, _⟩ := Maps.keyOf_int_inv Try.underlying3 hkey
    have ea : W.cell? ⟨ra.1, 0, none⟩ = some (.int .i64 pos) := by
      rw [World.cell?_of_block (a := ⟨ra.1, 0, none⟩) (hg.block ra.1 la (by simp only [ne_eq, Option.some.injEq]; exact na))]; exact hxa
    have ee : W.cell? ⟨re.1, 14, none⟩ = some (.int .i64 n) := by
      rw [World.cell?_of_block (a := ⟨re.1, 14, none⟩) (hg.block re.1 le (by simp only [ne_eq, Option.some.injEq]; exact ne))]; exact hxe
    exact comes1_any ra.1 re.1 z pos n val W ea ee
  · rintro en w' ⟨rfl, h1, hg⟩
    rw [del_toD] at h1
    exact ⟨_, rfl, rfl, MapIs.of Try.underlying3 h1, hg⟩
end Go.Proofs.Ytjcdojcbdfblbaa.Lx
