/- room.clear and room.Fits. -/
import Derived.Test.YtoaaoggggjjbaaaLive
namespace Go.Proofs.Ytoaaoggggjjbaaa
open Go.RowKit Go.Deep Go.Sort Go.Lib Go.Maps Go.Shelf
def hitB (b : Blk) (page k : Int) : Bool := decide (0 < b.room) && decide (b.pos < (page + k) * 64) && decide (page * 64 < wrap64 (b.pos + b.room))
theorem clear1_any (b : Blk) (page k : Int) (g1 g2 : Nat) (r : Bool) (hr : hitB b page k = r) (w : World) (h1 : 0 ≤ page) (h2 : page ≤ 256) (h3 : 0 ≤ k) (h4 : k ≤ 256) (hc1 : w.cell? ⟨g1, 0, none⟩ = some (.int .i64 page)) (hc2 : w.cell? ⟨g2, 0, none⟩ = some (.int .i64 k)) :
    Calls Try.prog 42 #[.agg b.cells.toArray, .pointer (some ⟨g1, 0, none⟩), .pointer (some ⟨g2, 0, none⟩)] w fun e w' => e = .returned (.bool r) ∧ w' = w.alloc (.cells b.cells.toArray 39) := by
  have c0 : b.cells[0]? = some (.int .i64 b.pos) := rfl
  have c2 : b.cells[2]? = some (.int .i64 b.room) := rfl
  have e1 : (w.alloc (.cells b.cells.toArray 39)).cell? ⟨g1, 0, none⟩ = some (.int .i64 page) := (World.grownBy_alloc w _ none).cell hc1 (by simp)
  have e2 : (w.alloc (.cells b.cells.toArray 39)).cell? ⟨g2, 0, none⟩ = some (.int .i64 k) := (World.grownBy_alloc w _ none).cell hc2 (by simp)
  unfold hitB at hr
  by_cases d1 : 0 < b.room
  · by_cases d2 : b.pos < (page + k) * 64
    · by_cases d3 : page * 64 < wrap64 (b.pos + b.room)
      · obtain rfl : true = r := by rw [← hr]; simp [d1, d2, d3]
        clear hr
        go_enter Try.func42, Try.ntmps42
        go_wp2
        go_ret
        exact ⟨rfl, rfl⟩
      · have d3' : decide (page * 64 < wrap64 (b.pos + b.room)) = false := by simpa using d3
        obtain rfl : false = r := by rw [← hr, d3']; simp
        clear hr d3
        go_enter Try.func42, Try.ntmps42
        go_wp2
        go_ret
        exact ⟨rfl, rfl⟩
    · have d2' : decide (b.pos < (page + k) * 64) = false := by simpa using d2
      obtain rfl : false = r := by rw [← hr, d2']; simp
      clear hr
      go_enter Try.func42, Try.ntmps42
      go_wp2
      go_ret
      exact ⟨rfl, rfl⟩
  · have d1' : decide (0 < b.room) = false := by simpa using d1
    obtain rfl : false = r := by rw [← hr, d1']; simp
    clear hr
    go_enter Try.func42, Try.ntmps42
    go_wp2
    go_ret
    exact ⟨rfl, rfl⟩
/-- a row of blocks. -/
def BlkIn (w : World) (A : Option Addr) (L : List Blk) : Prop := 0 < L.length → ∃ g o, A = some ⟨g, o, none⟩ ∧ g < w.heap.size ∧ ∀ i e, L[i]? = some e → w.rangeAt g (o + i * 3) e.cells
theorem BlkIn.below {w w' : World} {A : Option Addr} {L : List Blk} (h : BlkIn w A L) (hb : Below w.heap.size w w') : BlkIn w' A L := fun h0 => by
  obtain ⟨g, o, hA, hlt, hr⟩ := h h0
  exact ⟨g, o, hA, Nat.lt_of_lt_of_le hlt hb.size, fun i e he j v hv => (hb.cell (p := ⟨g, _, none⟩) hlt).trans (hr i e he j v hv)⟩
theorem BlkIn.of_own {w : World} {base : Nat} {v : Value} {L : List Blk} {n : Nat} (hn : L.length = n) (h : w.ownsRow base 39 3 v n (L.flatMap Blk.cells)) : ∃ A c, v = .slice A n c ∧ n ≤ c ∧ BlkIn w A L := by
  subst hn
  rcases h.2 with ⟨rfl, h0⟩ | ⟨g, cap, cur, rfl, hbase, hb', h1, h2, h3, h4⟩
  · exact ⟨none, 0, by rw [h0], by omega, fun h => by omega⟩
  · refine ⟨_, _, rfl, h1, fun h0 => ⟨g, 0, rfl, (Array.getElem?_eq_some_iff.1 hb').1, fun i e he j u hu => ?_⟩⟩
    have hi : i < L.length := (List.getElem?_eq_some_iff.1 he).1
    have hj : j < 3 := by
      have := (List.getElem?_eq_some_iff.1 hu).1
      rwa [Blk.cells_length] at this
    have e1 : L[i] = e := (List.getElem?_eq_some_iff.1 he).2
    have hf := St.flat_at (enc := Blk.cells) (k := 3) Blk.cells_length L i hi j hj
    rw [e1, hu] at hf
    rw [cell_of_row w g _ cur _ (0, 0) hb', Nat.zero_add, ← Array.getElem?_toList]
    have hlt : i * 3 + j < L.length * 3 := by omega
    rw [← List.getElem?_take_of_lt hlt, h4]
    exact hf
theorem Try.size_block : (Try.prog.info? 39).map (·.size) = some 3 := by kernel_rfl
set_option maxRecDepth 100000 in
theorem indexFunc_any (A : Option Addr) (n c : Nat) (L : List Blk) (page k : Int) (g1 g2 : Nat) (w : World) (hn : L.length = n) (hnc : n ≤ 1000) (hL : BlkIn w A L) (h1 : 0 ≤ page) (h2 : page ≤ 256) (h3 : 0 ≤ k) (h4 : k ≤ 256) (hg1 : g1 < w.heap.size) (hg2 : g2 < w.heap.size) (hc1 : w.cell? ⟨g1, 0, none⟩ = some (.int .i64 page)) (hc2 : w.cell? ⟨g2, 0, none⟩ = some (.int .i64 k)) :
    Calls Try.prog 61 #[.slice A n c, .func (.func 42) #[] #[.pointer (some ⟨g1, 0, none⟩), .pointer (some ⟨g2, 0, none⟩)]] w fun e w' =>
      ∃ r : Int, e = .returned (.int .i64 r) ∧ decide (0 ≤ r) = (L.any fun b => hitB b page k) ∧ Below w.heap.size w w' := by
  have HC1 := Lib.hid hc1
  have HC2 := Lib.hid hc2
  have HL := Lib.hid hL
  have HN := Lib.hid hn
  have enters := enters_of Try.func42 (by kernel_rfl) rfl
  clear hc1 hc2 hL hn
  go_enter Try.func61, Try.ntmps61
  go_wp2
  go_loopw [8] (fun i wr => ∃ j : Nat, j ≤ n ∧ i = .int .i64 j ∧ (∀ b ∈ L.take j, hitB b page k = false) ∧ Below w.heap.size w wr) (fun i _ => n - (intOf i).toNat)
  case atStart => exact ⟨0, Nat.zero_le _, rfl, by simp, Below.refl _ _⟩
  case round =>
    obtain ⟨j, hj, rfl, hno, hbel⟩ := hrel
    have HNo := Lib.hid hno
    clear hno
    by_cases hlt : j < n
    · have hjl : j < L.length := by rw [HN.out]; exact hlt
      obtain ⟨g, o, rfl, hg, hr⟩ := (HL.out.below hbel) (by omega)
      have hrj := hr j L[j] (List.getElem?_eq_getElem hjl)
      have hts := List.take_succ_eq_append_getElem hjl
      have hmem : L[j] ∈ L := List.getElem_mem hjl
      generalize L[j] = b at hrj hts hmem
      have HTS := Lib.hid hts
      have HME := Lib.hid hmem
      clear hts hr hmem
      obtain ⟨r, hr⟩ : ∃ r, hitB b page k = r := ⟨_, rfl⟩
      have hcc := clear1_any b page k g1 g2 r hr wr h1 h2 h3 h4 ((hbel.cell (by exact hg1)).trans HC1.out) ((hbel.cell (by exact hg2)).trans HC2.out)
      have HCC := Lib.hid hcc
      clear hcc
      go_wp2_with (first
        | (refine wpList_load_mid rfl 39 (.tmp 14) rfl g (o + j * 3) rfl b.cells _ hrj Try.underlying39 rfl Try.size_block ?_))
      refine HCC.out.mono ?_
      rintro e w1 ⟨rfl, hw1⟩
      have hb1 : Below w.heap.size w w1 := by rw [hw1]; exact hbel.alloc hbel.size _
      clear hw1 HCC hbel hrj
      cases r
      · go_wp2
        go_roundw
        case rel =>
          refine ⟨j + 1, by omega, by go_num, fun x hx => ?_, hb1⟩
          rw [HTS.out] at hx
          rcases List.mem_append.1 hx with hx | hx
          · exact HNo.out x hx
          · simp at hx; rw [hx]; exact hr
        case measure => simp [intOf]; omega
      · go_wp2
        go_ret
        refine ⟨_, rfl, ?_, hb1⟩
        have : (L.any fun b => hitB b page k) = true := List.any_eq_true.2 ⟨b, HME.out, hr⟩
        rw [this]
        simp
    · obtain rfl : j = n := by omega
      have hall : L.take j = L := List.take_of_length_le (by rw [HN.out]; omega)
      go_wp2
      go_ret
      refine ⟨_, rfl, ?_, hbel⟩
      have h := HNo.out
      rw [hall] at h
      have : (L.any fun b => hitB b page k) = false := by
        rw [List.any_eq_false]
        intro x hx
        simp [h x hx]
      rw [this]
      simp
def clearB (L : List Blk) (page k : Int) : Bool := !(L.any fun b => hitB b page k)
theorem containsFunc_any (A : Option Addr) (n c : Nat) (L : List Blk) (page k : Int) (g1 g2 : Nat) (w : World) (hn : L.length = n) (hnc : n ≤ 1000) (hL : BlkIn w A L) (h1 : 0 ≤ page) (h2 : page ≤ 256) (h3 : 0 ≤ k) (h4 : k ≤ 256) (hg1 : g1 < w.heap.size) (hg2 : g2 < w.heap.size) (hc1 : w.cell? ⟨g1, 0, none⟩ = some (.int .i64 page)) (hc2 : w.cell? ⟨g2, 0, none⟩ = some (.int .i64 k)) :
    Calls Try.prog 41 #[.slice A n c, .func (.func 42) #[] #[.pointer (some ⟨g1, 0, none⟩), .pointer (some ⟨g2, 0, none⟩)]] w fun e w' =>
      e = .returned (.bool (L.any fun b => hitB b page k)) ∧ Below w.heap.size w w' := by
  have HI := Lib.hid (indexFunc_any A n c L page k g1 g2 w hn hnc hL h1 h2 h3 h4 hg1 hg2 hc1 hc2)
  clear hL hc1 hc2
  go_enter Try.func41, Try.ntmps41
  go_wp2_with fail
  refine HI.out.mono ?_
  rintro e w1 ⟨r, rfl, hr, hb⟩
  go_wp2
  go_ret
  exact ⟨rfl, hb⟩
theorem clear_any (A : Option Addr) (n c : Nat) (L : List Blk) (page k : Int) (w : World) (hn : L.length = n) (hnc : n ≤ 1000) (hL : BlkIn w A L) (h1 : 0 ≤ page) (h2 : page ≤ 256) (h3 : 0 ≤ k) (h4 : k ≤ 256) :
    Calls Try.prog 26 #[.slice A n c, .int .i64 page, .int .i64 k] w fun e w' =>
      e = .returned (.bool (clearB L page k)) ∧ Below w.heap.size w w' := by
  have hL2 : BlkIn ((w.alloc (.cells #[.int .i64 page] 3)).alloc (.cells #[.int .i64 k] 3)) A L := (hL.below ((Below.refl _ w).alloc (Nat.le_refl _) _)).below ((Below.refl _ _).alloc (Nat.le_refl _) _)
  have HI := Lib.hid (containsFunc_any A n c L page k w.heap.size (w.heap.size + 1) _ hn hnc hL2 h1 h2 h3 h4 (by simp; omega) (by simp) (by simp) (by simp))
  clear hL hL2
  go_enter Try.func26, Try.ntmps26
  go_wp2_with fail
  refine HI.out.mono ?_
  rintro e w1 ⟨rfl, hb⟩
  have hb2 : Below w.heap.size w w1 := (((Below.refl _ w).alloc (Nat.le_refl _) _).alloc (by simp) _).trans (hb.mono (by simp; omega))
  go_wp2
  go_ret
  exact ⟨rfl, hb2⟩
theorem live_length (L : List Ev) : (liveM L).length ≤ L.length := by
  induction L using St.snoc_ind with
  | h0 => simp [liveM]
  | h1 l e ih =>
    rw [liveM_snoc]
    have h1 : (if endsB e then IM.delI e.call.pos (liveM l) else liveM l).length ≤ (liveM l).length := by
      split
      · exact List.length_filter_le _ _
      · exact Nat.le_refl _
    unfold liveStep
    simp only [List.length_append, List.length_singleton]
    split
    · exact Nat.le_trans (IM.length_put _ _ _) (by omega)
    · omega
/-- are there k pages, at a multiple of a, among P pages? -/
def fitsN (L : List Blk) (P : Nat) (k a : Int) : Bool := (List.range P).any fun p => decide ((p : Int) % a = 0) && decide (k ≤ (P : Int) - p) && clearB L p k
def fitsV (L : List Blk) (pages k a : Int) : Bool := decide (1 ≤ k) && decide (1 ≤ a) && fitsN L (min pages 256).toNat k a
theorem fitsN_true {L : List Blk} {P : Nat} {k a : Int} (p : Nat) (h1 : p < P) (h2 : (p : Int) % a = 0) (h3 : k ≤ (P : Int) - p) (h4 : clearB L p k = true) : fitsN L P k a = true := by
  unfold fitsN
  rw [List.any_eq_true]
  refine ⟨p, List.mem_range.2 h1, ?_⟩
  rw [h4, show decide ((p : Int) % a = 0) = true by simpa using h2, show decide (k ≤ (P : Int) - p) = true by simpa using h3]
  rfl
theorem fitsN_false {L : List Blk} {P : Nat} {k a : Int} (h : ∀ p : Nat, p < P → (p : Int) % a = 0 → k ≤ (P : Int) - p → clearB L p k = false) : fitsN L P k a = false := by
  unfold fitsN
  rw [List.any_eq_false]
  intro p hp
  simp only [Bool.and_eq_true, decide_eq_true_eq]
  rintro ⟨⟨h2, h3⟩, h4⟩
  have := h p (List.mem_range.1 hp) h2 h3
  rw [this] at h4
  cases h4
/-- no page is left out between two rounds. -/
theorem skip_page {p P q s : Nat} {a : Int} (hs : (s : Int) = min a P) (hp : (p : Int) % s = 0) (h0 : p < P) (h1 : p < q) (h2 : q < p + s) : (q : Int) % a ≠ 0 := by
  intro h
  rcases Int.le_total a P with hle | hle
  · have hsa : (s : Int) = a := by omega
    rw [hsa] at hp
    have e1 : (q : Int) = p + (q - p : Int) := by omega
    have : ((q : Int) - p) % a = 0 := by rw [Int.sub_emod, h, hp]; simp
    rw [Int.emod_eq_of_lt (by omega) (by omega)] at this
    omega
  · have hsP : s = P := by omega
    have hp0 : p = 0 := by
      rw [hsP, Int.emod_eq_of_lt (by omega) (by omega)] at hp
      omega
    rw [Int.emod_eq_of_lt (by omega) (by omega)] at h
    omega
theorem at_page {p P s : Nat} {a : Int} (hs : (s : Int) = min a P) (hp : (p : Int) % s = 0) (h0 : p < P) : (p : Int) % a = 0 := by
  rcases Int.le_total a P with hle | hle
  · have hsa : (s : Int) = a := by omega
    rwa [hsa] at hp
  · have hsP : s = P := by omega
    have hp0 : p = 0 := by
      rw [hsP, Int.emod_eq_of_lt (by omega) (by omega)] at hp
      omega
    rw [hp0]; rfl
set_option maxRecDepth 100000 in
set_option maxHeartbeats 1000000 in
theorem fits_any (A : Option Addr) (n c : Nat) (es : List Ev) (pages step k a : Int) (w : World) (hE : EvRow w w.heap.size A n c es) (hn : n ≤ 1000) (h64 : i64ok pages) :
    Calls Try.prog 10 #[.slice A n c, .int .i64 pages, .int .i64 step, .int .i64 k, .int .i64 a] w fun e w' => e = .returned (.bool (fitsV (liveV es step) pages k a)) ∧ Below w.heap.size w w' := by
  have HLv := Lib.hid (live_any A n c es step w hE hn)
  have hll : (liveV es step).length ≤ 1000 := by
    unfold liveV
    rw [List.length_map]
    exact Nat.le_trans (live_length _) (Nat.le_trans (taken_length es step) (by rw [hE.1]; exact hn))
  unfold fitsV
  generalize liveV es step = L at HLv hll
  obtain ⟨h64a, h64b⟩ := h64
  clear hE
  by_cases hk : 1 ≤ k
  · by_cases ha : 1 ≤ a
    · rw [show decide (1 ≤ k) = true by simpa using hk, show decide (1 ≤ a) = true by simpa using ha, Bool.true_and, Bool.true_and]
      obtain ⟨P, hP⟩ : ∃ P, (min pages 256).toNat = P := ⟨_, rfl⟩
      rw [hP]
      obtain ⟨pg, hpg⟩ : ∃ pg : Int, min pages 256 = pg := ⟨_, rfl⟩
      rw [hpg] at hP
      obtain ⟨s, hs⟩ : ∃ s : Nat, (s : Int) = min a P := ⟨(min a P).toNat, by omega⟩
      go_enter Try.func10, Try.ntmps10
      go_wp2_with fail
      refine HLv.out.mono ?_
      rintro e0 w0 ⟨v, rfl, hown, hb0⟩
      obtain ⟨A2, c2, rfl, hc2, hin⟩ := BlkIn.of_own rfl hown
      have HIn := Lib.hid hin
      clear HLv hown hin
      go_wp2
      have HPG := Lib.hid hpg
      have hP2 : 0 < P → pg = P := fun _ => by omega
      have hP3 : pg ≤ P ∧ P ≤ 256 := by omega
      have hs2 : 0 < P → min a pg = s := fun h => by rw [hP2 h, hs]
      have hs3 : s ≤ 256 ∧ (0 < P → 1 ≤ s) := by omega
      have HS := Lib.hid hs
      have HS2 := Lib.hid hs2
      have HP2 := Lib.hid hP2
      clear hpg hs hs2 hP hP2
      obtain ⟨hP3, hP4⟩ := hP3
      go_loopw [12] (fun i wr => ∃ p : Nat, p ≤ 512 ∧ i = .int .i64 p ∧ (p : Int) % s = 0 ∧ (∀ q : Nat, q < p → q < P → (q : Int) % a = 0 → k ≤ (P : Int) - q → clearB L q k = false) ∧ Below w0.heap.size w0 wr) (fun i _ => P - (intOf i).toNat)
      case atStart => exact ⟨0, by omega, rfl, by simp, fun q hq => by omega, Below.refl _ _⟩
      case round =>
        obtain ⟨p, hp5, rfl, hps, hno, hbel⟩ := hrel
        have HNo := Lib.hid hno
        have HPs := Lib.hid hps
        clear hno hps
        by_cases hlt : (p : Int) < pg
        · obtain ⟨hpP, hpP'⟩ : pg ≤ P ∧ P ≤ pg := by have := HP2.out (by omega); omega
          have hsp := hs3.2 (by omega)
          by_cases hfit : k ≤ pg - p
          · have hat := at_page HS.out HPs.out (by omega)
            have hrem : Int.tmod (p : Int) a = 0 := by rw [Int.tmod_eq_emod_of_nonneg (by omega)]; exact hat
            have hmin := HS2.out (by omega)
            obtain ⟨r, hr⟩ : ∃ r, clearB L p k = r := ⟨_, rfl⟩
            have hcl := clear_any A2 L.length c2 L p k wr rfl hll (HIn.out.below hbel) (by omega) (by omega) (by omega) (by omega)
            rw [hr] at hcl
            have HCL := Lib.hid hcl
            clear hcl
            go_wp2_with fail
            refine HCL.out.mono ?_
            rintro e1 w1 ⟨rfl, hb1⟩
            have hb2 : Below w0.heap.size w0 w1 := hbel.trans (hb1.mono hbel.size)
            clear HCL hb1 hbel
            cases r
            · go_wp2
              go_roundw
              case rel =>
                refine ⟨p + s, by omega, by go_num, ?_, fun q hq hqP hqa hqk => ?_, hb2⟩
                · have := HPs.out
                  rw [Int.natCast_add, Int.add_emod_right]
                  exact this
                · rcases Nat.lt_trichotomy q p with h | h | h
                  · exact HNo.out q h hqP hqa hqk
                  · rw [h]; exact hr
                  · exact absurd hqa (skip_page HS.out HPs.out (by omega) h hq)
              case measure => simp [intOf]; omega
            · go_wp2
              go_ret
              refine ⟨ret_bool ?_, hb0.trans (hb2.mono hb0.size)⟩
              rw [fitsN_true p (by omega) hat (by omega) hr]
          · go_wp2
            go_ret
            refine ⟨ret_bool ?_, hb0.trans (hbel.mono hb0.size)⟩
            rw [fitsN_false]
            intro q hqP hqa hqk
            rcases Nat.lt_or_ge q p with h | h
            · exact HNo.out q h hqP hqa hqk
            · omega
        · go_wp2
          go_ret
          refine ⟨ret_bool ?_, hb0.trans (hbel.mono hb0.size)⟩
          rw [fitsN_false]
          intro q hqP hqa hqk
          have := HP2.out (by omega)
          exact HNo.out q (by omega) hqP hqa hqk
    · rw [show decide (1 ≤ a) = false by simpa using ha, Bool.and_false, Bool.false_and]
      clear HLv
      go_enter Try.func10, Try.ntmps10
      go_wp2
      go_ret
      exact ⟨rfl, Below.refl _ _⟩
  · rw [show decide (1 ≤ k) = false by simpa using hk, Bool.false_and, Bool.false_and]
    clear HLv
    go_enter Try.func10, Try.ntmps10
    go_wp2
    go_ret
    exact ⟨rfl, Below.refl _ _⟩
end Go.Proofs.Ytoaaoggggjjbaaa
