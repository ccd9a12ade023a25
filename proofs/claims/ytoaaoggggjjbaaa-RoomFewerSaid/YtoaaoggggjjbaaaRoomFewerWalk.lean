/- RoomFewer walked. -/
import Derived.Test.YtoaaoggggjjbaaaRoomFewerMath
import Derived.Test.YtoaaoggggjjbaaaRoomAwake
import Derived.Test.YtoaaoggggjjbaaaAppendEv
import Derived.Deep.RegionHeld3
import Derived.Deep.DrawnRows
import Derived.Deep.DeepCutAuto
namespace Go.Proofs.Ytoaaoggggjjbaaa
open Go.RowKit Go.Deep
attribute [local go_sem ↓] Go.wp_at_zero Go.wp_at_succ
theorem EvRow.of_own {w : World} {base : Nat} {v : Value} {es : List Ev} {n : Nat} (hn : es.length = n) (hok : ∀ e ∈ es, e.ok) (h : w.ownsRow base 35 24 v n (es.flatMap Ev.cells)) : ∃ A c, v = .slice A n c ∧ EvRow w w.heap.size A n c es := by
  subst hn
  rcases h.2 with ⟨rfl, h0⟩ | ⟨g, cap, cur, rfl, hbase, hb', h1, h2, h3, h4⟩
  · have : es = [] := List.eq_nil_of_length_eq_zero h0
    subst this
    exact ⟨none, 0, rfl, EvRow.nil⟩
  · refine ⟨_, _, rfl, rfl, h1, h2, hok, fun h0 => ⟨g, 0, rfl, (Array.getElem?_eq_some_iff.1 hb').1, fun i e he j u hu => ?_⟩⟩
    have hi : i < es.length := (List.getElem?_eq_some_iff.1 he).1
    have hj : j < 24 := by
      have := (List.getElem?_eq_some_iff.1 hu).1
      rwa [Ev.cells_length] at this
    have hf := flat_get es i e he j hj
    rw [cell_of_row w g _ cur _ (0, 0) hb', Nat.zero_add, ← Array.getElem?_toList]
    have hlt : i * 24 + j < es.length * 24 := by omega
    rw [← List.getElem?_take_of_lt hlt, h4, hf, hu]
/-- a slice value that holds events, in a world that has kept what lay below. -/
def Evs (w : World) (n : Nat) (es : List Ev) (v : Value) (w' : World) : Prop := ∃ A c, v = .slice A n c ∧ EvRow w' w'.heap.size A n c es ∧ Below w.heap.size w w'
theorem own_below {w w' : World} {B : Nat} {e : TypeId} {size : Nat} {v : Value} {n : Nat} {xs : List Value} (h : w.ownsRow B e size v n xs) (hb : Below w.heap.size w w') : w'.ownsRow B e size v n xs := by
  rcases h.2 with h0 | ⟨g, cap, cur, h1, h2, h3, h4⟩
  · exact ⟨h.1, .inl h0⟩
  · exact ⟨h.1, .inr ⟨g, cap, cur, h1, h2, (hb.block g (Array.getElem?_eq_some_iff.1 h3).1).trans h3, h4⟩⟩
theorem live_ok {es : List Ev} (hok : ∀ e ∈ es, e.ok) {s : Int} : ∀ b ∈ liveV es s, i64ok b.pos := by
  intro b hb
  unfold liveV at hb
  obtain ⟨p, hp, rfl⟩ := List.mem_map.1 hb
  obtain ⟨e, he, _, rfl⟩ := live_mem _ p hp
  exact (hok e (taken_mem he)).2.2.2.2.2.2.1
theorem asks_ok {pos : Int} (h : i64ok pos) : (asksE 1099511627777 5 pos 0).ok := by
  unfold asksE mkEv Ev.ok Cl.ok Rs.ok i64ok u8ok u64ok at *
  simp
  exact h
theorem takes_ok {pos size : Int} (h : i64ok pos) (h2 : i64ok size) : (takesE 1099511627777 size pos size).ok := by
  unfold takesE mkEv Ev.ok Cl.ok Rs.ok i64ok u8ok u64ok at *
  simp
  exact ⟨h2, h, h2⟩
/-- the cells of the release, written out. -/
def asks24 (pos : Int) : Array Value := #[.int .i64 0, .int .u8 5, .int .i64 0, .int .i64 0, .int .i64 0, .int .i64 pos, .int .i64 0, .int .u8 0, .int .i64 1099511627777, .int .i64 1099511627777, .int .i64 1099511627777, .int .i64 (-1), .bool true, .int .i64 0, .int .i64 0, .int .u8 0, .int .u64 0, .int .u64 0, .int .u64 0, .int .u64 0, .int .u64 0, .int .i64 0, .int .i64 0, .int .i64 0]
theorem asks24_eq (pos : Int) : (asksE 1099511627777 5 pos 0).cells.toArray = asks24 pos := rfl
theorem keepS_drew {W w' : World} {p : Addr} {v : Value} (h : w'.cell? p = some v ∧ Below W.heap.size W w') : w'.drew.cell? p = some v ∧ Below W.heap.size W w'.drew := ⟨h.1, h.2.drew⟩
theorem keepS_alloc {W w' : World} {p : Addr} {v : Value} {o : Obj} (h : w'.cell? p = some v ∧ Below W.heap.size W w') (hp : p.block < W.heap.size) : (w'.alloc o).cell? p = some v ∧ Below W.heap.size W (w'.alloc o) :=
  ⟨((h.2.alloc h.2.size o).cell hp).trans ((h.2.cell hp).symm.trans h.1), h.2.alloc h.2.size o⟩
theorem keepS_below {W w' w'' : World} {p : Addr} {v : Value} (h : w'.cell? p = some v ∧ Below W.heap.size W w') (hp : p.block < W.heap.size) (hb : Below w'.heap.size w' w'') : w''.cell? p = some v ∧ Below W.heap.size W w'' :=
  ⟨(hb.cell (Nat.lt_of_lt_of_le hp h.2.size)).trans h.1, h.2.trans (hb.mono h.2.size)⟩
theorem keepS_grown {W w' w'' : World} {p : Addr} {v : Value} {row : Option Nat} (h : w'.cell? p = some v ∧ Below W.heap.size W w') (hp : p.block < W.heap.size) (hb : w'.grownBy w'' row) (hr : ∀ g, row = some g → W.heap.size ≤ g) : w''.cell? p = some v ∧ Below W.heap.size W w'' :=
  ⟨((h.2.grown hb h.2.size hr).cell hp).trans ((h.2.cell hp).symm.trans h.1), h.2.grown hb h.2.size hr⟩
set_option maxRecDepth 100000 in
set_option maxHeartbeats 2000000 in
theorem roomFewer_any (A : Option Addr) (n c : Nat) (es : List Ev) (pages which k a pos size : Int) (w : World) (hE : EvRow w w.heap.size A n c es) (hp0 : 0 ≤ pages) (hwh0 : 0 ≤ which) (hwh1 : which ≤ 255) (hpos : i64ok pos) (hsize : i64ok size) :
    Calls Try.prog 4 #[.slice A n c, .int .u8 pages, .int .u8 which, .int .i64 k, .int .i64 a, .int .i64 pos, .int .i64 size] w fun e w' => e = .returned (.bool true) ∧ Below w.heap.size w w' := by
  have HA := Lib.hid awake23
  have hnm := hE.2.1
  have hcm := hE.2.2.1
  unfold maxLen at hcm
  by_cases hn : 30 < n
  · clear hE
    go_enter Try.func4, Try.ntmps4
    go_wp2_with fail
    refine (HA.out _).mono ?_
    rintro e w1 ⟨rfl, b1⟩
    go_wp2
    go_ret
    exact ⟨rfl, b1⟩
  · obtain ⟨m, hm⟩ : ∃ m : Int, Int.tmod pages 41 = m := ⟨_, rfl⟩
    have hm1 : 0 ≤ m ∧ m ≤ 40 := by
      rw [Int.tmod_eq_emod_of_nonneg hp0] at hm
      omega
    obtain ⟨hm0, hm1⟩ := hm1
    have hlen := hE.1
    have HL := Lib.hid hlen
    have HE := Lib.hid hE
    clear hlen hE
    go_enter Try.func4, Try.ntmps4
    go_wp2_with fail
    go_loop [15] (fun i => ∃ j : Nat, j ≤ n ∧ i = .int .i64 j ∧ ∀ e ∈ es.take j, e.lin ≤ 1099511627776) (fun i => n - (intOf i).toNat)
    case atStart => exact ⟨0, Nat.zero_le _, rfl, by simp⟩
    case round =>
      obtain ⟨j, hj, rfl, hall⟩ := hrel
      have HAl := Lib.hid hall
      clear hall
      by_cases hlt : j < n
      · obtain ⟨b, o, rfl, hb, hr⟩ := HE.out.2.2.2.2 (by omega)
        have hjl : j < es.length := by have := HL.out; omega
        have hrk := hr j es[j] (List.getElem?_eq_getElem hjl)
        have hts := List.take_succ_eq_append_getElem hjl
        have c10 : w.cell? ⟨b, o + j * 24 + 10, none⟩ = some (.int .i64 es[j].lin) := by simpa using hrk 10 _ rfl
        generalize es[j] = e at c10 hts
        have HTS := Lib.hid hts
        clear hts hrk hr
        by_cases hd : e.lin ≤ 1099511627776
        · go_wp2
          go_round
          case rel =>
            refine ⟨j + 1, by omega, by go_num, fun x hx => ?_⟩
            rw [HTS.out, List.mem_append] at hx
            rcases hx with hx | hx
            · exact HAl.out x hx
            · simp at hx; subst hx; exact hd
          case measure => simp [intOf]; omega
        · go_wp2_with fail
          refine (HA.out _).mono ?_
          rintro e w1 ⟨rfl, b1⟩
          go_wp2
          go_ret
          exact ⟨rfl, b1⟩
      · obtain rfl : j = n := by omega
        have hall : ∀ e ∈ es, e.lin ≤ 1099511627776 := by
          have := HAl.out
          rwa [List.take_of_length_le (by rw [HL.out]; omega)] at this
        have HALL := Lib.hid hall
        clear hall HAl
        have HLV := Lib.hid (live_any A j c es 1099511627776 w HE.out (by omega))
        have hll : (liveV es 1099511627776).length ≤ 1000 := by
          unfold liveV
          rw [List.length_map]
          exact Nat.le_trans (live_length _) (Nat.le_trans (taken_length es _) (by rw [HL.out]; omega))
        have HOK := Lib.hid HE.out.2.2.2.1
        have HFI : Hid (∀ (w1 : World), Below w.heap.size w w1 → Calls Try.prog 10 #[.slice A j c, .int .i64 m, .int .i64 1099511627776, .int .i64 k, .int .i64 a] w1 fun e w' => e = .returned (.bool (fitsV (liveV es 1099511627776) m k a)) ∧ Below w1.heap.size w1 w') :=
          Lib.hid fun w1 hb => (fits_any A j c es m 1099511627776 k a w1 ((HE.out.below hb).more hb.size) (by omega) (by unfold i64ok; omega))
        have HFF : Hid (∀ x, fitsV (liveV es 1099511627776) m k a = true → fitsV (liveV (es ++ [asksE 1099511627777 5 x 0]) 1099511627777) m k a = true) := Lib.hid fun x => free_fits (s := 1099511627776) HALL.out (by decide) hm0 (by omega)
        have HFM : Hid ((∀ b ∈ liveV es 1099511627776, b.pos ≠ pos) → fitsV (liveV es 1099511627776) m k a = false → fitsV (liveV (es ++ [takesE 1099511627777 size pos size]) 1099511627777) m k a = false) := Lib.hid (more_fits (s := 1099511627776) HALL.out (by decide) hm0 (by omega))
        have HLok := Lib.hid (live_ok HOK.out (s := 1099511627776))
        generalize liveV es 1099511627776 = L at HLV hll HFI HFF HFM HLok
        generalize hfv : fitsV L m k a = f at HFI HFF HFM
        clear hfv HALL
        go_wp2_with fail
        refine HLV.out.mono ?_
        rintro e1 w1 ⟨v1, rfl, hown1, hb1⟩
        obtain ⟨A1, c1, rfl, hc1, hin1⟩ := BlkIn.of_own rfl hown1
        have HIn := Lib.hid hin1
        have HB1 := Lib.hid hb1
        clear hown1 hin1 hb1 HLV
        go_wp2_with fail
        refine (HFI.out _ HB1.out).mono ?_
        rintro e2 w2 ⟨rfl, hb2⟩
        have HIn2 := Lib.hid (HIn.out.below hb2)
        have HB2 := Lib.hid (HB1.out.trans (hb2.mono HB1.out.size))
        clear HIn HB1 HFI hb2
        go_upto_if 53 with (fail)
        go_cut [] (fun wx => Below w2.heap.size w2 wx)
        case first =>
          clear HFM
          by_cases hL : 0 < L.length
          · obtain ⟨g, o, rfl, hg, hr⟩ := HIn2.out hL
            obtain ⟨q, hq⟩ : ∃ q : Nat, Int.tmod which L.length = q := ⟨(Int.tmod which L.length).toNat, by
              rw [Int.tmod_eq_emod_of_nonneg hwh0]
              have := Int.emod_nonneg which (b := (L.length : Int)) (by omega)
              omega⟩
            have hq1 : q < L.length := by
              rw [Int.tmod_eq_emod_of_nonneg hwh0] at hq
              have := Int.emod_lt_of_pos which (b := (L.length : Int)) (by omega)
              omega
            have hrq := hr q L[q] (List.getElem?_eq_getElem hq1)
            have hxL : L[q] ∈ L := List.getElem_mem hq1
            generalize L[q] = x at hrq hxL
            clear hr
            have hx0 : (w2.alloc (.cells x.cells.toArray 39)).cell? ⟨w2.heap.size, 0, none⟩ = some (.int .i64 x.pos) := by
              have := new_range w2 x.cells 39 0 _ rfl
              simpa using this
            go_upto_region 13 with (first
              | (refine wpList_load_mid rfl 39 (.tmp 60) rfl g (o + q * 3) rfl x.cells _ hrq Try.underlying39 rfl Try.size_block ?_)
              | (refine wpList_store_new rfl 39 (.tmp 19) (.tmp 61) rfl w2 _ x.cells.toArray rfl rfl rfl Try.size_block rfl (all_oneCell_toArray x.oneCell) ?_))
            have HWB := Lib.hid ((Below.refl w2.heap.size w2).alloc (Nat.le_refl _) (.cells x.cells.toArray 39))
            have hgW : w2.heap.size < (w2.alloc (.cells x.cells.toArray 39)).heap.size := by simp
            generalize w2.alloc (.cells x.cells.toArray 39) = W at hx0 HWB hgW ⊢
            clear hrq hq hq1 hg
            have HWB2 := Lib.hid (HB2.out.trans (HWB.out.mono HB2.out.size))
            have HEW := Lib.hid ((HE.out.below HWB2.out).more HWB2.out.size)
            have HAs : Hid (∀ w1, Calls Try.prog 12 #[.int .i64 1099511627777, .int .u8 5, .int .i64 x.pos, .int .i64 0] w1 fun e w' => e = .returned (.agg (asks24 x.pos)) ∧ Below w1.heap.size w1 w') := Lib.hid (fun w1 => lasks_any 1099511627777 5 x.pos 0 w1)
            unfold asks24 at HAs
            have HXok : Hid ((asksE 1099511627777 5 x.pos 0).ok) := Lib.hid (asks_ok (HLok.out _ hxL))
            generalize w2.heap.size = gx at hx0 hgW ⊢
            dsimp only [Act.put]
            go_cut [20] (fun v wx => Evs W (j + 1) (es ++ [asksE 1099511627777 5 x.pos 0]) v wx)
            case first =>
              have hgxW := Lib.hid hgW
              go_region_held3 (fun w' => w'.cell? ⟨gx, 0, none⟩ = some (.int .i64 x.pos) ∧ Below W.heap.size W w')
                (first
                  | exact keepS_drew ⟨hx0, Below.refl _ _⟩
                  | exact keepS_drew (by assumption)
                  | exact keepS_alloc (by assumption) hgxW.out
                  | exact keepS_below (by assumption) hgxW.out hbA
                  | exact keepS_grown (by assumption) hgxW.out hgB (by intro g hg; simp [Value.ownBlock] at hg; omega)
                  | (have hq := fun g hg => (hownC0.lt g hg).1; exact keepS_grown (by assumption) hgxW.out hgC hq))
                (first
                  | (refine step_append_evs rfl (.tmp 62) (.tmp 63) (by rfl) W.heap.size _ 0 [] (by rfl) (own_empty (Nat.le_refl _) (heap_alloc_new _ _)) (by simp) W.heap.size A j c es (by rfl) (HEW.out.below (by first | assumption | exact (‹_ ∧ Below _ _ _›).2)) (by omega) (by omega) ?_; intro v1 wB hownB hgB)
                  | (go_at_call 12; refine (HAs.out _).mono ?_; rintro eA wA ⟨rfl, hbA⟩)
                  | (refine step_append_evs rfl (.tmp 64) (.tmp 68) (by rfl) W.heap.size v1 (0 + j) ([] ++ es.flatMap Ev.cells) (by rfl) ((own_below hownB hbA).alloc _) (‹_ ∧ Below W.heap.size W _›).2.size _ (some ⟨wA.heap.size, 0, none⟩) 1 1 [asksE 1099511627777 5 x.pos 0] (by rfl) (one_row (w := wA) (x := asksE 1099511627777 5 x.pos 0) HXok.out) (by omega) (by omega) ?_; have hownC0 := own_below hownB hbA; intro v2 wC hownC hgC))
              have hBC := (‹_ ∧ Below W.heap.size W wC›).2
              obtain ⟨A4, c4, hv4, hE4⟩ := EvRow.of_own (n := j + 1) (es := es ++ [asksE 1099511627777 5 x.pos 0]) (by simp [HL.out]) (by
                intro e he
                rcases List.mem_append.1 he with h | h
                · exact HOK.out e h
                · simp at h; subst h; exact HXok.out) (by rw [List.flatMap_append]; simpa using hownC)
              have HEV : Hid (Evs W (j + 1) (es ++ [asksE 1099511627777 5 x.pos 0]) v2 wC) := Lib.hid ⟨A4, c4, hv4, hE4, hBC⟩
              clear hownC hgC hownC0 hBC hv4 hE4
              go_wp2_with fail
              go_meet
              exact HEV.out
            case rest =>
              obtain ⟨A4, c4, rfl, hE4, hB4⟩ := hcut
              have HF4 := Lib.hid (fits_any A4 (j + 1) c4 _ m 1099511627777 k a wc hE4 (by omega) (by unfold i64ok; omega))
              have HB4 := Lib.hid (HWB.out.trans (hB4.mono HWB.out.size))
              clear hE4 hB4
              cases f
              · go_wp2
                go_meet
                exact HB4.out
              · rw [HFF.out x.pos rfl] at HF4
                go_wp2_with fail
                refine HF4.out.mono ?_
                rintro e5 w5 ⟨rfl, hb5⟩
                have HB5 := Lib.hid (HB4.out.trans (hb5.mono HB4.out.size))
                clear hb5
                go_wp2
                go_meet
                exact HB5.out
          · go_wp2
            go_meet
            exact Below.refl _ _
        case rest =>
          have HBc := Lib.hid (HB2.out.trans (hcut.mono HB2.out.size))
          have HInc := Lib.hid (HIn2.out.below hcut)
          clear HB2 HIn2 hcut HFF
          obtain ⟨X, hX⟩ : ∃ X, takesE 1099511627777 size pos size = X := ⟨_, rfl⟩
          have HXok : Hid X.ok := Lib.hid (by rw [← hX]; exact takes_ok hpos hsize)
          have HT : Hid (∀ w1, Calls Try.prog 13 #[.int .i64 1099511627777, .int .i64 size, .int .i64 pos, .int .i64 size] w1 fun e w' => e = .returned (.agg X.cells.toArray) ∧ Below w1.heap.size w1 w') := Lib.hid (by rw [← hX]; exact fun w1 => takes_any 1099511627777 size pos size w1)
          rw [hX] at HFM
          clear hX
          have HEc := Lib.hid ((HE.out.below HBc.out))
          have hbs := HBc.out.size
          go_wp2_with (at_builtin; refine wpList_append_evs rfl (.tmp 79) (.tmp 80) rfl wc.heap.size _ 0 [] rfl (own_empty (Nat.le_refl _) (heap_alloc_new _ _)) (by simp) w.heap.size A j c es rfl (HEc.out.below ((Below.refl _ _).alloc (by omega) _)) (by omega) (by omega) ?_; intro v3 w3 hown3 hg3)
          have hb3 : Below wc.heap.size wc w3 := ((Below.refl _ wc).alloc (Nat.le_refl _) _).grown hg3 (by simp) (by intro g hg; cases hg; exact Nat.le_refl _)
          have HB3 := Lib.hid (HBc.out.trans (hb3.mono hbs))
          have hbs3 := HB3.out.size
          have hbs4 := hb3.size
          have HB3c := Lib.hid hb3
          clear hb3 hg3 HEc
          go_wp2_with fail
          refine (HT.out _).mono ?_
          rintro e4 w4 ⟨rfl, hb4⟩
          have hown4 := own_below hown3 hb4
          have HB4 := Lib.hid (HB3.out.trans (hb4.mono hbs3))
          have HB4c := Lib.hid (HB3c.out.trans (hb4.mono hbs4))
          have hbs5 := hb4.size
          clear hown3 hb4 HB3 HB3c
          go_upto_region 17 with (first
            | (refine wpList_buildSlice_one rfl 22 (.tmp 85) rfl 35 _ 24 Try.underlying22 Try.zero_event X.cells.toArray rfl rfl (by decide) (by decide) ?_)
            | (at_builtin; refine wpList_append_evs rfl (.tmp 81) (.tmp 86) rfl wc.heap.size v3 (0 + j) ([] ++ es.flatMap Ev.cells) rfl (hown4.alloc _) (by simp; omega) _ (some ⟨w4.heap.size, 0, none⟩) 1 1 [X] rfl (one_row (w := w4) (x := X) HXok.out) (by omega) (by omega) ?_; intro v5 w5 hown5 hg5))
          have hb5 : Below w.heap.size w w5 := (HB4.out.alloc HB4.out.size _).grown hg5 (by simp; omega) (fun g hg => Nat.le_trans hbs (hown4.lt g hg).1)
          obtain ⟨A5, c5, rfl, hE5⟩ := EvRow.of_own (n := j + 1) (es := es ++ [X]) (by simp [HL.out]) (by
            intro e he
            rcases List.mem_append.1 he with h | h
            · exact HOK.out e h
            · simp at h; subst h; exact HXok.out) (by rw [List.flatMap_append]; simpa using hown5)
          have HF5 := Lib.hid (fits_any A5 (j + 1) c5 _ m 1099511627777 k a w5 hE5 (by omega) (by unfold i64ok; omega))
          have HIn5 := Lib.hid (HInc.out.below ((HB4c.out.alloc HB4c.out.size _).grown hg5 (by simp; omega) (fun g hg => (hown4.lt g hg).1)))
          have HB5 := Lib.hid hb5
          clear hown4 hown5 hg5 hb5 hE5 HB4 HB4c HInc HT
          go_wp2_with fail
          go_loop [22, 23] (fun t i => ∃ q : Nat, q ≤ L.length ∧ i = .int .i64 q ∧ t = .bool ((L.take q).any fun b => decide (b.pos = pos))) (fun _ i => L.length - (intOf i).toNat)
          case atStart => exact ⟨0, Nat.zero_le _, rfl, by simp⟩
          case round =>
            obtain ⟨q, hq, rfl, rfl⟩ := hrel
            by_cases hql : q < L.length
            · obtain ⟨g, o, rfl, hg, hr⟩ := HIn5.out (by omega)
              have hrq := hr q L[q] (List.getElem?_eq_getElem hql)
              have hts := List.take_succ_eq_append_getElem hql
              have hany : ((L.take (q + 1)).any fun b => decide (b.pos = pos)) = (((L.take q).any fun b => decide (b.pos = pos)) || decide (L[q].pos = pos)) := by rw [hts, List.any_append]; simp
              have c0 : w5.cell? ⟨g, o + q * 3, none⟩ = some (.int .i64 L[q].pos) := by simpa using hrq 0 _ rfl
              generalize L[q] = x at c0 hany
              generalize ((L.take q).any fun b => decide (b.pos = pos)) = t at hany
              have HAny := Lib.hid hany
              clear hany hts hrq hr
              cases t
              · by_cases hxp : x.pos = pos
                · rw [hxp] at c0
                  have hv : ((L.take (q + 1)).any fun b => decide (b.pos = pos)) = true := by rw [HAny.out]; simp [hxp]
                  have HV := Lib.hid hv
                  clear hv hxp
                  go_wp2
                  go_round
                  case rel => exact ⟨q + 1, by omega, by go_num, by rw [HV.out]⟩
                  case measure => simp [intOf]; omega
                · have hxb : (x.pos == pos) = false := by simpa using hxp
                  have hv : ((L.take (q + 1)).any fun b => decide (b.pos = pos)) = false := by rw [HAny.out]; simp [hxp]
                  have HV := Lib.hid hv
                  clear hv hxp
                  go_wp2
                  go_round
                  case rel => exact ⟨q + 1, by omega, by go_num, by rw [HV.out]⟩
                  case measure => simp [intOf]; omega
              · have hv : ((L.take (q + 1)).any fun b => decide (b.pos = pos)) = true := by rw [HAny.out]; simp
                have HV := Lib.hid hv
                clear hv
                go_wp2
                go_round
                case rel => exact ⟨q + 1, by omega, by go_num, by rw [HV.out]⟩
                case measure => simp [intOf]; omega
            · obtain rfl : q = L.length := by omega
              rw [List.take_length]
              obtain ⟨t, ht⟩ : ∃ t, (L.any fun b => decide (b.pos = pos)) = t := ⟨_, rfl⟩
              rw [ht]
              cases t
              · have hno : ∀ b ∈ L, b.pos ≠ pos := by
                  intro b hb
                  have := List.any_eq_false.1 ht b hb
                  simpa using this
                have HFM2 := Lib.hid (HFM.out hno)
                clear ht hno HFM
                cases f
                · rw [HFM2.out rfl] at HF5
                  go_wp2_with fail
                  refine HF5.out.mono ?_
                  rintro e6 w6 ⟨rfl, hb6⟩
                  have HB6 := Lib.hid (HB5.out.trans (hb6.mono HB5.out.size))
                  clear hb6
                  go_wp2_with fail
                  refine (HA.out _).mono ?_
                  rintro e7 w7 ⟨rfl, hb7⟩
                  have HB7 := Lib.hid (HB6.out.trans (hb7.mono HB6.out.size))
                  clear hb7
                  go_wp2
                  go_ret
                  exact ⟨rfl, HB7.out⟩
                · go_wp2_with fail
                  refine (HA.out _).mono ?_
                  rintro e7 w7 ⟨rfl, hb7⟩
                  have HB7 := Lib.hid (HB5.out.trans (hb7.mono HB5.out.size))
                  clear hb7
                  go_wp2
                  go_ret
                  exact ⟨rfl, HB7.out⟩
              · clear ht HFM
                go_wp2_with fail
                refine (HA.out _).mono ?_
                rintro e7 w7 ⟨rfl, hb7⟩
                have HB7 := Lib.hid (HB5.out.trans (hb7.mono HB5.out.size))
                clear hb7
                go_wp2
                go_ret
                exact ⟨rfl, HB7.out⟩
end Go.Proofs.Ytoaaoggggjjbaaa
