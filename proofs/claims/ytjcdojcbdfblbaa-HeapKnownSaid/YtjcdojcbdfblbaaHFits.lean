/- heap's fits: no block of an own map lies on a given one. -/
import Derived.Test.YtjcdojcbdfblbaaHKit
import Derived.Maps.RangeWalk
import Derived.Maps.Ext
import Derived.Laws.IdiomRangeMap
import Derived.Lib.Hide
import Derived.Deep.QuietTactic
import Derived.BigQuiet
import Derived.Deep.Draws
namespace Go.Proofs.Ytjcdojcbdfblbaa.Lx
open Go Go.RowKit Go.Maps
set_option linter.unusedVariables false
def sh3 : List CK := [.int .i64, .int .i64, .int .i64]
def bAt (r : List Int) : Int := getI (tailR r) 0
def bRoom (r : List Int) : Int := getI (tailR r) 2
def small40 (z : Int) : Bool := decide (-1099511627776 ≤ z ∧ z ≤ 1099511627776)
def onB (p rm : Int) (r : List Int) : Bool := decide (bAt r < p + rm) && decide (p < bAt r + bRoom r)
def fitsB (top : Int) (l : List (List Int)) (p sz rm al : Int) : Bool :=
  bif decide (p < 0) then false else bif decide (p > top) then false else bif decide (rm > top - p) then false else bif decide (rm < sz) then false else
  bif Int.tmod p 8 != 0 then false else bif Int.tmod p al != 0 then false else l.all fun r => !onB p rm r
def risingB : List (List Int) → Bool
  | [] => true
  | r :: l => (match l with
    | [] => true
    | s :: _ => decide (keyR r < keyR s)) && risingB l
theorem risingB_eq : ∀ {l : List (List Int)}, risingB l = true → IM.Rising (l.map pairR)
  | [], _ => IM.rising_nil
  | [r], _ => by simp [IM.Rising]
  | r :: s :: l, h => by
    simp only [risingB, Bool.and_eq_true, decide_eq_true_eq] at h
    obtain ⟨h1, h2⟩ := h
    have ih := risingB_eq (l := s :: l) (by simp only [risingB, Bool.and_eq_true]; exact h2)
    unfold IM.Rising at ih ⊢
    rw [List.map_cons, List.pairwise_cons]
    refine ⟨fun p hp => ?_, ih⟩
    rw [List.map_cons, List.pairwise_cons] at ih
    rcases List.mem_cons.1 hp with rfl | hp
    · exact h1
    · have := ih.1 p hp
      have e1 : (pairR r).1 = keyR r := rfl
      have e2 : (pairR s).1 = keyR s := rfl
      omega
/-- an element that comes is a row of the map's. -/
theorem row_comes {P : Program} {k : TypeId} (hk : P.underlying k = some (.int .i64)) {g : Bool} {sh : List CK} {l : List (List Int)} {key c : Value} {kl : Lit} {yd : DataW Unit} {yp : List MemPlace} (hkey : keyOf P k key = some kl)
    (hhas : Maps.has (IM.toD (rowEl g sh).dv (l.map pairR)) kl = true) (hv : (rowEl g sh).R c = some (yd, yp)) (hat : ∀ zd, (IM.toD (rowEl g sh).dv (l.map pairR)).atKey kl zd = yd) :
    ∃ r z, kl = .int .i64 z ∧ key = .int .i64 z ∧ IM.getI z (l.map pairR) = some (tailR r) ∧ r ∈ l ∧ keyR r = z ∧ c = rowV g sh (tailR r) := by
  obtain ⟨z, rfl, rfl, _⟩ := Maps.keyOf_int_inv hk hkey
  rw [IM.toD_has] at hhas
  obtain ⟨x, hx⟩ := Option.isSome_iff_exists.1 hhas
  have hx0 := hx
  unfold IM.getI at hx
  obtain ⟨p, hp, rfl⟩ := Option.map_eq_some_iff.1 hx
  have hm := List.mem_of_find?_eq_some hp
  have hz := List.find?_some hp
  simp only [decide_eq_true_eq] at hz
  obtain ⟨r, hr, rfl⟩ := List.mem_map.1 hm
  refine ⟨r, z, rfl, rfl, hx0, hr, hz, ?_⟩
  have e := hat (.lit (.int .i64 0))
  rw [IM.toD_at, hx0] at e
  simp only [Option.map_some, Option.getD_some] at e
  rw [← e] at hv
  exact (rowEl g sh).inv _ _ _ hv
/-- only one row has a key. -/
theorem row_one {l : List (List Int)} (h : IM.Rising (l.map pairR)) {r s : List Int} (hr : r ∈ l) {z : Int} (hs : IM.getI z (l.map pairR) = some (tailR s)) (hz : keyR r = z) : tailR r = tailR s := by
  have h1 := (IM.getI_mem h (k := z) (v := tailR r)).2 (by rw [← hz]; exact List.mem_map.2 ⟨r, hr, rfl⟩)
  rw [hs] at h1
  exact (Option.some.inj h1).symm
set_option maxHeartbeats 4000000 in
set_option maxRecDepth 100000 in
theorem fits_any (g m : Nat) (top p sz rm al : Int) (l : List (List Int)) (w : World) (h0 : w.cell? ⟨g, 0, none⟩ = some (.map (some m))) (h1 : w.cell? ⟨g, 1, none⟩ = some (.int .i64 top)) (hm : MapIs w m (true, sh3, l))
    (b1 : small40 top = true) (b2 : small40 p = true) (b3 : small40 rm = true) (b4 : small40 sz = true) (b5 : small40 al = true) (hal : 0 < al) (hr : IM.Rising (l.map pairR)) (hl : ∀ r ∈ l, small40 (bAt r) = true ∧ small40 (bRoom r) = true) :
    Calls Try.prog 48 #[.pointer (some ⟨g, 0, none⟩), .agg #[.int .i64 p, .int .i64 sz, .int .i64 rm], .int .i64 al] w fun e w' => e = .returned (.bool (fitsB top l p sz rm al)) ∧ w.grownBy w' none := by
  have K : Keyed Try.prog 3 := int_keyed Try.underlying3
  have hown := hm Try.prog 3 Try.underlying3
  have hlt := hown.lt
  unfold small40 at b1 b2 b3 b4 b5
  rw [decide_eq_true_eq] at b1 b2 b3 b4 b5
  obtain ⟨b1a, b1b⟩ := b1
  obtain ⟨b2a, b2b⟩ := b2
  obtain ⟨b3a, b3b⟩ := b3
  obtain ⟨b4a, b4b⟩ := b4
  obtain ⟨b5a, b5b⟩ := b5
  have HL : ∀ r ∈ l, (-1099511627776 ≤ bAt r ∧ bAt r ≤ 1099511627776) ∧ (-1099511627776 ≤ bRoom r ∧ bRoom r ≤ 1099511627776) := fun r h => by
    have := hl r h
    unfold small40 at this
    rw [decide_eq_true_eq, decide_eq_true_eq] at this
    exact this
  have HLH := Lib.hid HL
  have HR := Lib.hid hr
  have HO := Lib.hid hown
  clear hl hm HL hr hown
  have m8 : -8 < Int.tmod p 8 ∧ Int.tmod p 8 < 8 := ⟨by have := Int.lt_tmod_of_pos p (b := 8) (by omega); omega, Int.tmod_lt_of_pos p (by omega)⟩
  have ma : -al < Int.tmod p al ∧ Int.tmod p al < al := ⟨Int.lt_tmod_of_pos p hal, Int.tmod_lt_of_pos p hal⟩
  unfold fitsB
  generalize h8 : Int.tmod p 8 = r8 at m8
  generalize ha : Int.tmod p al = ra at ma
  obtain ⟨m8a, m8b⟩ := m8
  obtain ⟨maa, mab⟩ := ma
  have hlg : g < w.heap.size := by
    cases hb : w.heap[g]? with
    | none => simp [World.cell?, hb] at h1
    | some x => exact (Array.getElem?_eq_some_iff.1 hb).1
  have hg1 : w.grownBy (w.alloc (.cells #[.int .i64 p, .int .i64 sz, .int .i64 rm] 48)) none := World.grownBy_alloc _ _ _
  by_cases c1 : p < 0
  · have c1b : decide (p < 0) = true := decide_eq_true c1
    rw [c1b, cond_true]
    go_enter Try.func48, Try.ntmps48
    go_wp2_with fail
    go_quiet (fail)
    go_wp2
    go_ret
    exact ⟨rfl, hg1.os, hg1.tape, hg1.output, hg1.size, hg1.block⟩
  have c1b : decide (p < 0) = false := decide_eq_false c1
  rw [c1b, cond_false]
  by_cases c2 : p > top
  · have c2b : decide (p > top) = true := decide_eq_true c2
    rw [c2b, cond_true]
    go_enter Try.func48, Try.ntmps48
    go_wp2_with fail
    go_quiet (fail)
    go_wp2
    go_ret
    exact ⟨rfl, hg1.os, hg1.tape, hg1.output, hg1.size, hg1.block⟩
  have c2b : decide (p > top) = false := decide_eq_false c2
  rw [c2b, cond_false]
  by_cases c3 : rm > top - p
  · have c3b : decide (rm > top - p) = true := decide_eq_true c3
    rw [c3b, cond_true]
    go_enter Try.func48, Try.ntmps48
    go_wp2_with fail
    go_quiet (fail)
    go_wp2
    go_ret
    exact ⟨rfl, hg1.os, hg1.tape, hg1.output, hg1.size, hg1.block⟩
  have c3b : decide (rm > top - p) = false := decide_eq_false c3
  rw [c3b, cond_false]
  by_cases c4 : rm < sz
  · have c4b : decide (rm < sz) = true := decide_eq_true c4
    rw [c4b, cond_true]
    go_enter Try.func48, Try.ntmps48
    go_wp2_with fail
    go_quiet (fail)
    go_wp2
    go_ret
    exact ⟨rfl, hg1.os, hg1.tape, hg1.output, hg1.size, hg1.block⟩
  have c4b : decide (rm < sz) = false := decide_eq_false c4
  rw [c4b, cond_false]
  by_cases c5 : r8 = 0
  rotate_left
  · have c5b : (r8 != 0) = true := by simpa using c5
    rw [c5b, cond_true]
    go_enter Try.func48, Try.ntmps48
    go_wp2_with fail
    go_quiet (fail)
    go_wp2
    go_ret
    exact ⟨rfl, hg1.os, hg1.tape, hg1.output, hg1.size, hg1.block⟩
  have c5b : (r8 != 0) = false := by simpa using c5
  rw [c5b, cond_false]
  by_cases c6 : ra = 0
  rotate_left
  · have c6b : (ra != 0) = true := by simpa using c6
    rw [c6b, cond_true]
    go_enter Try.func48, Try.ntmps48
    go_wp2_with fail
    go_quiet (fail)
    go_wp2
    go_ret
    exact ⟨rfl, hg1.os, hg1.tape, hg1.output, hg1.size, hg1.block⟩
  have c6b : (ra != 0) = false := by simpa using c6
  rw [c6b, cond_false]
  have hq : ∀ n, IM.Own (rowEl true sh3) Try.prog 3 ((w.alloc (.cells #[.int .i64 p, .int .i64 sz, .int .i64 rm] 48)).drewN n) m l.length (l.map pairR) := fun n => HO.out.of_heap (by
    show (w.alloc _).heap[m]? = _
    rw [heap_alloc, Array.getElem?_push, if_neg (by omega)])
  have HQ := Lib.hid hq
  clear hq
  go_enter Try.func48, Try.ntmps48
  go_wp2_with fail
  go_quiet (fail)
  go_wp2_with (first
    | (at_range; refine wpList_range_own _ rfl _ 51 rfl 3 48 K Try.underlying51 (rowEl true sh3).R m l.length (IM.toD (rowEl true sh3).dv (l.map pairR)) rfl (HQ.out _) ?_; intro w0 hrg0 hg0 hs0))
  have hsz : ((w.alloc (.cells #[.int .i64 p, .int .i64 sz, .int .i64 rm] 48)).drewN nq).heap.size = w.heap.size + 1 := by
    show (w.alloc _).heap.size = _
    simp
  have hb0 : ∀ (j : Nat) (v : Value), #[Value.int .i64 p, .int .i64 sz, .int .i64 rm][j]? = some v → w0.cell? ⟨w.heap.size, j, none⟩ = some v := fun j v hj => by
    have e := hg0.block w.heap.size (by omega) (by simp)
    have e2 : ((w.alloc (.cells #[.int .i64 p, .int .i64 sz, .int .i64 rm] 48)).drewN nq).heap[w.heap.size]? = some (.cells #[.int .i64 p, .int .i64 sz, .int .i64 rm] 48 (0, 0)) := heap_alloc_new w _
    rw [e2] at e
    simp only [World.cell?, e]
    exact hj
  have hgw : w.grownBy w0 none := ⟨hg0.os.trans hg1.os, hg0.tape.trans hg1.tape, hg0.output.trans hg1.output, Nat.le_trans hg1.size hg0.size, fun k hk hn => (hg0.block k (by omega) hn).trans (hg1.block k hk hn)⟩
  have hc0 := hb0 0 _ rfl
  have hc2 := hb0 2 _ rfl
  rw [hsz] at hrg0 hs0
  simp only [hsz]
  clear hb0 hg0 hg1
  go_frame
  go_loopw [8] (fun _ wr => ∃ (left : Lit → Bool) (cnt : Nat), wr.ranges Try.prog 3 (rowEl true sh3).R m (w.heap.size + 1) l.length (IM.toD (rowEl true sh3).dv (l.map pairR)) left cnt ∧ (∀ kl, left kl = true → Maps.has (IM.toD (rowEl true sh3).dv (l.map pairR)) kl = true) ∧
      (∀ r ∈ l, left (.int .i64 (keyR r)) = false → onB p rm r = false) ∧ w.grownBy wr none ∧ wr.cell? ⟨w.heap.size, 0, none⟩ = some (.int .i64 p) ∧ wr.cell? ⟨w.heap.size, 2, none⟩ = some (.int .i64 rm) ∧ w.heap.size + 2 ≤ wr.heap.size)
    (fun _ wr => wr.rangeLeft m (w.heap.size + 1))
  case atStart =>
    refine ⟨_, _, hrg0, fun _ h => h, fun r hr h => ?_, hgw, hc0, hc2, by omega⟩
    rw [IM.toD_has, Option.isSome_eq_false_iff, Option.isNone_iff_eq_none] at h
    have := (IM.getI_mem HR.out (k := keyR r) (v := tailR r)).2 (List.mem_map.2 ⟨r, hr, rfl⟩)
    rw [h] at this; cases this
  case round =>
    clear hgw hc0 hc2 hrg0 hs0
    obtain ⟨left, cnt, hrg, hlh, hno, hgw, hc0, hc2, hsw⟩ := hrel
    have HNO := Lib.hid hno
    have HLHAS := Lib.hid hlh
    clear hno hlh
    go_wp2_with (first
      | (at_next; (refine wpList_next_ranges _ rfl _ rfl 3 K (rowEl true sh3).R id id (fun key _ _ => ⟨key, rfl⟩) (fun v _ _ => ⟨v, rfl⟩) m (w.heap.size + 1) l.length _ _ _ rfl hrg ?_ ?_)))
    · intro hcz hl0
      have hall : (l.all fun r => !onB p rm r) = true := by
        rw [List.all_eq_true]
        intro r hr
        rw [HNO.out r hr (hl0 _)]; rfl
      go_wp2
      go_ret
      exact ⟨by rw [hall]; rfl, hgw⟩
    · intro x c kl yd yp w1 cnt1 hkey hlx hv hat hrg1 hlt hg1 hs1 hen
      obtain ⟨r, z, rfl, rfl, hget, hrl, hkz, rfl⟩ := row_comes Try.underlying3 hkey (HLHAS.out _ hlx) hv hat
      have hrv : rowV true sh3 (tailR r) = .agg #[.int .i64 (bAt r), .int .i64 (getI (tailR r) 1), .int .i64 (bRoom r)] := rfl
      rw [hrv] at hen
      obtain ⟨⟨n1, n2⟩, n3, n4⟩ := HLH.out r hrl
      have hon : onB p rm r = (decide (bAt r < p + rm) && decide (p < bAt r + bRoom r)) := rfl
      have hc0' : w1.cell? ⟨w.heap.size, 0, none⟩ = some (.int .i64 p) := by
        rw [World.cell?_of_block (hg1.block w.heap.size (by omega) (by simp))]; exact hc0
      have hc2' : w1.cell? ⟨w.heap.size, 2, none⟩ = some (.int .i64 rm) := by
        rw [World.cell?_of_block (hg1.block w.heap.size (by omega) (by simp))]; exact hc2
      have hgw1 : w.grownBy w1 none := ⟨hg1.os.trans hgw.os, hg1.tape.trans hgw.tape, hg1.output.trans hgw.output, Nat.le_trans hgw.size hg1.size, fun k hk hn => (hg1.block k (by omega) (by simp only [ne_eq, Option.some.injEq]; omega)).trans (hgw.block k hk hn)⟩
      have hgwx : ∀ o, w.grownBy (w1.alloc o) none := fun o => by
        have h9 := World.grownBy_alloc w1 o none
        exact ⟨h9.os.trans hgw1.os, h9.tape.trans hgw1.tape, h9.output.trans hgw1.output, Nat.le_trans hgw1.size h9.size, fun k hk hn => (h9.block k (by omega) (by simp)).trans (hgw1.block k hk hn)⟩
      have hlt2 : w.heap.size < wr.heap.size := by omega
      have hlt3 : w.heap.size < w1.heap.size := by omega
      have hax0 : ∀ o, (w1.alloc o).cell? ⟨w.heap.size, 0, none⟩ = some (.int .i64 p) := fun o => by
        rw [World.cell?_of_block (a := ⟨w.heap.size, 0, none⟩) ((World.grownBy_alloc w1 o none).block w.heap.size hlt3 (by simp))]; exact hc0'
      have hax2 : ∀ o, (w1.alloc o).cell? ⟨w.heap.size, 2, none⟩ = some (.int .i64 rm) := fun o => by
        rw [World.cell?_of_block (a := ⟨w.heap.size, 2, none⟩) ((World.grownBy_alloc w1 o none).block w.heap.size hlt3 (by simp))]; exact hc2'
      have HX := Lib.hid hgwx
      have HG1 := Lib.hid hg1
      have HHAT := Lib.hid hat
      have HKEY := Lib.hid hkey
      have HV := Lib.hid hv
      have HGET := Lib.hid hget
      have HKZ := Lib.hid hkz
      have hgz := hgw1.size
      clear hgwx hg1 hat hkey hv hget hkz hc0 hc2 hgw hrv
      generalize bAt r = a0 at hon n1 n2 hen
      generalize bRoom r = r0 at hon n3 n4 hen
      generalize getI (tailR r) 1 = s0 at hen
      have HON := Lib.hid hon
      clear hon
      have HD : ∀ t1 t2, decide (a0 < p + rm) = t1 → decide (p < a0 + r0) = t2 → onB p rm r = (t1 && t2) := fun t1 t2 e1 e2 => by rw [HON.out, e1, e2]
      have HDD := Lib.hid HD
      clear HD
      by_cases d1 : a0 < p + rm
      · have d1b : decide (a0 < p + rm) = true := decide_eq_true d1
        by_cases d2 : p < a0 + r0
        · have d2b : decide (p < a0 + r0) = true := decide_eq_true d2
          have hall : (l.all fun r => !onB p rm r) = false := by
            rw [List.all_eq_false]
            exact ⟨r, hrl, by rw [HDD.out _ _ d1b d2b]; simp⟩
          have HALL := Lib.hid hall
          clear hall
          go_wp2
          go_ret
          exact ⟨by rw [HALL.out]; rfl, HX.out _⟩
        · have d2b : decide (p < a0 + r0) = false := decide_eq_false d2
          go_wp2
          go_roundw
          case rel =>
            refine ⟨_, cnt1, hrg1.kept (World.grownBy_alloc w1 _ none) (by simp) (by simp), fun kl h => HLHAS.out kl ?_, fun r' hr' h => ?_, HX.out _, hax0 _, hax2 _, ?_⟩
            · simp only [Bool.and_eq_true] at h; exact h.1
            · rw [Bool.and_eq_false_iff] at h
              rcases h with h | h
              · exact HNO.out r' hr' h
              · have hz : keyR r' = z := by simpa [Lit.sameKey] using h
                have ht := row_one HR.out hr' HGET.out hz
                have hoo : onB p rm r' = onB p rm r := by unfold onB bAt bRoom; rw [ht]
                rw [hoo, HDD.out _ _ d1b d2b]; rfl
            · rw [heap_alloc, Array.size_push]; omega
          case measure => rw [(hrg1.kept (World.grownBy_alloc w1 _ none) (by simp) (by simp)).left_eq, hrg.left_eq]; exact hlt
      · have d1b : decide (a0 < p + rm) = false := decide_eq_false d1
        go_wp2
        go_roundw
        case rel =>
          refine ⟨_, cnt1, hrg1.kept (World.grownBy_alloc w1 _ none) (by simp) (by simp), fun kl h => HLHAS.out kl ?_, fun r' hr' h => ?_, HX.out _, hax0 _, hax2 _, ?_⟩
          · simp only [Bool.and_eq_true] at h; exact h.1
          · rw [Bool.and_eq_false_iff] at h
            rcases h with h | h
            · exact HNO.out r' hr' h
            · have hz : keyR r' = z := by simpa [Lit.sameKey] using h
              have ht := row_one HR.out hr' HGET.out hz
              have hoo : onB p rm r' = onB p rm r := by unfold onB bAt bRoom; rw [ht]
              rw [hoo, HDD.out _ _ d1b rfl]; rfl
          · rw [heap_alloc, Array.size_push]; omega
        case measure => rw [(hrg1.kept (World.grownBy_alloc w1 _ none) (by simp) (by simp)).left_eq, hrg.left_eq]; exact hlt
def okFits (l : List (List Int)) (top p sz rm al : Int) : Bool :=
  small40 top && (small40 p && (small40 rm && (small40 sz && (small40 al && (decide (0 < al) && (risingB l && l.all fun r => small40 (bAt r) && small40 (bRoom r)))))))
def mFits : List V → Heap → Option V := fun args H => match args with
  | [.c (.ptr hb 0), .agg [.int .i64 p, .int .i64 sz, .int .i64 rm], .c (.int .i64 al)] => match blkAt H hb with
    | some k => match k.tab with
      | none => match k.cells with
        | [.mp mb, .int .i64 top] => match blkAt H mb with
          | some km => match km.mapped with
            | some (true, [.int .i64, .int .i64, .int .i64], l) => match okFits l top p sz rm al with
              | true => some (.c (.bool (fitsB top l p sz rm al)))
              | false => none
            | _ => none
          | none => none
        | _ => none
      | _ => none
    | none => none
  | _ => none
theorem s_fits : SoundF NP 48 (quietS mFits) := by
  refine sound_quiet ⟨_, _, Try.func48, by kernel_rfl, rfl⟩ ?_
  intro args H v hm e w vs E hv
  unfold mFits at hm
  split at hm
  rotate_left
  · cases hm
  rename_i hb p sz rm al
  split at hm
  rotate_left
  · cases hm
  rename_i k hk
  split at hm
  rotate_left
  · cases hm
  rename_i ht
  split at hm
  rotate_left
  · cases hm
  rename_i mb top hc
  split at hm
  rotate_left
  · cases hm
  rename_i km hkm
  split at hm
  rotate_left
  · cases hm
  rename_i l hmp
  split at hm
  rotate_left
  · cases hm
  rename_i hok
  simp only [Option.some.injEq] at hm
  subst hm
  obtain ⟨r2, cs2, hr2, _, hl2⟩ := E.lies mb km hkm
  have hM := hl2.map hmp
  obtain ⟨r, cs, tl, hr, hd, hw, _, _⟩ := E.row hb k hk (Blk.win_none ht) (Blk.virt_none ht) (Blk.mapped_none ht)
  rw [Blk.real_none ht, hc] at hd
  simp only [denL, den, hr2, Option.map_some, Option.some.injEq] at hd
  subst hd
  simp only [allSome, denV, den, denL, hr, Option.map_some, Option.some.injEq] at hv
  subst hv
  unfold okFits at hok
  simp only [Bool.and_eq_true, decide_eq_true_eq] at hok
  obtain ⟨o1, o2, o3, o4, o5, o6, o7, o8⟩ := hok
  rw [List.all_eq_true] at o8
  refine (fits_any r.1 r2.1 top p sz rm al l w ?_ ?_ hM o1 o2 o3 o4 o5 o6 (risingB_eq o7) fun r hr => ?_).mono ?_
  · simp [World.cell?, hw]
  · simp [World.cell?, hw]
  · have := o8 r hr
    simpa using this
  · rintro en w' ⟨rfl, hg⟩
    exact ⟨_, rfl, rfl, hg⟩
end Go.Proofs.Ytjcdojcbdfblbaa.Lx
