/- room.span and room.Alone. -/
import Derived.Test.YtoaaoggggjjbaaaLaw22
import Derived.Deep.DrawnRows
namespace Go.Proofs.Ytoaaoggggjjbaaa
open Go.RowKit Go.Deep
attribute [local go_sem ↓] Go.wp_at_zero Go.wp_at_succ
theorem below_drewN {B : Nat} {a w : World} (h : Below B a w) (n : Nat) : Below B a (w.drewN n) := ⟨h.os, h.tape, h.output, h.size, h.block⟩
def spanTo (e : Ev) : Int := if e.done = true then e.to else 9223372036854775807
set_option maxRecDepth 100000 in
theorem span_any (e : Ev) (w : World) : Calls Try.prog 33 #[.agg e.cells.toArray] w fun x w' => x = .returned (.tuple #[.int .i64 e.sfrom, .int .i64 (spanTo e), .bool (decide (1 ≤ e.sfrom))]) ∧ Below w.heap.size w w' := by
  have c8 : e.cells[8]? = some (.int .i64 e.sfrom) := rfl
  have c9 : e.cells[9]? = some (.int .i64 e.to) := rfl
  have c12 : e.cells[12]? = some (.bool e.done) := rfl
  have hb := (Below.refl w.heap.size w).alloc (Nat.le_refl _) (.cells e.cells.toArray 35)
  have HB := Lib.hid hb
  clear hb
  unfold spanTo
  cases hd : e.done
  · rw [hd] at c12
    rw [if_neg (by simp)]
    clear hd
    go_enter Try.func33, Try.ntmps33
    go_wp2
    go_quiet (fail)
    go_wp2
    go_ret3
    exact ⟨rfl, below_drewN HB.out _⟩
  · rw [hd] at c12
    rw [if_pos rfl]
    clear hd
    go_enter Try.func33, Try.ntmps33
    go_wp2
    go_quiet (fail)
    go_wp2
    go_ret3
    exact ⟨rfl, below_drewN HB.out _⟩
/-- does e overlap x? -/
def clashB (x e : Ev) : Bool := decide (1 ≤ e.sfrom) && decide (e.sfrom ≤ x.to) && decide (x.sfrom ≤ spanTo e)
def AloneTo (es : List Ev) (i : Nat) (x : Ev) (n : Nat) : Prop := ∀ k e, k < n → k ≠ i → es[k]? = some e → clashB x e = false
set_option maxRecDepth 100000 in
set_option maxHeartbeats 1000000 in
theorem alone_any (A : Option Addr) (n c : Nat) (es : List Ev) (i : Nat) (ii : Int) (hii : ii = i) (x : Ev) (w : World) (hE : EvRow w w.heap.size A n c es) (hn : n ≤ 1000) (hx : es[i]? = some x) (hd : x.done = true) :
    Calls Try.prog 14 #[.slice A n c, .int .i64 ii] w fun e w' => (∃ b, e = .returned (.bool b) ∧ (b = true ↔ AloneTo es i x n)) ∧ Below w.heap.size w w' := by
  subst hii
  have hlen := hE.1
  have hi : i < n := by rw [← hlen]; exact (List.getElem?_eq_some_iff.1 hx).1
  obtain ⟨b, o, rfl, hb, hr⟩ := hE.2.2.2.2 (by omega)
  have hri := hr i x hx
  have x8 : w.cell? ⟨b, o + i * 24 + 8, none⟩ = some (.int .i64 x.sfrom) := hri 8 _ rfl
  have x9 : w.cell? ⟨b, o + i * 24 + 9, none⟩ = some (.int .i64 x.to) := hri 9 _ rfl
  have x12 : w.cell? ⟨b, o + i * 24 + 12, none⟩ = some (.bool x.done) := hri 12 _ rfl
  rw [hd] at x12
  have HR := Lib.hid hr
  have HL := Lib.hid hlen
  have HX := Lib.hid hx
  have X8 := Lib.hid x8
  have X9 := Lib.hid x9
  clear hE hr hlen hri x8 x9 hx hd
  have p1 : decide ((i : Int) < 0) = false := by simp
  have p2 : decide (n ≤ i) = false := by simp; omega
  go_enter Try.func14, Try.ntmps14
  go_wp2
  clear x12
  go_loopw [28] (fun j wr => ∃ k : Nat, k ≤ n ∧ j = .int .i64 k ∧ AloneTo es i x k ∧ Below w.heap.size w wr) (fun j _ => n - (intOf j).toNat)
  case atStart => exact ⟨0, Nat.zero_le _, rfl, fun k e h => by omega, Below.refl _ _⟩
  case round =>
    obtain ⟨k, hk, rfl, hal, hbel⟩ := hrel
    have HAL := Lib.hid hal
    clear hal
    by_cases hlt : k < n
    · have hkl : k < es.length := by rw [HL.out]; exact hlt
      have hrk0 := HR.out k es[k] (List.getElem?_eq_getElem hkl)
      have hek : es[k]? = some es[k] := List.getElem?_eq_getElem hkl
      generalize es[k] = e at hrk0 hek
      have hrk : wr.rangeAt b (o + k * 24) e.cells := fun j v hv => (hbel.cell (p := ⟨b, _, none⟩) hb).trans (hrk0 j v hv)
      have HEK := Lib.hid hek
      clear hrk0 hek
      have hbs := hbel.size
      have HNew := Lib.hid (new_range wr e.cells 35)
      have HSp := Lib.hid (span_any e)
      have hb1 := hbel.alloc hbs (.cells e.cells.toArray 35)
      go_wp2_with (first
        | (refine wpList_load_mid rfl 35 (.tmp 31) rfl b (o + k * 24) rfl e.cells _ hrk Try.underlying35 rfl Try.size_event ?_)
        | (refine wpList_load_mid rfl 35 (.tmp 6) rfl wr.heap.size 0 rfl e.cells _ HNew.out Try.underlying35 rfl Try.size_event ?_)
        | (refine wpList_store_new rfl 35 (.tmp 6) (.tmp 32) rfl wr _ e.cells.toArray rfl rfl rfl Try.size_event rfl (all_oneCell_toArray e.oneCell) ?_))
      refine (HSp.out _).mono ?_
      rintro e1 w1 ⟨rfl, hb2⟩
      have hb3 : Below w.heap.size w w1 := hb1.trans (hb2.mono hb1.size)
      have y8 := (hb3.cell (p := ⟨b, o + i * 24 + 8, none⟩) hb).trans X8.out
      have y9 := (hb3.cell (p := ⟨b, o + i * 24 + 9, none⟩) hb).trans X9.out
      clear hb1 hb2 HSp HNew hrk hbel
      generalize hst : spanTo e = st
      have HST := Lib.hid hst
      clear hst
      have hnext : (k = i ∨ clashB x e = false) → AloneTo es i x (k + 1) := fun h j e' hj hji he' => by
        rcases Nat.lt_or_ge j k with h' | h'
        · exact HAL.out j e' h' hji he'
        · obtain rfl : j = k := by omega
          rw [HEK.out] at he'
          injection he' with he'
          subst he'
          rcases h with h | h
          · exact absurd h hji
          · exact h
      have HNX := Lib.hid hnext
      clear hnext
      by_cases d0 : k = i
      · have q0 : ((k : Int) != (i : Int)) = false := by simp [d0]
        have D0 := Lib.hid d0
        clear d0
        go_wp2
        go_roundw
        case rel => exact ⟨k + 1, by omega, by go_num, HNX.out (.inl D0.out), hb3⟩
        case measure => simp [intOf]; omega
      · have q0 : ((k : Int) != (i : Int)) = true := by simp; omega
        have D0 := Lib.hid d0
        clear d0
        by_cases d1 : 1 ≤ e.sfrom
        · by_cases d2 : e.sfrom ≤ x.to
          · by_cases d3 : x.sfrom ≤ st
            · have hcl : clashB x e = true := by unfold clashB; rw [HST.out]; simp [d1, d2, d3]
              go_wp2
              go_ret
              refine ⟨⟨false, rfl, fun h => (by cases h), fun h => ?_⟩, hb3⟩
              have := h k e hlt D0.out HEK.out
              rw [hcl] at this
              cases this
            · have hcl : clashB x e = false := by unfold clashB; rw [HST.out]; simp [d3]
              have HCL := Lib.hid hcl
              clear hcl
              go_wp2
              go_roundw
              case rel => exact ⟨k + 1, by omega, by go_num, HNX.out (.inr HCL.out), hb3⟩
              case measure => simp [intOf]; omega
          · have hcl : clashB x e = false := by unfold clashB; simp [d2]
            have HCL := Lib.hid hcl
            clear hcl
            go_wp2
            go_roundw
            case rel => exact ⟨k + 1, by omega, by go_num, HNX.out (.inr HCL.out), hb3⟩
            case measure => simp [intOf]; omega
        · have hcl : clashB x e = false := by unfold clashB; simp [d1]
          have HCL := Lib.hid hcl
          clear hcl
          go_wp2
          go_roundw
          case rel => exact ⟨k + 1, by omega, by go_num, HNX.out (.inr HCL.out), hb3⟩
          case measure => simp [intOf]; omega
    · obtain rfl : k = n := by omega
      go_wp2
      go_ret
      exact ⟨⟨true, rfl, fun _ => HAL.out, fun _ => rfl⟩, hbel⟩
end Go.Proofs.Ytoaaoggggjjbaaa
