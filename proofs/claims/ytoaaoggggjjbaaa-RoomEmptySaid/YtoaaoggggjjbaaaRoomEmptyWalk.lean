/- RoomEmpty walked. -/
import Derived.Test.YtoaaoggggjjbaaaFitsMath
import Derived.Test.YtoaaoggggjjbaaaRoomAwake
namespace Go.Proofs.Ytoaaoggggjjbaaa
open Go.RowKit
theorem fits_none {n x y : Int} (h0 : 1 ≤ n) (h1 : n ≤ 256) (hx : 1 ≤ x) (hy : 1 ≤ y) : fitsV [] n x y = decide (x ≤ n) := by
  rw [Bool.eq_iff_iff, fitsV_iff (by omega) h1, decide_eq_true_eq]
  constructor
  · rintro ⟨_, _, p, _, _, h, _⟩; omega
  · intro h
    exact ⟨hx, hy, 0, by omega, by simp, by omega, rfl⟩
/-- the least multiple of y behind p. -/
theorem behind_least {p y q : Int} (hy : 1 ≤ y) (hq : q % y = 0) (h : p < q) : (p + y) / y * y ≤ q := by
  obtain ⟨m, rfl⟩ := Int.dvd_of_emod_eq_zero hq
  have h1 : (p + y) / y ≤ m := by
    have : p + y < (m + 1) * y := by rw [Int.add_mul, Int.mul_comm m y]; omega
    have := (Int.ediv_lt_iff_lt_mul (by omega : 0 < y)).2 this
    omega
  rw [Int.mul_comm y m]
  exact Int.mul_le_mul_of_nonneg_right h1 (by omega)
theorem behind_gt {p y : Int} (hy : 1 ≤ y) : p < (p + y) / y * y := by
  have h1 := Int.emod_add_mul_ediv (p + y) y
  have h2 := Int.emod_lt_of_pos (p + y) (by omega : 0 < y)
  rw [Int.mul_comm] at h1
  omega
theorem behind_le {p y : Int} (hy : 1 ≤ y) : (p + y) / y * y ≤ p + y := Int.ediv_mul_le _ (by omega)
theorem fits_one {n p x y : Int} (h1 : n ≤ 256) (hp0 : 0 ≤ p) (hp1 : p < n) (hx : 1 ≤ x) (hy : 1 ≤ y) :
    fitsV [⟨64 * p, 64, 64⟩] n x y = decide (x ≤ p ∨ (p + y) / y * y < n ∧ x ≤ n - (p + y) / y * y) := by
  have hcl : ∀ q : Int, clearB [⟨64 * p, 64, 64⟩] q x = true ↔ q + x ≤ p ∨ p < q := by
    intro q
    unfold clearB hitB
    have hw : wrap64 (64 * p + 64) = 64 * p + 64 := IntWalk.wrap64_in _ (by omega)
    simp only [List.any_cons, List.any_nil, Bool.or_false, Bool.not_eq_true', Bool.and_eq_false_iff, decide_eq_false_iff_not, hw]
    omega
  rw [Bool.eq_iff_iff, fitsV_iff (by omega) h1, decide_eq_true_eq]
  constructor
  · rintro ⟨_, _, q, h2, h3, h4, h5⟩
    rcases (hcl q).1 h5 with h | h
    · exact .inl (by omega)
    · have := behind_least hy h3 h
      exact .inr ⟨by omega, by omega⟩
  · rintro (h | ⟨h2, h3⟩)
    · exact ⟨hx, hy, 0, by omega, by simp, by omega, (hcl 0).2 (.inl (by omega))⟩
    · have hg := behind_gt (p := p) hy
      refine ⟨hx, hy, ((p + y) / y * y).toNat, by omega, ?_, by omega, (hcl _).2 (.inr (by omega))⟩
      rw [Int.toNat_of_nonneg (by omega)]
      exact Int.mul_emod_left _ _
theorem live_one (p : Int) : liveV [takesE 1 64 (64 * p) 64] 1 = [⟨64 * p, 64, 64⟩] := rfl
theorem live_zero (p : Int) : liveV [takesE 1 64 (64 * p) 64] 0 = [] := rfl
theorem takesE_ok {lin size pos n : Int} (h1 : i64ok lin) (h2 : i64ok size) (h3 : i64ok pos) (h4 : i64ok n) : (takesE lin size pos n).ok := by
  unfold takesE mkEv Ev.ok Cl.ok Rs.ok
  simp only [i64ok, u8ok, u64ok] at *
  omega
set_option maxRecDepth 100000 in
set_option maxHeartbeats 1000000 in
theorem roomEmpty_any (pages page k a : Int) (w : World) (hp0 : 0 ≤ pages) (hp1 : pages ≤ 255) (hq0 : 0 ≤ page) (hq1 : page ≤ 255) (hk0 : 0 ≤ k) (ha0 : 0 ≤ a) :
    Calls Try.prog 5 #[.int .u8 pages, .int .u8 page, .int .u64 k, .int .u64 a] w fun e w' => e = .returned (.bool true) ∧ Below w.heap.size w w' := by
  have HA := Lib.hid awake23
  obtain ⟨p, hp⟩ : ∃ p : Int, Int.tmod page (pages + 1) = p := ⟨_, rfl⟩
  obtain ⟨x, hx⟩ : ∃ x : Int, Int.tmod k 1099511627776 = x := ⟨_, rfl⟩
  obtain ⟨y, hy⟩ : ∃ y : Int, Int.tmod a 1099511627776 = y := ⟨_, rfl⟩
  have hpb : 0 ≤ p ∧ p < pages + 1 := by
    rw [Int.tmod_eq_emod_of_nonneg hq0] at hp
    have h1 := Int.emod_nonneg page (b := pages + 1) (by omega)
    have h2 := Int.emod_lt_of_pos page (b := pages + 1) (by omega)
    omega
  have hxb : 0 ≤ x ∧ x < 1099511627776 := by
    rw [Int.tmod_eq_emod_of_nonneg hk0] at hx
    omega
  have hyb : 0 ≤ y ∧ y < 1099511627776 := by
    rw [Int.tmod_eq_emod_of_nonneg ha0] at hy
    omega
  obtain ⟨hpb0, hpb1⟩ := hpb
  obtain ⟨hxb0, hxb1⟩ := hxb
  obtain ⟨hyb0, hyb1⟩ := hyb
  have f1 := fits_none (n := pages + 1) (x := x + 1) (y := y + 1) (by omega) (by omega) (by omega) (by omega)
  have f2 := fits_one (n := pages + 1) (p := p) (x := x + 1) (y := y + 1) (by omega) hpb0 hpb1 (by omega) (by omega)
  have g1 := behind_gt (p := p) (y := y + 1) (by omega)
  have g2 := behind_le (p := p) (y := y + 1) (by omega)
  obtain ⟨d, hd⟩ : ∃ d, Int.tdiv (p + (y + 1)) (y + 1) = d := ⟨_, rfl⟩
  have hd2 : (p + (y + 1)) / (y + 1) = d := by rw [← hd, Int.tdiv_eq_ediv_of_nonneg (by omega)]
  rw [hd2] at f2 g1 g2
  have hdb : 0 ≤ d ∧ d ≤ 1099511628100 := by
    rw [← hd2]
    constructor
    · exact Int.ediv_nonneg (by omega) (by omega)
    · have := Int.ediv_le_self (y + 1) (show 0 ≤ p + (y + 1) by omega)
      omega
  obtain ⟨hdb0, hdb1⟩ := hdb
  obtain ⟨bh, hbh⟩ : ∃ bh, d * (y + 1) = bh := ⟨_, rfl⟩
  rw [hbh] at f2 g1 g2
  have HF : Hid (∀ (A : Option Addr) (n c : Nat) (es : List Ev) (step : Int) (w1 : World), n ≤ 1 → EvRow w1 w1.heap.size A n c es → Calls Try.prog 10 #[.slice A n c, .int .i64 (pages + 1), .int .i64 step, .int .i64 (x + 1), .int .i64 (y + 1)] w1 fun e w' => e = .returned (.bool (fitsV (liveV es step) (pages + 1) (x + 1) (y + 1))) ∧ Below w1.heap.size w1 w') :=
    Lib.hid fun A n c es step w1 hn hE => fits_any A n c es (pages + 1) step (x + 1) (y + 1) w1 hE (by omega) (by unfold i64ok; omega)
  have HT := Lib.hid (takes_any 1 64 (64 * p) 64)
  have hok : (takesE 1 64 (64 * p) 64).ok := takesE_ok (by unfold i64ok; omega) (by unfold i64ok; omega) (by unfold i64ok; omega) (by unfold i64ok; omega)
  have hl1 := live_one p
  have hl0 := live_zero p
  generalize takesE 1 64 (64 * p) 64 = t at HT hok hl1 hl0
  have HOK := Lib.hid hok
  have e1 : fitsV (liveV [] 1) (pages + 1) (x + 1) (y + 1) = decide (x + 1 ≤ pages + 1) := f1
  have e0 : fitsV (liveV [t] 0) (pages + 1) (x + 1) (y + 1) = decide (x + 1 ≤ pages + 1) := by rw [hl0]; exact f1
  have e2 : fitsV (liveV [t] 1) (pages + 1) (x + 1) (y + 1) = decide (x + 1 ≤ p ∨ bh < pages + 1 ∧ x + 1 ≤ pages + 1 - bh) := by rw [hl1]; exact f2
  clear f1 f2 hl1 hl0 hok hd2
  have E1 := Lib.hid e1
  have E0 := Lib.hid e0
  have E2 := Lib.hid e2
  clear e1 e0 e2
  go_enter Try.func5, Try.ntmps5
  go_wp2_with fail
  refine (HF.out _ _ _ [] _ _ (by omega) EvRow.nil).mono ?_
  rintro e w1 ⟨rfl, b1⟩
  rw [E1.out]
  go_wp2_with fail
  refine (HT.out _).mono ?_
  rintro e w2 ⟨rfl, b2⟩
  have b2 := b1.trans (b2.mono b1.size)
  have HR := Lib.hid (one_row (w := w2) HOK.out)
  have b3 := b2.alloc b2.size (.cells t.cells.toArray 35)
  have hone := t.oneCell
  have HONE := Lib.hid hone
  clear b1 b2 hone
  by_cases c1 : x + 1 ≤ p
  · have v2 : decide (x + 1 ≤ p ∨ bh < pages + 1 ∧ x + 1 ≤ pages + 1 - bh) = true := by simp; omega
    have V2 := Lib.hid v2
    clear v2
    go_wp2_with (first
      | (refine wpList_buildSlice_one rfl 22 (.tmp 41) rfl 35 _ 24 Try.underlying22 Try.zero_event t.cells.toArray rfl rfl (by decide) (by decide) ?_))
    refine (HF.out _ _ _ [t] _ _ (by omega) HR.out).mono ?_
    rintro e w4 ⟨rfl, b4⟩
    rw [E2.out, V2.out]
    have HR4 := Lib.hid ((HR.out.below b4).more b4.size)
    have b5 := b3.trans (b4.mono b3.size)
    clear b4 b3
    go_wp2_with fail
    refine (HF.out _ _ _ [t] _ _ (by omega) HR4.out).mono ?_
    rintro e w5 ⟨rfl, b6⟩
    rw [E0.out]
    have b7 := b5.trans (b6.mono b5.size)
    clear b5 b6
    go_wp2_with fail
    refine (HA.out _).mono ?_
    rintro e w6 ⟨rfl, b8⟩
    have b9 := b7.trans (b8.mono b7.size)
    clear b7 b8
    go_wp2
    go_ret
    exact ⟨rfl, b9⟩
  · by_cases c2 : bh < pages + 1
    · by_cases c3 : x + 1 ≤ pages + 1 - bh
      · have v2 : decide (x + 1 ≤ p ∨ bh < pages + 1 ∧ x + 1 ≤ pages + 1 - bh) = true := by simp; omega
        have V2 := Lib.hid v2
        clear v2
        go_wp2_with (first
          | (refine wpList_buildSlice_one rfl 22 (.tmp 41) rfl 35 _ 24 Try.underlying22 Try.zero_event t.cells.toArray rfl rfl (by decide) (by decide) ?_))
        refine (HF.out _ _ _ [t] _ _ (by omega) HR.out).mono ?_
        rintro e w4 ⟨rfl, b4⟩
        rw [E2.out, V2.out]
        have HR4 := Lib.hid ((HR.out.below b4).more b4.size)
        have b5 := b3.trans (b4.mono b3.size)
        clear b4 b3
        go_wp2_with fail
        refine (HF.out _ _ _ [t] _ _ (by omega) HR4.out).mono ?_
        rintro e w5 ⟨rfl, b6⟩
        rw [E0.out]
        have b7 := b5.trans (b6.mono b5.size)
        clear b5 b6
        go_wp2_with fail
        refine (HA.out _).mono ?_
        rintro e w6 ⟨rfl, b8⟩
        have b9 := b7.trans (b8.mono b7.size)
        clear b7 b8
        go_wp2
        go_ret
        exact ⟨rfl, b9⟩
      · have v2 : decide (x + 1 ≤ p ∨ bh < pages + 1 ∧ x + 1 ≤ pages + 1 - bh) = false := by simp; omega
        have V2 := Lib.hid v2
        clear v2
        go_wp2_with (first
          | (refine wpList_buildSlice_one rfl 22 (.tmp 41) rfl 35 _ 24 Try.underlying22 Try.zero_event t.cells.toArray rfl rfl (by decide) (by decide) ?_))
        refine (HF.out _ _ _ [t] _ _ (by omega) HR.out).mono ?_
        rintro e w4 ⟨rfl, b4⟩
        rw [E2.out, V2.out]
        have HR4 := Lib.hid ((HR.out.below b4).more b4.size)
        have b5 := b3.trans (b4.mono b3.size)
        clear b4 b3
        go_wp2_with fail
        refine (HF.out _ _ _ [t] _ _ (by omega) HR4.out).mono ?_
        rintro e w5 ⟨rfl, b6⟩
        rw [E0.out]
        have b7 := b5.trans (b6.mono b5.size)
        clear b5 b6
        go_wp2_with fail
        refine (HA.out _).mono ?_
        rintro e w6 ⟨rfl, b8⟩
        have b9 := b7.trans (b8.mono b7.size)
        clear b7 b8
        go_wp2
        go_ret
        exact ⟨ret_bool (by simp; omega), b9⟩
    · have v2 : decide (x + 1 ≤ p ∨ bh < pages + 1 ∧ x + 1 ≤ pages + 1 - bh) = false := by simp; omega
      have V2 := Lib.hid v2
      clear v2
      go_wp2_with (first
        | (refine wpList_buildSlice_one rfl 22 (.tmp 41) rfl 35 _ 24 Try.underlying22 Try.zero_event t.cells.toArray rfl rfl (by decide) (by decide) ?_))
      refine (HF.out _ _ _ [t] _ _ (by omega) HR.out).mono ?_
      rintro e w4 ⟨rfl, b4⟩
      rw [E2.out, V2.out]
      have HR4 := Lib.hid ((HR.out.below b4).more b4.size)
      have b5 := b3.trans (b4.mono b3.size)
      clear b4 b3
      go_wp2_with fail
      refine (HF.out _ _ _ [t] _ _ (by omega) HR4.out).mono ?_
      rintro e w5 ⟨rfl, b6⟩
      rw [E0.out]
      have b7 := b5.trans (b6.mono b5.size)
      clear b5 b6
      go_wp2_with fail
      refine (HA.out _).mono ?_
      rintro e w6 ⟨rfl, b8⟩
      have b9 := b7.trans (b8.mono b7.size)
      clear b7 b8
      go_wp2
      go_ret
      exact ⟨ret_bool (by simp; omega), b9⟩
end Go.Proofs.Ytoaaoggggjjbaaa
