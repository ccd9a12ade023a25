/- RoomLess walked. -/
import Derived.Test.YtoaaoggggjjbaaaFitsMath
import Derived.Test.YtoaaoggggjjbaaaRoomAwake
namespace Go.Proofs.Ytoaaoggggjjbaaa
open Go.RowKit
set_option maxRecDepth 100000 in
set_option maxHeartbeats 1000000 in
theorem roomLess_any (A : Option Addr) (n c : Nat) (es : List Ev) (pages step k a : Int) (w : World) (hE : EvRow w w.heap.size A n c es) (hp0 : 0 ≤ pages) :
    Calls Try.prog 3 #[.slice A n c, .int .u8 pages, .int .i64 step, .int .i64 k, .int .i64 a] w fun e w' => e = .returned (.bool true) ∧ Below w.heap.size w w' := by
  have HA := Lib.hid awake23
  have hnm := hE.2.1
  have hcm := hE.2.2.1
  unfold maxLen at hcm
  by_cases hn : 30 < n
  · clear hE
    go_enter Try.func3, Try.ntmps3
    go_wp2_with fail
    refine (HA.out _).mono ?_
    rintro e w1 ⟨rfl, b1⟩
    go_wp2
    go_ret
    exact ⟨rfl, b1⟩
  · obtain ⟨m, hm⟩ : ∃ m : Int, Int.tmod pages 41 = m := ⟨_, rfl⟩
    have hm1 : 0 ≤ m ∧ m ≤ 40 := by
      rw [Int.tmod_eq_emod_of_nonneg hp0] at hm
      omega
    obtain ⟨hm0, hm1⟩ := hm1
    have HF : Hid (∀ (k a : Int) (w1 : World), Below w.heap.size w w1 → Calls Try.prog 10 #[.slice A n c, .int .i64 m, .int .i64 step, .int .i64 k, .int .i64 a] w1 fun e w' => e = .returned (.bool (fitsV (liveV es step) m k a)) ∧ Below w.heap.size w w') :=
      Lib.hid fun k a w1 hb => (fits_any A n c es m step k a w1 ((hE.below hb).more hb.size) (by omega) (by unfold i64ok; omega)).mono (by
        rintro e w' ⟨h1, h2⟩
        exact ⟨h1, hb.trans (h2.mono hb.size)⟩)
    clear hE
    generalize liveV es step = L at HF
    have hmore := fits_more (L := L) hm0 (by omega) 1
    cases hfit : fitsV L m k a
    · have HV := Lib.hid hfit
      have HMo := Lib.hid hmore
      clear hfit hmore
      go_enter Try.func3, Try.ntmps3
      go_wp2_with fail
      refine (HF.out _ _ _ (Below.refl _ _)).mono ?_
      rintro e w1 ⟨rfl, b1⟩
      rw [HV.out]
      go_wp2_with fail
      refine (HF.out _ _ _ b1).mono ?_
      rintro e w2 ⟨rfl, b2⟩
      rw [HMo.out]
      go_wp2_with fail
      refine (HA.out _).mono ?_
      rintro e w3 ⟨rfl, b3⟩
      go_wp2
      go_ret
      exact ⟨rfl, b2.trans (b3.mono b2.size)⟩
    · obtain ⟨hk1, ha1, hkm⟩ := fits_yes hm0 (by omega) hfit
      have HV := Lib.hid hfit
      have HMo := Lib.hid hmore
      clear hfit hmore
      go_enter Try.func3, Try.ntmps3
      go_wp2_with fail
      refine (HF.out _ _ _ (Below.refl _ _)).mono ?_
      rintro e w1 ⟨rfl, b1⟩
      rw [HV.out]
      go_wp2
      go_loopw [12] (fun i wr => ∃ x : Nat, 1 ≤ x ∧ (x : Int) ≤ k ∧ i = .int .i64 x ∧ Below w.heap.size w wr) (fun i _ => k.toNat - (intOf i).toNat)
      case atStart => exact ⟨1, by omega, by omega, rfl, b1⟩
      case round =>
        obtain ⟨x, hx1, hxk, rfl, hbel⟩ := hrel
        by_cases hlt : (x : Int) < k
        · have hv := fits_fewer (x := x) hm0 (by omega) (by omega) hxk HV.out
          have HVx := Lib.hid hv
          clear hv
          go_wp2_with fail
          refine (HF.out _ _ _ hbel).mono ?_
          rintro e w2 ⟨rfl, b2⟩
          rw [HVx.out]
          go_wp2
          go_roundw
          case rel => exact ⟨x + 1, by omega, by omega, by go_num, b2⟩
          case measure => simp [intOf]; omega
        · go_wp2
          go_loopw [13] (fun i wr => ∃ x : Nat, 1 ≤ x ∧ x ≤ 65 ∧ i = .int .i64 x ∧ Below w.heap.size w wr) (fun i _ => 65 - (intOf i).toNat)
          case atStart => exact ⟨1, by omega, by omega, rfl, hbel⟩
          case round =>
            obtain ⟨y, hy1, hy2, rfl, hbel2⟩ := hrel
            by_cases hgo : (y : Int) ≤ a ∧ (y : Int) ≤ 64
            · obtain ⟨g1, g2⟩ := hgo
              by_cases hd : Int.tmod a y = 0
              · have hv := fits_div (x := y) hm0 (by omega) (by omega) (by rw [← Int.tmod_eq_emod_of_nonneg (by omega)]; exact hd) HV.out
                have HVx := Lib.hid hv
                clear hv
                go_wp2_with fail
                refine (HF.out _ _ _ hbel2).mono ?_
                rintro e w2 ⟨rfl, b2⟩
                rw [HVx.out]
                go_wp2
                go_roundw
                case rel => exact ⟨y + 1, by omega, by omega, by go_num, b2⟩
                case measure => simp [intOf]; omega
              · obtain ⟨r, hr⟩ : ∃ r, Int.tmod a y = r := ⟨_, rfl⟩
                have hr1 : 0 ≤ r ∧ r < 64 := by
                  rw [Int.tmod_eq_emod_of_nonneg (by omega)] at hr
                  have h1 := Int.emod_nonneg a (b := y) (by omega)
                  have h2 := Int.emod_lt_of_pos a (b := y) (by omega)
                  omega
                have hd' : (r == 0) = false := by rw [hr] at hd; simpa using hd
                obtain ⟨hr2, hr3⟩ := hr1
                clear hd
                go_wp2
                go_roundw
                case rel => exact ⟨y + 1, by omega, by omega, by go_num, hbel2⟩
                case measure => simp [intOf]; omega
            · by_cases g1 : (y : Int) ≤ a
              · have g2 : ¬ (y : Int) ≤ 64 := fun h => hgo ⟨g1, h⟩
                clear hgo
                go_wp2_with fail
                refine (HF.out _ _ _ hbel2).mono ?_
                rintro e w2 ⟨rfl, b2⟩
                rw [HMo.out]
                go_wp2_with fail
                refine (HA.out _).mono ?_
                rintro e w3 ⟨rfl, b3⟩
                go_wp2
                go_ret
                exact ⟨rfl, b2.trans (b3.mono b2.size)⟩
              · clear hgo
                go_wp2_with fail
                refine (HF.out _ _ _ hbel2).mono ?_
                rintro e w2 ⟨rfl, b2⟩
                rw [HMo.out]
                go_wp2_with fail
                refine (HA.out _).mono ?_
                rintro e w3 ⟨rfl, b3⟩
                go_wp2
                go_ret
                exact ⟨rfl, b2.trans (b3.mono b2.size)⟩
end Go.Proofs.Ytoaaoggggjjbaaa
