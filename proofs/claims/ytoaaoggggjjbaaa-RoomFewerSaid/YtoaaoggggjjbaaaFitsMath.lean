/- plain laws of Fits. -/
import Derived.Test.YtoaaoggggjjbaaaFits
namespace Go.Proofs.Ytoaaoggggjjbaaa
open Go.RowKit
theorem fitsV_iff {L : List Blk} {n k a : Int} (h0 : 0 ≤ n) (h1 : n ≤ 256) : fitsV L n k a = true ↔ 1 ≤ k ∧ 1 ≤ a ∧ ∃ p : Nat, (p : Int) < n ∧ (p : Int) % a = 0 ∧ k ≤ n - p ∧ clearB L p k = true := by
  unfold fitsV fitsN
  obtain ⟨P, hP⟩ : ∃ P : Nat, (min n 256).toNat = P := ⟨_, rfl⟩
  have hn : n = P := by omega
  rw [hP]
  simp only [Bool.and_eq_true, decide_eq_true_eq, List.any_eq_true, List.mem_range]
  constructor
  · rintro ⟨⟨h2, h3⟩, p, h4, ⟨h5, h6⟩, h7⟩
    exact ⟨h2, h3, p, by omega, h5, by omega, h7⟩
  · rintro ⟨h2, h3, p, h4, h5, h6, h7⟩
    exact ⟨⟨h2, h3⟩, p, by omega, ⟨h5, by omega⟩, h7⟩
theorem fits_more {L : List Blk} {n : Int} (h0 : 0 ≤ n) (h1 : n ≤ 256) (a : Int) : fitsV L n (n + 1) a = false := by
  cases h : fitsV L n (n + 1) a
  · rfl
  · obtain ⟨_, _, p, h4, _, h6, _⟩ := (fitsV_iff h0 h1).1 h
    omega
theorem hit_more {b : Blk} {p x k : Int} (hx : x ≤ k) (h : hitB b p x = true) : hitB b p k = true := by
  unfold hitB at *
  simp only [Bool.and_eq_true, decide_eq_true_eq] at *
  omega
theorem clear_less {L : List Blk} {p x k : Int} (hx : x ≤ k) (h : clearB L p k = true) : clearB L p x = true := by
  unfold clearB at *
  simp only [Bool.not_eq_true', List.any_eq_false] at *
  intro b hb hh
  exact h b hb (hit_more hx hh)
theorem fits_fewer {L : List Blk} {n k a x : Int} (h0 : 0 ≤ n) (h1 : n ≤ 256) (hx : 1 ≤ x) (hxk : x ≤ k) (h : fitsV L n k a = true) : fitsV L n x a = true := by
  obtain ⟨h2, h3, p, h4, h5, h6, h7⟩ := (fitsV_iff h0 h1).1 h
  exact (fitsV_iff h0 h1).2 ⟨hx, h3, p, h4, h5, by omega, clear_less hxk h7⟩
theorem fits_div {L : List Blk} {n k a x : Int} (h0 : 0 ≤ n) (h1 : n ≤ 256) (hx : 1 ≤ x) (hd : a % x = 0) (h : fitsV L n k a = true) : fitsV L n k x = true := by
  obtain ⟨h2, h3, p, h4, h5, h6, h7⟩ := (fitsV_iff h0 h1).1 h
  exact (fitsV_iff h0 h1).2 ⟨h2, hx, p, h4, Int.emod_eq_zero_of_dvd (Int.dvd_trans (Int.dvd_of_emod_eq_zero hd) (Int.dvd_of_emod_eq_zero h5)), h6, h7⟩
theorem fits_yes {L : List Blk} {n k a : Int} (h0 : 0 ≤ n) (h1 : n ≤ 256) (h : fitsV L n k a = true) : 1 ≤ k ∧ 1 ≤ a ∧ k ≤ n := by
  obtain ⟨h2, h3, p, h4, h5, h6, h7⟩ := (fitsV_iff h0 h1).1 h
  exact ⟨h2, h3, by omega⟩
end Go.Proofs.Ytoaaoggggjjbaaa
