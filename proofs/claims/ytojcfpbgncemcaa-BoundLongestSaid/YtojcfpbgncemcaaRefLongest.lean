/- The contract of quilletref24.Longest. -/
import Derived.Test.YtojcfpbgncemcaaLongestMath
namespace Go.Proofs.Ytojcfpbgncemcaa
open Go.RowKit Go.Deep
theorem hits_snoc (es : List Ev) (e : Ev) (p : Int) : hits (es ++ [e]) p = (hits es p || (e.done && e.to == p)) := by
  unfold hits; rw [List.any_append]; simp
set_option maxHeartbeats 1000000 in
theorem refLongest_any (A : Option Addr) (n c : Nat) (es : List Ev) (steps : Int) (w : World) (hE : EvRow w w.heap.size A n c es) (hn : n ≤ 1000) (hs1 : -9223372036854775808 ≤ steps) (hs2 : steps ≤ 1000000) :
    Calls Try.prog 12 #[.slice A n c, .int .i64 steps] w fun e w' => e = .returned (.int .i64 (runs (hits es) 0 0 0 steps.toNat)) ∧ w = w' := by
  have HL := Lib.hid hE.1
  have HE := Lib.hid hE.2.2.2.2
  clear hE
  go_enter Try.func12, Try.ntmps12
  go_wp2
  go_loop [5, 6, 7] (fun m r a => ∃ (k : Nat) (M R : Int), k ≤ steps.toNat ∧ a = .int .i64 (k + 1) ∧ m = .int .i64 M ∧ r = .int .i64 R ∧ 0 ≤ R ∧ R ≤ k ∧ runs (hits es) k M R (steps.toNat - k) = runs (hits es) 0 0 0 steps.toNat) (fun _ _ a => steps.toNat + 1 - (intOf a).toNat)
  case atStart => exact ⟨0, 0, 0, Nat.zero_le _, rfl, rfl, rfl, by omega, by omega, rfl⟩
  case round =>
    obtain ⟨k, M, R, hk, rfl, rfl, rfl, hR1, hR2, hrun⟩ := hrel
    by_cases hlt : k < steps.toNat
    · have hle : (k : Int) + 1 ≤ steps := by omega
      obtain ⟨q, hq⟩ : ∃ q, steps.toNat - k = q + 1 := ⟨steps.toNat - k - 1, by omega⟩
      rw [hq, runs_succ] at hrun
      have hq2 : steps.toNat - (k + 1) = q := by omega
      have HR := Lib.hid hrun
      have HQ := Lib.hid hq2
      clear hrun hq hq2
      go_wp2
      go_loop [8, 9] (fun b i => ∃ j : Nat, j ≤ n ∧ i = .int .i64 j ∧ b = .bool (hits (es.take j) (k + 1))) (fun _ i => n - (intOf i).toNat)
      case atStart => exact ⟨0, Nat.zero_le _, rfl, rfl⟩
      case round =>
        obtain ⟨j, hj, rfl, rfl⟩ := hrel
        by_cases hjl : j < n
        · obtain ⟨b, o, rfl, hb, hr⟩ := HE.out (by omega)
          have hjl' : j < es.length := by have := HL.out; omega
          have hrk := hr j es[j] (List.getElem?_eq_getElem hjl')
          have hts := List.take_succ_eq_append_getElem hjl'
          have hsn := hits_snoc (es.take j) es[j] (k + 1)
          rw [← hts] at hsn
          generalize es[j] = e at hrk hsn
          have c12 : w.cell? ⟨b, o + j * 24 + 12, none⟩ = some (.bool e.done) := hrk 12 _ rfl
          have c9 : w.cell? ⟨b, o + j * 24 + 9, none⟩ = some (.int .i64 e.to) := hrk 9 _ rfl
          have HS := Lib.hid hsn
          clear hsn hts hrk hr
          generalize hh : hits (es.take j) (k + 1) = h at *
          clear hh
          cases h
          · by_cases hd : e.done = true
            · rw [hd] at c12
              have HD := Lib.hid hd
              clear hd
              by_cases ht : e.to = k + 1
              · have htb : (e.to == (k : Int) + 1) = true := by simp [ht]
                have HT := Lib.hid htb
                have HT2 := Lib.hid ht
                rw [ht] at c9
                clear ht htb
                go_wp2
                go_round
                case rel => exact ⟨j + 1, by omega, by go_num, by rw [HS.out, HD.out, HT.out]; rfl⟩
                case measure => simp [intOf]; omega
              · have htb : (e.to == (k : Int) + 1) = false := by simp [ht]
                have HT := Lib.hid htb
                clear ht
                go_wp2
                go_round
                case rel => exact ⟨j + 1, by omega, by go_num, by rw [HS.out, HD.out, HT.out]; rfl⟩
                case measure => simp [intOf]; omega
            · have hd' : e.done = false := by simpa using hd
              rw [hd'] at c12
              have HD := Lib.hid hd'
              clear hd hd'
              go_wp2
              go_round
              case rel => exact ⟨j + 1, by omega, by go_num, by rw [HS.out, HD.out]; rfl⟩
              case measure => simp [intOf]; omega
          · go_wp2
            go_round
            case rel => exact ⟨j + 1, by omega, by go_num, by rw [HS.out]; rfl⟩
            case measure => simp [intOf]; omega
        · obtain rfl : j = n := by omega
          have hall : es.take j = es := List.take_of_length_le (by rw [HL.out]; omega)
          rw [hall]
          clear hall
          generalize hh : hits es ((k : Int) + 1) = h at *
          clear hh
          cases h
          · by_cases hm : M < R + 1
            · go_wp2
              go_round
              case rel => exact ⟨k + 1, _, _, by omega, by go_num, rfl, rfl, by omega, by omega, by
                rw [HQ.out, ← HR.out]; simp only [Bool.false_eq_true, if_false]; rw [Int.max_eq_right (by omega)]; rfl⟩
              case measure => simp [intOf]; omega
            · go_wp2
              go_round
              case rel => exact ⟨k + 1, _, _, by omega, by go_num, rfl, rfl, by omega, by omega, by
                rw [HQ.out, ← HR.out]; simp only [Bool.false_eq_true, if_false]; rw [Int.max_eq_left (by omega)]; rfl⟩
              case measure => simp [intOf]; omega
          · by_cases hm : M < 0
            · go_wp2
              go_round
              case rel => exact ⟨k + 1, _, _, by omega, by go_num, rfl, rfl, by omega, by omega, by
                rw [HQ.out, ← HR.out]; simp only [if_true]; rw [Int.max_eq_right (by omega)]; rfl⟩
              case measure => simp [intOf]; omega
            · go_wp2
              go_round
              case rel => exact ⟨k + 1, _, _, by omega, by go_num, rfl, rfl, by omega, by omega, by
                rw [HQ.out, ← HR.out]; simp only [if_true]; rw [Int.max_eq_left (by omega)]; rfl⟩
              case measure => simp [intOf]; omega
    · have hk2 : steps.toNat - k = 0 := by omega
      have hgt : ¬ (k : Int) + 1 ≤ steps := by omega
      rw [hk2, runs] at hrun
      have HR := Lib.hid hrun
      clear hrun hk2
      go_wp2
      go_ret
      exact ⟨ret_int (a := M) HR.out, rfl⟩
end Go.Proofs.Ytojcfpbgncemcaa
