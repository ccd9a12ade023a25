/- AllocPlace: all of its tree; its contract. -/
import Derived.Test.YtaegelbaghaooaaGreatApPPlYes
set_option linter.unusedSimpArgs false
set_option linter.unusedVariables false
namespace Go.Proofs.YtaegelbaghaooaaGreat
open Go Go.RowKit Lx
set_option linter.unusedVariables false
set_option linter.unusedSectionVars false
set_option maxRecDepth 100000
theorem wrap_lt (y : Int) : IntKind.i64.wrap y < 9223372036854775808 := by rw [IntKind.wrap_i64]; omega
theorem pl_yes {pages size align power : Int} {raw : Bool} (h0 : 0 ≤ pages) (h1 : pages ≤ 255) (ha : align < 9223372036854775808) (hp : 0 ≤ power) : Yes (plT pages size align power raw) := by
  obtain ⟨n, hn⟩ : ∃ n : Nat, pages % 5 + 1 = (n : Int) := ⟨(pages % 5 + 1).toNat, by omega⟩
  have hn1 : 1 ≤ n := by omega
  have hn5 : n ≤ 5 := by omega
  have hf : Small n 1 := ⟨⟨hn1, by omega, by omega, by omega⟩, by unfold nodesN; omega⟩
  have e1 : IntKind.wrap IntKind.i64 (1 + IntKind.wrap IntKind.i64 (Int.tmod pages 5)) = (n : Int) := by
    rw [Int.tmod_eq_emod_of_nonneg h0, w64 (x := pages % 5) (by omega) (by omega), w64 (by omega) (by omega)]; omega
  have hX : Int.toNat (mkGeo n 1).b19 = Br n 1 19 := rfl
  have e2 : IntKind.wrap IntKind.i64 ((mkGeo n 1).pages * 64) = ((n * 64 : Nat) : Int) := by
    show IntKind.wrap IntKind.i64 (((n : Nat) : Int) * 64) = _
    rw [show ((n : Nat) : Int) * 64 = ((n * 64 : Nat) : Int) by omega, wN _ (by omega)]
  have hBr := Br_le hf.n2 hf.t2
  have hg19 : (mkGeo n 1).b19 = ((Br n 1 19 : Nat) : Int) := rfl
  have hguard : decide (0 ≤ (mkGeo n 1).b19 ∧ (mkGeo n 1).b19 ≤ 1000000 ∧ 0 ≤ IntKind.wrap IntKind.i64 ((mkGeo n 1).pages * 64) ∧ IntKind.wrap IntKind.i64 ((mkGeo n 1).pages * 64) ≤ 1000000) = true := by
    rw [decide_eq_true_eq, e2, hg19]; omega
  have hY : Int.toNat (IntKind.wrap IntKind.i64 ((mkGeo n 1).pages * 64)) = n * 64 := by rw [e2]; rfl
  have hR0 : Rep n 1 (zeroW 0 (List.replicate (n * 64) 0) 0) ⟨⟨List.replicate (Int.toNat (mkGeo n 1).b19) 0, List.replicate (Int.toNat (IntKind.wrap IntKind.i64 ((mkGeo n 1).pages * 64))) 0⟩, 0, 0, none⟩ := by
    rw [hX, hY]; exact rep_zero 0 _
  have hok : okS (Int.toNat (mkGeo n 1).b19) (Int.toNat (mkGeo n 1).b19) (Int.toNat (IntKind.wrap IntKind.i64 ((mkGeo n 1).pages * 64))) (Int.toNat (IntKind.wrap IntKind.i64 ((mkGeo n 1).pages * 64))) (List.replicate (Int.toNat (mkGeo n 1).b19) 0) (List.replicate (Int.toNat (IntKind.wrap IntKind.i64 ((mkGeo n 1).pages * 64))) 0) = true := by
    rw [hX, hY]
    exact decide_eq_true ⟨rfl, rfl, by simp, by simp, by omega, by omega⟩
  obtain ⟨x0, A1, hrun, hfr1, h4, hN⟩ := run_pinit hf (A := zeroW 0 (List.replicate (n * 64) 0) 0) trivial
  have hE : Empty n 1 ((A1.port 0).lay 0 n) := empty_pr hf (A0 := zeroW 0 (List.replicate (n * 64) 0) 0) (fun _ _ => rfl) hfr1 h4 hN (fun _ _ => rfl)
  have hl := lay_fr (A1.port 0) 0 n
  have hb1 : A1.b.length ≤ 1000000 := by rw [hfr1.b]; show (List.replicate (n * 64) (0 : Int)).length ≤ _; simp; omega
  have hb : ((A1.port 0).lay 0 n).b.length ≤ 1000000 := by rw [hl.b]; exact hb1
  have memory : ∀ k : Unit × DS → T Bool, (∀ s : DS, Rep n 1 (((A1.port 0).lay 0 n).port 0) ⟨⟨s.m.words, s.m.bytes⟩, 0, 0, none⟩ → Yes (k ((), s))) →
      Yes ((guardT (decide (0 ≤ (mkGeo n 1).b19 ∧ (mkGeo n 1).b19 ≤ 1000000 ∧ 0 ≤ IntKind.wrap IntKind.i64 ((mkGeo n 1).pages * 64) ∧ IntKind.wrap IntKind.i64 ((mkGeo n 1).pages * 64) ≤ 1000000))).bind fun _ =>
        (vN (okS (Int.toNat (mkGeo n 1).b19) (Int.toNat (mkGeo n 1).b19) (Int.toNat (IntKind.wrap IntKind.i64 ((mkGeo n 1).pages * 64))) (Int.toNat (IntKind.wrap IntKind.i64 ((mkGeo n 1).pages * 64))) (List.replicate (Int.toNat (mkGeo n 1).b19) 0) (List.replicate (Int.toNat (IntKind.wrap IntKind.i64 ((mkGeo n 1).pages * 64))) 0)) (pinitT (mkGeo n 1)) ⟨⟨List.replicate (Int.toNat (mkGeo n 1).b19) 0, List.replicate (Int.toNat (IntKind.wrap IntKind.i64 ((mkGeo n 1).pages * 64))) 0⟩, 0, 0, none⟩).bind fun r3 =>
        (vN (okS r3.2.m.words.length r3.2.m.words.length r3.2.m.bytes.length r3.2.m.bytes.length r3.2.m.words r3.2.m.bytes) (rinitT (mkGeo n 1)) ⟨⟨r3.2.m.words, r3.2.m.bytes⟩, 0, 0, none⟩).bind k) := by
    intro k hk
    refine Yes.guard hguard ?_
    refine Yes.vN (Q := fun _ A' => A1 = A') hok hR0 (Rn.of hrun rfl) (fun x A' hx => by rw [← hx, hfr1.told]; rfl) fun x A' s hx hR => ?_
    subst hx
    refine Yes.vN (Q := fun _ A' => (A1.port 0).lay 0 n = A') (ok_parts hf hR hb1) (hR.port 0) (Rn.of (run_rinit hf) rfl) (fun x A' hx => by rw [← hx, hl.told]; rfl) fun x A' s' hx hR' => ?_
    subst hx
    exact hk s' (hR'.port 0)
  unfold plT plTK
  rw [e1]
  refine Yes.run (newT_ret (t := 1) hf.toFew) (Yes.no rfl ?_)
  refine memory _ fun s4 h4 => ?_
  refine memory _ fun s7 h7 => ?_
  cases raw with
  | false =>
    refine Yes.yes rfl (Yes.yes (by rw [decide_eq_false (show ¬ Int.tmod power 9 < 0 by rw [Int.tmod_eq_emod_of_nonneg hp]; omega)]; rfl) ?_)
    exact rest_yes hn1 hn5 hE (r4 := ((), s4)) (r7 := ((), s7)) h4 h7 hb (wrap_lt _)
  | true =>
    refine Yes.no rfl ?_
    exact rest_yes hn1 hn5 hE (r4 := ((), s4)) (r7 := ((), s7)) h4 h7 hb ha
theorem allocPlace_any {pages size align power : Int} {raw : Bool} (h0 : 0 ≤ pages) (h1 : pages ≤ 255) (ha : align < 9223372036854775808) (hp : 0 ≤ power) (w : World) :
    Calls Tryz.prog 3 #[.int .u8 pages, .int .i64 size, .int .i64 align, .int .u8 power, .bool raw] w fun e w' => e = .returned (.bool true) ∧ Below w.heap.size w w' :=
  calls_flat (s_m_plT s_kv5) (args := [.c (.int .u8 pages), .c (.int .i64 size), .c (.int .i64 align), .c (.int .u8 power), .c (.bool raw)]) rfl rfl (pl_yes h0 h1 ha hp) rfl (fun e => rfl) w
end Go.Proofs.YtaegelbaghaooaaGreat
