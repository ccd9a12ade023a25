/- slices.SortStableFunc at []api.Event by an integer key: the row is sorted, stably. -/
import Derived.Test.YtoaaoggggjjbaaaStableSym3
import Derived.Test.YtoaaoggggjjbaaaStableBlocks
import Derived.Test.YtoaaoggggjjbaaaShelf2
import Derived.WalkSpells
import Derived.WalkLawsBesides
namespace Go.Proofs.Ytoaaoggggjjbaaa.St
open Go.Shelf Go.RowKit Go.Lib Go.Sort
variable {α : Type} [Inhabited α] {enc : α → List Value} {w0 : World} {blk off : Nat}
theorem stE : StE Try.prog 24 where
  mixed := by kernel_rfl
  t0 := Try.underlying0
  t3 := Try.underlying3
  a3 := Try.isAgg3
  z3 := Try.sizeOf3
  v3 := Try.zeroValue3
  tu := Try.underlying104
  au := Try.isAgg104
  zu := Try.sizeOf104
  t4 := Try.underlying4
  a4 := Try.isAgg4
  z4 := Try.sizeOf4
  tS := Try.underlying22
  aS := Try.isAgg22
  zS := Try.sizeOf22
  aE := Try.isAgg35
  zE := Try.sizeOf35
  fSwap := Try.func99
  fRot := Try.func92
  fSym := Try.func76
  fIns := Try.func75
  fSta := Try.func62
theorem ins_call (κ : α → Int) (cf : α → α → Int) (hcf : ∀ x y, cf x y < 0 ↔ κ x < κ y) (g : Nat) (cb : Array Value) (eg : ∀ args w, (callFunc g args).run Try.prog w = .ok (.enter g args) w) (cap N : Nat) (d0 : Array α) (R : RowK enc 24 w0 blk off d0)
    (hcmp : CmpLays Try.prog g cb enc 24 cf blk off N w0) (hs : d0.size = N) (hsz : N < 2305843009213693952) (pre seg post : List α) (a b : Nat) (az bz : Int) (eaz : az = a) (ebz : bz = b) (ha : a = pre.length) (hb : b = pre.length + seg.length) (hN : N = pre.length + seg.length + post.length) (w : World)
    (S : SWK enc 24 w0 blk off (pre ++ (seg ++ post)).toArray w) :
    Calls Try.prog 75 #[.slice (some ⟨blk, off, none⟩) N cap, .int .i64 az, .int .i64 bz, .func (.func g) #[] cb] w fun e w' =>
      e = .returned (.tuple #[]) ∧ SWK enc 24 w0 blk off (pre ++ (ssort κ seg ++ post)).toArray w' := by
  subst eaz ebz
  have hlt : ∀ x y, ltOf cf x y = decide (κ x < κ y) := fun x y => by unfold ltOf; exact decide_eq_decide.2 (hcf x y)
  have hO : SWO (ltOf cf) := by
    constructor
    · intro x; rw [hlt]; simp
    · intro x y z h1 h2; rw [hlt] at *; simp at *; omega
    · intro x y z h1 h2; rw [hlt] at *; simp at *; omega
  have hd : (pre ++ (seg ++ post)).toArray.size = N := by simp; omega
  have h := AnyQ.insertionSortCmpFunc_w Try.insE 24 Try.isAgg35 Try.sizeOf35 enc cf g cb blk off cap a b d0 (pre ++ (seg ++ post)).toArray w0 w eg (by rw [hs]; exact hcmp) R (by omega) S hO (by omega) (by omega) (by omega)
  rw [hd, insertionSort_list κ (ltOf cf) hlt pre seg post a b ha hb] at h
  exact h
set_option maxHeartbeats 4000000 in
set_option maxRecDepth 1000000 in
theorem stable (κ : α → Int) (cf : α → α → Int) (hcf : ∀ x y, cf x y < 0 ↔ κ x < κ y) (g : Nat) (cb : Array Value) (eg : ∀ args w, (callFunc g args).run Try.prog w = .ok (.enter g args) w) (cap N : Nat) (d0 : Array α) (R : RowK enc 24 w0 blk off d0)
    (hcmp : CmpLays Try.prog g cb enc 24 cf blk off N w0) (hs : d0.size = N) (hsz : N < 1000000000) (L : List α) (hL : L.length = N) (w : World) (S : SWK enc 24 w0 blk off L.toArray w) :
    Calls Try.prog 62 #[.slice (some ⟨blk, off, none⟩) N cap, .int .i64 N, .func (.func g) #[] cb] w fun e w' =>
      e = .returned (.tuple #[]) ∧ SWK enc 24 w0 blk off (ssort κ L).toArray w' := by
  have HI := Lib.hid (fun pre seg post a b az bz eaz ebz ha hb hN w S => ins_call κ cf hcf g cb eg cap N d0 R hcmp hs (by omega) pre seg post a b az bz eaz ebz ha hb hN w S)
  have HM := Lib.hid (symMerge stE κ cf hcf g cb eg cap N d0 R hcmp hs (by omega) N)
  have HL := Lib.hid hL
  have S0 : Aside (SWK enc 24 w0 blk off L.toArray w) := S
  clear hcmp hs hL S hcf
  go_enter Try.func62, Try.ntmps62
  go_wp2
  go_loopg [7, 8] N (fun kx s7 s8 wr => ∃ (t : Nat) (L1 Rr : List α), s7 = .int .i64 ((20 * t : Nat) : Int) ∧ s8 = .int .i64 ((20 * t + 20 : Nat) : Int) ∧ 20 * t ≤ N ∧ N - 20 * t ≤ kx ∧ Hid (L = L1 ++ Rr ∧ L1.length = 20 * t) ∧ Aside (SWK enc 24 w0 blk off (blocks κ 20 L1 ++ Rr).toArray wr))
  case atStart => exact ⟨0, [], L, rfl, rfl, by omega, by omega, ⟨rfl, rfl⟩, by rw [blocks_nil]; exact S0⟩
  case round =>
    clear S0
    obtain ⟨t, L1, Rr, rfl, rfl, htN, hkx, HH, S1⟩ := hrel
    by_cases hlt : 20 * t + 20 ≤ N
    · obtain ⟨x, hx⟩ : ∃ x, x = 20 * t := ⟨_, rfl⟩
      rw [← hx] at hlt hkx htN HH ⊢
      have hltz : ((x + 20 : Nat) : Int) ≤ (N : Int) := by omega
      have HX := Lib.hid hx
      clear hx
      go_wp2_with fail
      obtain ⟨q1, q2⟩ := HH.out
      have q3 := HL.out
      rw [q1, List.length_append] at q3
      have e : Rr = Rr.take 20 ++ Rr.drop 20 := (List.take_append_drop 20 Rr).symm
      have l1 : (Rr.take 20).length = 20 := by rw [List.length_take]; omega
      have l2 : (Rr.drop 20).length = Rr.length - 20 := by rw [List.length_drop]
      have lb := length_blocks κ 20 (by omega) _ L1 (Nat.le_refl _)
      refine (HI.out (blocks κ 20 L1) (Rr.take 20) (Rr.drop 20) x (x + 20) x ((x + 20 : Nat) : Int) rfl rfl (by omega) (by omega) (by omega) _ (by rw [← e]; exact S1.out)).mono ?_
      rintro e' w' ⟨rfl, S2⟩
      have S3 : Aside (SWK enc 24 w0 blk off (blocks κ 20 (L1 ++ Rr.take 20) ++ Rr.drop 20).toArray w') := by
        rw [blocks_append κ 20 (by omega) _ t L1 (by rw [q2, HX.out]), blocks_one κ 20 (Rr.take 20) (by omega) (by omega), List.append_assoc]; exact S2
      have HH2 : Hid (L = (L1 ++ Rr.take 20) ++ Rr.drop 20 ∧ (L1 ++ Rr.take 20).length = 20 * (t + 1)) := ⟨by rw [List.append_assoc, ← e]; exact q1, by have := HX.out; rw [List.length_append]; omega⟩
      clear S2 S1 HH q1 q2 q3 e l1 l2 lb
      go_wp2
      go_roundg (N - 20 * (t + 1))
      case measure => have := HX.out; omega
      case rel => exact ⟨t + 1, L1 ++ Rr.take 20, Rr.drop 20, by have := HX.out; congr 1; omega, by have := HX.out; congr 1; omega, by have := HX.out; omega, Nat.le_refl _, HH2, S3⟩
    · obtain ⟨x, hx⟩ : ∃ x, x = 20 * t := ⟨_, rfl⟩
      rw [← hx] at hlt hkx htN HH ⊢
      have hltz : ¬ ((x + 20 : Nat) : Int) ≤ (N : Int) := by omega
      have HX := Lib.hid hx
      clear hx
      go_wp2_with fail
      obtain ⟨q1, q2⟩ := HH.out
      have q3 := HL.out
      rw [q1, List.length_append] at q3
      have lb := length_blocks κ 20 (by omega) _ L1 (Nat.le_refl _)
      refine (HI.out (blocks κ 20 L1) Rr [] x N x N rfl rfl (by omega) (by omega) (by simp; omega) _ (by simpa using S1.out)).mono ?_
      rintro e' w' ⟨rfl, S2⟩
      have S3 : Aside (SWK enc 24 w0 blk off (blocks κ 20 L).toArray w') := by
        rw [q1, blocks_append κ 20 (by omega) _ t L1 (by rw [q2, HX.out]), blocks_one κ 20 Rr (by omega) (by omega)]; exact (by simpa using S2 : SWK enc 24 w0 blk off (blocks κ 20 L1 ++ ssort κ Rr).toArray w')
      clear S2 S1 HH q1 q2 q3 lb
      have hltb : decide ((x : Int) + 20 ≤ (N : Int)) = false := decide_eq_false (by omega)
      go_wp2
      go_loopg [6] N (fun kx s6 wr => ∃ s : Nat, s6 = .int .i64 s ∧ 1 ≤ s ∧ s ≤ 2 * N + 20 ∧ N - s ≤ kx ∧ Aside (SWK enc 24 w0 blk off (blocks κ s L).toArray wr))
      case atStart => exact ⟨20, rfl, by omega, by omega, by omega, S3⟩
      case round =>
        clear S3
        obtain ⟨s, rfl, hs1, hs2, hkx2, S1⟩ := hrel
        by_cases hsN : s < N
        · go_wp2
          obtain ⟨wo, hwo⟩ : ∃ wo : World, wo = wr := ⟨_, rfl⟩
          go_loopg [7, 8] N (fun ky s7 s8 wi => ∃ (t y : Nat) (L1 Rr : List α), s7 = .int .i64 y ∧ s8 = .int .i64 ((y : Int) + 2 * (s : Int)) ∧ y ≤ N ∧ N - y ≤ ky ∧ Hid (L = L1 ++ Rr ∧ L1.length = y ∧ y = 2 * s * t) ∧ Aside (SWK enc 24 w0 blk off (blocks κ (2 * s) L1 ++ blocks κ s Rr).toArray wi))
          case atStart => exact ⟨0, 0, [], L, rfl, by congr 1; omega, by omega, by omega, ⟨rfl, rfl, by omega⟩, by rw [blocks_nil]; exact S1⟩
          case round =>
            clear S1
            obtain ⟨t2, y, L2, R2, rfl, rfl, hyN, hky, HH, S2⟩ := hrel
            by_cases hyl : y + 2 * s ≤ N
            · have hylz : (y : Int) + 2 * (s : Int) ≤ (N : Int) := by omega
              go_wp2_with fail
              obtain ⟨q1, q2, q4⟩ := HH.out
              have q3 := HL.out
              rw [q1, List.length_append] at q3
              have e : R2 = R2.take s ++ ((R2.drop s).take s ++ (R2.drop s).drop s) := by rw [List.take_append_drop, List.take_append_drop]
              have l1 : (R2.take s).length = s := by rw [List.length_take]; omega
              have l2 : ((R2.drop s).take s).length = s := by rw [List.length_take, List.length_drop]; omega
              have l3 : ((R2.drop s).drop s).length = R2.length - s - s := by rw [List.length_drop, List.length_drop]
              have lb := length_blocks κ (2 * s) (by omega) _ L2 (Nat.le_refl _)
              have lc := length_blocks κ s (by omega) _ ((R2.drop s).drop s) (Nat.le_refl _)
              have eb : blocks κ s R2 = ssort κ (R2.take s) ++ (ssort κ ((R2.drop s).take s) ++ blocks κ s ((R2.drop s).drop s)) := by
                conv => lhs; rw [e]
                rw [blocks_more κ s _ _ (by omega) l1, blocks_more κ s _ _ (by omega) l2]
              refine (HM.out (blocks κ (2 * s) L2) (ssort κ (R2.take s)) (ssort κ ((R2.drop s).take s)) (blocks κ s ((R2.drop s).drop s)) y (y + s) (y + 2 * s) y ((y : Int) + (s : Int)) ((y : Int) + 2 * (s : Int)) _ rfl (by omega) (by omega)
                (by rw [length_ssort, length_ssort]; omega) (srt_ssort κ _) (srt_ssort κ _) (by rw [length_ssort]; omega) (by rw [length_ssort]; omega) (by omega) (by rw [length_ssort]; omega) (by rw [length_ssort, length_ssort]; omega) (by rw [length_ssort, length_ssort]; omega) (by rw [← eb]; exact S2.out)).mono ?_
              rintro e' w' ⟨rfl, S3⟩
              have S4 : Aside (SWK enc 24 w0 blk off (blocks κ (2 * s) (L2 ++ (R2.take s ++ (R2.drop s).take s)) ++ blocks κ s ((R2.drop s).drop s)).toArray w') := by
                rw [blocks_append κ (2 * s) (by omega) _ t2 L2 (by rw [q2, q4]), blocks_one κ (2 * s) (R2.take s ++ (R2.drop s).take s) (by omega) (by rw [List.length_append]; omega), ssort_append, List.append_assoc]; exact S3
              have HH2 : Hid (L = (L2 ++ (R2.take s ++ (R2.drop s).take s)) ++ (R2.drop s).drop s ∧ (L2 ++ (R2.take s ++ (R2.drop s).take s)).length = y + 2 * s ∧ y + 2 * s = 2 * s * (t2 + 1)) :=
                ⟨by rw [List.append_assoc, List.append_assoc (R2.take s), ← e]; exact q1, by rw [List.length_append, List.length_append]; omega, by rw [Nat.mul_succ]; omega⟩
              clear S3 S2 HH q1 q2 q3 q4 e l1 l2 l3 lb lc eb
              go_wp2
              go_roundg (N - (y + 2 * s))
              case measure => omega
              case rel => exact ⟨t2 + 1, y + 2 * s, _, _, by congr 1, by congr 1, hyl, Nat.le_refl _, HH2, S4⟩
            · have hylz : ¬ (y : Int) + 2 * (s : Int) ≤ (N : Int) := by omega
              have hylb : decide ((y : Int) + 2 * (s : Int) ≤ (N : Int)) = false := decide_eq_false hylz
              by_cases hys : y + s < N
              · have hysz : (y : Int) + (s : Int) < (N : Int) := by omega
                go_wp2_with fail
                obtain ⟨q1, q2, q4⟩ := HH.out
                have q3 := HL.out
                rw [q1, List.length_append] at q3
                have e : R2 = R2.take s ++ R2.drop s := (List.take_append_drop s R2).symm
                have l1 : (R2.take s).length = s := by rw [List.length_take]; omega
                have l2 : (R2.drop s).length = R2.length - s := by rw [List.length_drop]
                have lb := length_blocks κ (2 * s) (by omega) _ L2 (Nat.le_refl _)
                have eb : blocks κ s R2 = ssort κ (R2.take s) ++ (ssort κ (R2.drop s) ++ []) := by
                  conv => lhs; rw [e]
                  rw [blocks_more κ s _ _ (by omega) l1, blocks_one κ s (R2.drop s) (by omega) (by omega), List.append_nil]
                refine (HM.out (blocks κ (2 * s) L2) (ssort κ (R2.take s)) (ssort κ (R2.drop s)) [] y (y + s) N y ((y : Int) + (s : Int)) N _ rfl (by omega) rfl
                  (by rw [length_ssort, length_ssort]; omega) (srt_ssort κ _) (srt_ssort κ _) (by rw [length_ssort]; omega) (by rw [length_ssort]; omega) (by omega) (by rw [length_ssort]; omega) (by rw [length_ssort, length_ssort]; omega) (by rw [length_ssort, length_ssort]; simp; omega) (by rw [← eb]; exact S2.out)).mono ?_
                rintro e' w' ⟨rfl, S3⟩
                have S4 : Aside (SWK enc 24 w0 blk off (blocks κ (2 * s) L).toArray w') := by
                  rw [List.append_nil] at S3
                  rw [q1, blocks_append κ (2 * s) (by omega) _ t2 L2 (by rw [q2, q4]), blocks_one κ (2 * s) R2 (by omega) (by omega)]
                  conv => arg 1; rw [e]
                  rw [ssort_append]; exact S3
                clear S3 S2 HH q1 q2 q3 q4 e l1 l2 lb eb
                go_wp2
                go_roundg (N - 2 * s)
                case measure => omega
                case rel => exact ⟨2 * s, by congr 1; omega, by omega, by omega, Nat.le_refl _, S4⟩
              · have hysz : ¬ (y : Int) + (s : Int) < (N : Int) := by omega
                have hysb : decide ((y : Int) + (s : Int) < (N : Int)) = false := decide_eq_false hysz
                obtain ⟨q1, q2, q4⟩ := HH.out
                have q3 := HL.out
                rw [q1, List.length_append] at q3
                have S4 : Aside (SWK enc 24 w0 blk off (blocks κ (2 * s) L).toArray wr) := by
                  rw [q1, blocks_append κ (2 * s) (by omega) _ t2 L2 (by rw [q2, q4]), blocks_one κ (2 * s) R2 (by omega) (by omega)]
                  have := S2.out
                  rw [blocks_one κ s R2 (by omega) (by omega)] at this
                  exact this
                clear S2 HH q1 q2 q3 q4
                go_wp2
                go_roundg (N - 2 * s)
                case measure => omega
                case rel => exact ⟨2 * s, by congr 1; omega, by omega, by omega, Nat.le_refl _, S4⟩
        · have hsb : decide ((s : Int) < (N : Int)) = false := decide_eq_false (by omega)
          have S4 : Aside (SWK enc 24 w0 blk off (ssort κ L).toArray wr) := by
            rw [← blocks_one κ s L (by omega) (by rw [HL.out]; omega)]; exact S1
          go_wp2
          go_end0
          exact ⟨rfl, S4.out⟩

theorem sortStable (κ : α → Int) (cf : α → α → Int) (hcf : ∀ x y, cf x y < 0 ↔ κ x < κ y) (g : Nat) (cb : Array Value) (eg : ∀ args w, (callFunc g args).run Try.prog w = .ok (.enter g args) w) (cap N : Nat) (L : List α) (hL : L.length = N) (w : World) (R : RowK enc 24 w blk off L.toArray)
    (hcmp : CmpLays Try.prog g cb enc 24 cf blk off N w) (hsz : N < 1000000000) :
    Calls Try.prog 43 #[.slice (some ⟨blk, off, none⟩) N cap, .func (.func g) #[] cb] w fun e w' =>
      e = .returned (.tuple #[]) ∧ SWK enc 24 w blk off (ssort κ L).toArray w' := by
  have H := Lib.hid (stable κ cf hcf g cb eg cap N L.toArray R hcmp (by simpa using hL) hsz L hL w (SWK.start R.hH))
  clear hcmp hL hcf
  go_enter Try.func43, Try.ntmps43
  go_wp2_with fail
  refine H.out.mono ?_
  rintro e w' ⟨rfl, S⟩
  have S' := Lib.hid S
  clear S
  go_wp2
  go_end0
  exact ⟨rfl, S'.out⟩

theorem ins_none (p : Option Addr) (cap : Nat) (f : Value) (w : World) : Calls Try.prog 75 #[.slice p 0 cap, .int .i64 0, .int .i64 0, f] w fun e w' => e = .returned (.tuple #[]) ∧ w = w' := by
  go_enter Try.func75, Try.ntmps75
  go_wp2
  refine wp_loop_rounds 1 ?_
  rw [rounds_succ]
  go_wp2
  go_end0
  exact ⟨rfl, rfl⟩
theorem stable_none (p : Option Addr) (cap : Nat) (f : Value) (w : World) : Calls Try.prog 62 #[.slice p 0 cap, .int .i64 0, f] w fun e w' => e = .returned (.tuple #[]) ∧ w = w' := by
  go_enter Try.func62, Try.ntmps62
  go_wp2
  refine wp_loop_rounds 1 ?_
  rw [rounds_succ]
  go_wp2_with fail
  refine (ins_none p cap f _).mono ?_
  rintro e w' ⟨rfl, rfl⟩
  go_wp2
  refine wp_loop_rounds 1 ?_
  rw [rounds_succ]
  go_wp2
  go_end0
  exact ⟨rfl, rfl⟩
theorem sortStable_none (p : Option Addr) (cap : Nat) (f : Value) (w : World) : Calls Try.prog 43 #[.slice p 0 cap, f] w fun e w' => e = .returned (.tuple #[]) ∧ w = w' := by
  go_enter Try.func43, Try.ntmps43
  go_wp2_with fail
  refine (stable_none p cap f _).mono ?_
  rintro e w' ⟨rfl, rfl⟩
  go_wp2
  go_end0
  exact ⟨rfl, rfl⟩
end Go.Proofs.Ytoaaoggggjjbaaa.St
