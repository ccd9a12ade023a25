/- slices.symMergeCmpFunc at []api.Event where the middle lies in the first part. -/
import Derived.Test.YtoaaoggggjjbaaaStableSym1
import Derived.Test.YtoaaoggggjjbaaaStableSym2
import Derived.Deep.DeepCutAuto
namespace Go.Proofs.Ytoaaoggggjjbaaa.St
open Go.Shelf Go.RowKit Go.Lib Go.Sort
variable {P : Program} {α : Type} [Inhabited α] {enc : α → List Value} {k : Nat} {w0 : World} {blk off : Nat}

set_option maxHeartbeats 8000000 in
set_option maxRecDepth 1000000 in
theorem sym_lt (H : StE P k) (κ : α → Int) (cf : α → α → Int) (hcf : ∀ x y, cf x y < 0 ↔ κ x < κ y) (g : Nat) (cb : Array Value) (eg : ∀ args w, (callFunc g args).run P w = .ok (.enter g args) w) (cap N : Nat) (d0 : Array α) (R : RowK enc k w0 blk off d0)
    (hcmp : CmpLays P g cb enc k cf blk off N w0) (hs : d0.size = N) (hsz : N < 2305843009213693952) (sz : Nat)
    (ih : ∀ (A U V C : List α) (a m b : Nat) (az mz bz : Int) (w : World), az = a → mz = m → bz = b → U.length + V.length ≤ sz →
    Srt κ U → Srt κ V → 1 ≤ U.length → 1 ≤ V.length → a = A.length → m = A.length + U.length → b = A.length + U.length + V.length → N = A.length + U.length + V.length + C.length →
    SWK enc k w0 blk off (A ++ (U ++ (V ++ C))).toArray w →
    Calls P 76 #[.slice (some ⟨blk, off, none⟩) N cap, .int .i64 az, .int .i64 mz, .int .i64 bz, .func (.func g) #[] cb] w fun e w' =>
      e = .returned (.tuple #[]) ∧ SWK enc k w0 blk off (A ++ (mrg κ U V ++ C)).toArray w')
    (A U V C : List α) (a m b : Nat) (az mz bz : Int) (w : World) (eaz : az = a) (emz : mz = m) (ebz : bz = b) (hsum : U.length + V.length ≤ sz + 1)
    (hU : Srt κ U) (hV : Srt κ V) (hu1 : 2 ≤ U.length) (hv1 : 2 ≤ V.length) (ha : a = A.length) (hm : m = A.length + U.length) (hb : b = A.length + U.length + V.length) (hN : N = A.length + U.length + V.length + C.length)
    (hside : (a + b) / 2 < m) (S : SWK enc k w0 blk off (A ++ (U ++ (V ++ C))).toArray w) :
    Calls P 76 #[.slice (some ⟨blk, off, none⟩) N cap, .int .i64 az, .int .i64 mz, .int .i64 bz, .func (.func g) #[] cb] w fun e w' =>
      e = .returned (.tuple #[]) ∧ SWK enc k w0 blk off (A ++ (mrg κ U V ++ C)).toArray w' := by
  subst eaz emz ebz
  have mixed := H.mixed; have t3 := H.t3; have a3 := H.a3; have z3 := H.z3; have tu := H.tu; have au := H.au; have zu := H.zu; have t4 := H.t4; have a4 := H.a4; have z4 := H.z4; have tS := H.tS; have aS := H.aS; have zS := H.zS; have aE := H.aE; have zE := H.zE
  have uS := run_underlying H.tS
  have eRo := fun args w => enters_of (args := args) (w := w) H.fRot (by kernel_rfl) rfl
  have eSy := fun args w => enters_of (args := args) (w := w) H.fSym (by kernel_rfl) rfl
  have IH := Lib.hid ih
  have S0 : Aside (SWK enc k w0 blk off (A ++ (U ++ (V ++ C))).toArray w) := S
  have hab : a + 2 ≤ m ∧ m + 2 ≤ b ∧ b ≤ N := by omega
  obtain ⟨hab1, hab2, hab3⟩ := hab
  have h28 : ((m : Int) - (a : Int) == 1) = false := by simp; omega
  have h80 : ((b : Int) - (m : Int) == 1) = false := by simp; omega
  have hsize : (A ++ (U ++ (V ++ C))).toArray.size = N := by simp; omega
  have sU := srt_seg κ A U (V ++ C) hU a m ha hm
  have sV := srt_seg κ (A ++ U) V C hV m b (by simp; omega) (by simp; omega)
  rw [List.append_assoc] at sV
  have HC : Aside _ := hcmp
  have HA := Lib.hid ha
  have HM := Lib.hid hm
  have HB := Lib.hid hb
  have HN := Lib.hid hN
  have HS := Lib.hid hs
  have HZ := Lib.hid hsize
  have HSU := Lib.hid sU
  have HSV := Lib.hid sV
  have HSum := Lib.hid hsum
  obtain ⟨mid, hmid⟩ : ∃ mid : Nat, ((a : Int) + (b : Int)) / 2 = (mid : Int) := ⟨(a + b) / 2, by omega⟩
  have hmd1 : a < mid := by omega
  have hmd2 : mid < b := by omega
  have hmd3 : 2 * mid ≤ a + b := by omega
  have hmd4 : a + b ≤ 2 * mid + 1 := by omega
  clear S ha hm hb hN hs hcmp ih sU sV hsize hu1 hv1 hsum
  obtain ⟨dk, hdk⟩ : ∃ dk, dk = (A ++ (U ++ (V ++ C))).toArray := ⟨_, rfl⟩
  rw [← hdk] at S0 HZ HSU HSV
  have HDK := Lib.hid hdk
  clear hdk
  obtain ⟨s0, r0, F1, F2⟩ : ∃ s0 r0 : Nat, (mid < m ∧ mid + m = s0 + b ∧ r0 = mid) ∧ (s0 ≤ r0 ∧ a ≤ s0 ∧ r0 ≤ m ∧ r0 ≤ mid ∧ mid + m ≤ s0 + b) := ⟨mid + m - b, mid, ⟨by omega, by omega, rfl⟩, by omega⟩
  obtain ⟨f1, f2, f3, f4, f5⟩ := F2
  have HF1 := Lib.hid F1
  obtain ⟨q1, q2, q3⟩ := F1
  have HQ2 := Lib.hid q2
  have HQ3 := Lib.hid q3
  clear q2 q3
  have hq1b : decide ((mid : Int) < (m : Int)) = true := decide_eq_true (by omega)
  go_enter H.fSym, Try.ntmps76
  go_wp2
  go_loopg [20, 21] (r0 - s0) (fun kx s20 s21 wr => ∃ st r : Nat, s20 = .int .i64 st ∧ s21 = .int .i64 r ∧ s0 ≤ st ∧ st ≤ r ∧ r ≤ r0 ∧ r - st ≤ kx ∧ Hid ((∀ c, s0 ≤ c → c < st → κ dk[c]! ≤ κ dk[mid + m - 1 - c]!) ∧ (∀ c, r ≤ c → c < r0 → κ dk[mid + m - 1 - c]! < κ dk[c]!)) ∧ Aside (SWK enc k w0 blk off dk wr))
  case atStart =>
    have q2 := HQ2.out
    have q3 := HQ3.out
    exact ⟨s0, r0, by congr 1; omega, by congr 1; omega, Nat.le_refl _, f1, Nat.le_refl _, Nat.le_refl _, ⟨fun c _ _ => by omega, fun c _ _ => by omega⟩, S0⟩
  case round =>
    clear S0
    obtain ⟨st, r, rfl, rfl, hst0, hstr, hr0, hkx, HH, S1⟩ := hrel
    by_cases hlt : st < r
    · go_wp2_with fail
      obtain ⟨c, hc⟩ : ∃ c : Nat, ((st : Int) + (r : Int)) / 2 = (c : Int) := ⟨(st + r) / 2, by omega⟩
      have hc1 : st ≤ c := by omega
      have hc2 : c < r := by omega
      rw [hc]
      clear hc
      obtain ⟨q, hq⟩ : ∃ q : Nat, q = mid + m - 1 - c := ⟨_, rfl⟩
      have hqm : m ≤ q := by omega
      have hqb : q < b := by omega
      have hds : dk.size = d0.size := by rw [HZ.out, HS.out]
      have fTrue : κ dk[c]! ≤ κ dk[q]! → ∀ c', s0 ≤ c' → c' < c + 1 → κ dk[c']! ≤ κ dk[mid + m - 1 - c']! := fun hle c' x1 x2 => by
        rcases Nat.lt_or_ge c' st with y | y
        · exact HH.out.1 c' x1 y
        · have z1 := HSU.out c' c (by omega) (by omega) (by omega)
          have z2 := HSV.out q (mid + m - 1 - c') hqm (by omega) (by omega)
          omega
      have fFalse : κ dk[q]! < κ dk[c]! → ∀ c', c ≤ c' → c' < r0 → κ dk[mid + m - 1 - c']! < κ dk[c']! := fun hle c' x1 x2 => by
        rcases Nat.lt_or_ge c' r with y | y
        · have z1 := HSU.out c c' (by omega) (by omega) (by omega)
          have z2 := HSV.out (mid + m - 1 - c') q (by omega) (by omega) hqb
          omega
        · exact HH.out.2 c' y x2
      have lj := fun n' os' => S1.out.ld R hds P q (by rw [HZ.out]; omega) n' os'
      have lp := fun n' os' => S1.out.ld R hds P c (by rw [HZ.out]; omega) n' os'
      have hcg := fun n' os' => S1.out.cmp HC.out HZ.out dk[q]! dk[c]! n' os'
      have SG : Aside (∀ n' os', SWK enc k w0 blk off dk (grow (wr.drewN n') os')) := fun n' os' => S1.out.grown n' os'
      have FT := Lib.hid fTrue
      have FF := Lib.hid fFalse
      have hHt := Lib.hid HH.out.1
      have hHd := Lib.hid HH.out.2
      have hcv := hcf dk[q]! dk[c]!
      have rz1 : IntKind.i64.wrap ((mid : Int) + (m : Int) - 1 - (c : Int)) = (q : Int) := by rw [IntKind.wrap_i64]; omega
      have ez1 : ((q : Int)).toNat = q := by omega
      have pz1 : (q : Int) < (N : Int) := by omega
      have pz3 : (0 : Int) ≤ (q : Int) := by omega
      have pz2 : (c : Int) < (N : Int) := by omega
      have pz4 : (0 : Int) ≤ (c : Int) := by omega
      have ez2 : ((c : Int)).toNat = c := by omega
      have HQ := Lib.hid hq
      clear hds HH S1 fTrue fFalse hq
      generalize dk[q]! = vq at lj hcg FT FF hcv
      generalize dk[c]! = uc at lp hcg FT FF hcv
      by_cases hlv : cf vq uc < 0
      · have HK := Lib.hid (hcv.1 hlv)
        have hlb : decide (cf vq uc < 0) = true := decide_eq_true hlv
        clear hcv hcf
        go_wp2_with fail
        go_quiet_grown (first | (go_at_fn g; refine Calls.grown_of (hcg _ _)))
        clear lj lp hcg ez1 pz1 pz3 rz1
        go_wp2
        go_roundg (c - st)
        case measure => omega
        case rel => exact ⟨st, c, rfl, rfl, hst0, hc1, by omega, Nat.le_refl _, ⟨hHt.out, FF.out HK.out⟩, SG.out _ _⟩
      · have HK := Lib.hid (Int.not_lt.1 fun q => hlv (hcv.2 q))
        have hlb : decide (cf vq uc < 0) = false := decide_eq_false hlv
        clear hcv hcf
        go_wp2_with fail
        go_quiet_grown (first | (go_at_fn g; refine Calls.grown_of (hcg _ _)))
        clear lj lp hcg ez1 pz1 pz3 rz1
        go_wp2
        go_roundg (r - (c + 1))
        case measure => omega
        case rel => exact ⟨c + 1, r, by go_num, rfl, by omega, by omega, hr0, Nat.le_refl _, ⟨FT.out HK.out, hHd.out⟩, SG.out _ _⟩
    · obtain rfl : st = r := by omega
      obtain ⟨e, he⟩ : ∃ e : Nat, (mid : Int) + (m : Int) - (st : Int) = (e : Int) := ⟨mid + m - st, by omega⟩
      have he0 : e + st = mid + m := by omega
      have hcut := sym_cut κ dk a m b mid st s0 r0 e HSU.out HSV.out HH.out.1 HH.out.2 (by have := HF1.out; omega) (by have := HF1.out; omega) hst0 hr0 f3 f4 f2 he0 (by omega) hmd1
      rw [HDK.out] at hcut
      have hme : m ≤ e := by omega
      have heb : e ≤ b := by omega
      have hstm : st ≤ m := by omega
      have hast : a ≤ st := by omega
      have HMr := Lib.hid (sym_lists κ A U V C a m b st e HA.out HM.out HB.out hast hstm hme heb hcut.1 hcut.2)
      have S2 : Aside (SWK enc k w0 blk off (A ++ (U.take (st - a) ++ (U.drop (st - a) ++ (V.take (e - m) ++ (V.drop (e - m) ++ C))))).toArray wr) := by
        rw [← List.append_assoc (U.take (st - a)), List.take_append_drop, ← List.append_assoc (V.take (e - m)), List.take_append_drop, ← HDK.out]; exact S1.out
      have HU1 := Lib.hid (srt_take κ U (st - a) hU)
      have HU2 := Lib.hid (srt_drop κ U (st - a) hU)
      have HV1 := Lib.hid (srt_take κ V (e - m) hV)
      have HV2 := Lib.hid (srt_drop κ V (e - m) hV)
      have HLs : Hid ((U.take (st - a)).length = st - a ∧ (U.drop (st - a)).length = m - st ∧ (V.take (e - m)).length = e - m ∧ (V.drop (e - m)).length = b - e) := by
        have := HA.out; have := HM.out; have := HB.out
        exact ⟨by rw [List.length_take]; omega, by rw [List.length_drop]; omega, by rw [List.length_take]; omega, by rw [List.length_drop]; omega⟩
      have HLn : Hid (N = A.length + (m - a) + (b - m) + C.length ∧ a = A.length ∧ (m - a) + (b - m) ≤ sz + 1) := by
        have := HA.out; have := HM.out; have := HB.out; have := HN.out; have := HSum.out
        exact ⟨by omega, by omega, by omega⟩
      clear hcut S1 HH HSU HSV
      generalize U.take (st - a) = U1 at S2 HMr HU1 HLs
      generalize U.drop (st - a) = U2 at S2 HMr HU2 HLs
      generalize V.take (e - m) = V1 at S2 HMr HV1 HLs
      generalize V.drop (e - m) = V2 at S2 HMr HV2 HLs
      obtain ⟨c39, hc39⟩ : ∃ c : Bool, c = decide (st < m ∧ m < e) := ⟨_, rfl⟩
      have HC39 := Lib.hid hc39
      clear hc39
      go_upto_region 39 with (fail)
      go_cut [185] (fun s185 wx => s185 = .bool c39 ∧ wr = wx)
      case first => as_aux_lemma =>
        by_cases y1 : st < m
        · by_cases y2 : m < e
          · go_wp2
            go_meet
            exact ⟨by rw [HC39.out]; simp [y1, y2], rfl⟩
          · have y3 : decide ((m : Int) < (e : Int)) = false := decide_eq_false (by omega)
            go_wp2
            go_meet
            exact ⟨by rw [HC39.out]; simp [y1, y2], rfl⟩
        · have y3 : decide ((st : Int) < (m : Int)) = false := decide_eq_false (by omega)
          go_wp2
          go_meet
          exact ⟨by rw [HC39.out]; simp [y1], rfl⟩
      case rest => as_aux_lemma =>
        obtain ⟨rfl, rfl⟩ := hcut
        go_upto_if 185 with (fail)
        go_cut [] (fun wx => Aside (SWK enc k w0 blk off (A ++ (U1 ++ (V1 ++ (U2 ++ (V2 ++ C))))).toArray wx))
        case first => as_aux_lemma =>
          have y : c39 = true ↔ st < m ∧ m < e := by rw [HC39.out]; simp
          have Y := Lib.hid y
          clear y
          cases c39
          rotate_left
          · have y := Y.out.1 rfl
            obtain ⟨y1, y2⟩ := y
            go_wp2_with fail
            obtain ⟨l1, l2, l3, l4⟩ := HLs.out
            obtain ⟨n1, n2, n3⟩ := HLn.out
            refine (rotate H g cb cap (A ++ U1) U2 V1 (V2 ++ C) st m e N st m e rfl rfl rfl d0 _ R (by omega) (by omega) (by simp; omega) (by simp; omega) (by simp; omega) (by simp; omega) HS.out (by omega) (by rw [List.append_assoc]; exact S2.out)).mono ?_
            rintro e' w' ⟨rfl, S3⟩
            rw [List.append_assoc] at S3
            have S4 := Lib.hid S3
            clear S3 l1 l2 l3 l4 n1 n2 n3
            go_wp2
            go_meet
            exact S4.out
          · have y : ¬ (st < m ∧ m < e) := fun q => by have := Y.out.2 q; cases this
            have S4 : Aside (SWK enc k w0 blk off (A ++ (U1 ++ (V1 ++ (U2 ++ (V2 ++ C))))).toArray wr) := by
              obtain ⟨l1, l2, l3, l4⟩ := HLs.out
              have hor : U2 = [] ∨ V1 = [] := by
                rcases Nat.lt_or_ge st m with q | q
                · exact .inr (List.eq_nil_of_length_eq_zero (by omega))
                · exact .inl (List.eq_nil_of_length_eq_zero (by omega))
              rcases hor with rfl | rfl
              · simpa using S2
              · simpa using S2
            clear y
            go_wp2
            go_meet
            exact S4
        case rest => as_aux_lemma =>
          have S3 := hcut
          clear hcut S2
          obtain ⟨wd, hwd⟩ : ∃ wd : World, wd = wc := ⟨_, rfl⟩
          rw [← hwd] at S3 ⊢
          clear hwd
          obtain ⟨c41, hc41⟩ : ∃ c : Bool, c = decide (a < st ∧ st < mid) := ⟨_, rfl⟩
          have HC41 := Lib.hid hc41
          clear hc41
          go_upto_region 41 with (fail)
          go_cut [199] (fun s199 wx => s199 = .bool c41 ∧ wd = wx)
          case first => as_aux_lemma =>
            by_cases y1 : a < st
            · by_cases y2 : st < mid
              · go_wp2
                go_meet
                exact ⟨by rw [HC41.out]; simp [y1, y2], rfl⟩
              · have y3 : decide ((st : Int) < (mid : Int)) = false := decide_eq_false (by omega)
                go_wp2
                go_meet
                exact ⟨by rw [HC41.out]; simp [y1, y2], rfl⟩
            · have y3 : decide ((a : Int) < (st : Int)) = false := decide_eq_false (by omega)
              go_wp2
              go_meet
              exact ⟨by rw [HC41.out]; simp [y1], rfl⟩
          case rest => as_aux_lemma =>
            obtain ⟨rfl, rfl⟩ := hcut
            go_upto_if 199 with (fail)
            go_cut [] (fun wx => Aside (SWK enc k w0 blk off (A ++ (mrg κ U1 V1 ++ (U2 ++ (V2 ++ C)))).toArray wx))
            case first => as_aux_lemma =>
              have y : c41 = true ↔ a < st ∧ st < mid := by rw [HC41.out]; simp
              have Y := Lib.hid y
              clear y
              cases c41
              rotate_left
              · have y := Y.out.1 rfl
                obtain ⟨y1, y2⟩ := y
                go_wp2_with fail
                obtain ⟨l1, l2, l3, l4⟩ := HLs.out
                obtain ⟨n1, n2, n3⟩ := HLn.out
                refine (IH.out A U1 V1 (U2 ++ (V2 ++ C)) a st mid a st mid _ rfl rfl rfl (by omega) HU1.out HV1.out (by omega) (by omega) n2 (by omega) (by omega) (by simp; omega) S3.out).mono ?_
                rintro e' w' ⟨rfl, S4⟩
                have S5 := Lib.hid S4
                clear S4 l1 l2 l3 l4 n1 n2 n3
                go_wp2
                go_meet
                exact S5.out
              · have y : ¬ (a < st ∧ st < mid) := fun q => by have := Y.out.2 q; cases this
                have S4 : Aside (SWK enc k w0 blk off (A ++ (mrg κ U1 V1 ++ (U2 ++ (V2 ++ C)))).toArray wd) := by
                  obtain ⟨l1, l2, l3, l4⟩ := HLs.out
                  have hor : U1 = [] ∨ V1 = [] := by
                    rcases Nat.lt_or_ge a st with q | q
                    · exact .inr (List.eq_nil_of_length_eq_zero (by omega))
                    · exact .inl (List.eq_nil_of_length_eq_zero (by omega))
                  rcases hor with rfl | rfl
                  · rw [mrg_nil_left]; simpa using S3
                  · rw [mrg_nil_right]; simpa using S3
                clear y
                go_wp2
                go_meet
                exact S4
            case rest => as_aux_lemma =>
              have S4 := hcut
              clear hcut S3
              obtain ⟨we, hwe⟩ : ∃ we : World, we = wc := ⟨_, rfl⟩
              rw [← hwe] at S4 ⊢
              clear hwe
              obtain ⟨c43, hc43⟩ : ∃ c : Bool, c = decide (mid < e ∧ e < b) := ⟨_, rfl⟩
              have HC43 := Lib.hid hc43
              clear hc43
              go_upto_region 43 with (fail)
              go_cut [213] (fun s213 wx => s213 = .bool c43 ∧ we = wx)
              case first => as_aux_lemma =>
                by_cases y1 : mid < e
                · by_cases y2 : e < b
                  · go_wp2
                    go_meet
                    exact ⟨by rw [HC43.out]; simp [y1, y2], rfl⟩
                  · have y3 : decide ((e : Int) < (b : Int)) = false := decide_eq_false (by omega)
                    go_wp2
                    go_meet
                    exact ⟨by rw [HC43.out]; simp [y1, y2], rfl⟩
                · have y3 : decide ((mid : Int) < (e : Int)) = false := decide_eq_false (by omega)
                  go_wp2
                  go_meet
                  exact ⟨by rw [HC43.out]; simp [y1], rfl⟩
              case rest => as_aux_lemma =>
                obtain ⟨rfl, rfl⟩ := hcut
                have y : c43 = true ↔ mid < e ∧ e < b := by rw [HC43.out]; simp
                have Y := Lib.hid y
                clear y
                cases c43
                rotate_left
                · have y := Y.out.1 rfl
                  obtain ⟨y1, y2⟩ := y
                  go_wp2_with fail
                  obtain ⟨l1, l2, l3, l4⟩ := HLs.out
                  obtain ⟨n1, n2, n3⟩ := HLn.out
                  have lm : (mrg κ U1 V1).length = mid - a := length_mrg κ _ U1 V1 (by omega)
                  refine (IH.out (A ++ mrg κ U1 V1) U2 V2 C mid e b mid e b _ rfl rfl rfl (by omega) HU2.out HV2.out (by omega) (by omega) (by simp; omega) (by simp; omega) (by simp; omega) (by simp; omega) (by rw [List.append_assoc]; exact S4.out)).mono ?_
                  rintro e' w' ⟨rfl, S5⟩
                  have S6 := Lib.hid S5
                  clear S5 l1 l2 l3 l4 n1 n2 n3 lm
                  go_wp2
                  go_end0
                  exact ⟨rfl, by rw [HMr.out, List.append_assoc (mrg κ U1 V1), ← List.append_assoc A]; exact S6.out⟩
                · have y : ¬ (mid < e ∧ e < b) := fun q => by have := Y.out.2 q; cases this
                  have S5 : Aside (SWK enc k w0 blk off (A ++ (mrg κ U V ++ C)).toArray we) := by
                    obtain ⟨l1, l2, l3, l4⟩ := HLs.out
                    have hor : U2 = [] ∨ V2 = [] := by
                      rcases Nat.lt_or_ge mid e with q | q
                      · exact .inr (List.eq_nil_of_length_eq_zero (by omega))
                      · exact .inl (List.eq_nil_of_length_eq_zero (by omega))
                    rw [HMr.out]
                    rcases hor with rfl | rfl
                    · rw [mrg_nil_left]; simpa using S4
                    · rw [mrg_nil_right]; simpa using S4
                  clear y
                  go_wp2
                  go_end0
                  exact ⟨rfl, S5.out⟩
end Go.Proofs.Ytoaaoggggjjbaaa.St
