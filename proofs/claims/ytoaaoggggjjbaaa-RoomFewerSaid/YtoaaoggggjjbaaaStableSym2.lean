/- slices.symMergeCmpFunc at []api.Event where the second part is one element, and the first is not. -/
import Derived.Test.YtoaaoggggjjbaaaStableE
namespace Go.Proofs.Ytoaaoggggjjbaaa.St
open Go.Shelf Go.RowKit Go.Lib Go.Sort
variable {P : Program} {α : Type} [Inhabited α] {enc : α → List Value} {k : Nat} {w0 : World} {blk off : Nat}
set_option maxHeartbeats 4000000 in
set_option maxRecDepth 1000000 in
theorem sym_last (H : StE P k) (κ : α → Int) (cf : α → α → Int) (hcf : ∀ x y, cf x y < 0 ↔ κ x < κ y) (g : Nat) (cb : Array Value) (eg : ∀ args w, (callFunc g args).run P w = .ok (.enter g args) w) (cap : Nat) (A U C : List α) (v : α) (a m b N : Nat) (az mz bz : Int) (eaz : az = a) (emz : mz = m) (ebz : bz = b) (d0 : Array α) (w : World) (R : RowK enc k w0 blk off d0)
    (hcmp : CmpLays P g cb enc k cf blk off N w0) (hU : Srt κ U) (hu : 2 ≤ U.length) (ha : a = A.length) (hm : m = A.length + U.length) (hb : b = A.length + U.length + 1) (hN : N = A.length + U.length + 1 + C.length) (hs : d0.size = N) (hsz : N < 2305843009213693952)
    (S : SWK enc k w0 blk off (A ++ (U ++ ([v] ++ C))).toArray w) :
    Calls P 76 #[.slice (some ⟨blk, off, none⟩) N cap, .int .i64 az, .int .i64 mz, .int .i64 bz, .func (.func g) #[] cb] w fun e w' =>
      e = .returned (.tuple #[]) ∧ SWK enc k w0 blk off (A ++ (mrg κ U [v] ++ C)).toArray w' := by
  subst eaz emz ebz
  have mixed := H.mixed; have t3 := H.t3; have a3 := H.a3; have z3 := H.z3; have tu := H.tu; have au := H.au; have zu := H.zu; have t4 := H.t4; have a4 := H.a4; have z4 := H.z4; have tS := H.tS; have aS := H.aS; have zS := H.zS; have aE := H.aE; have zE := H.zE
  have uS := run_underlying H.tS
  have S0 : Aside (SWK enc k w0 blk off (A ++ (U ++ ([v] ++ C))).toArray w) := S
  have hab : b ≤ m + 1 ∧ m + 1 ≤ b ∧ a + 2 ≤ m ∧ b ≤ N := by omega
  obtain ⟨hab0, hab1, hab2, hab3⟩ := hab
  have h28 : ((m : Int) - (a : Int) == 1) = false := by simp; omega
  have h80 : ((b : Int) - (m : Int) == 1) = true := by simp; omega
  have HC : Aside _ := hcmp
  have HA := Lib.hid ha
  have HM := Lib.hid hm
  have HN := Lib.hid hN
  have HS := Lib.hid hs
  clear S ha hm hb hN hs hcmp
  go_enter H.fSym, Try.ntmps76
  go_wp2
  go_loopg [14, 15] (m - a) (fun kx s14 s15 wr => ∃ i j : Nat, s14 = .int .i64 i ∧ s15 = .int .i64 j ∧ a ≤ i ∧ i ≤ j ∧ j ≤ m ∧ j - i ≤ kx ∧ Hid ((∀ x ∈ U.take (i - a), κ x ≤ κ v) ∧ (∀ x ∈ U.drop (j - a), κ v < κ x)) ∧ Aside (SWK enc k w0 blk off (A ++ (U ++ ([v] ++ C))).toArray wr))
  case atStart => exact ⟨a, m, rfl, rfl, Nat.le_refl _, by omega, Nat.le_refl _, Nat.le_refl _, ⟨by simp, by have := HM.out; have := HA.out; rw [List.drop_of_length_le (by omega)]; simp⟩, S0⟩
  case round =>
    clear S0
    obtain ⟨i, j, rfl, rfl, hmi, hij, hjb, hkx, HH, S1⟩ := hrel
    by_cases hlt : i < j
    · go_wp2_with fail
      obtain ⟨h, hh⟩ : ∃ h : Nat, ((i : Int) + (j : Int)) / 2 = (h : Int) := ⟨(i + j) / 2, by omega⟩
      have hh1 : i ≤ h := by omega
      have hh2 : h < j := by omega
      rw [hh]
      clear hh
      have hsize : (A ++ (U ++ ([v] ++ C))).toArray.size = N := by have := HN.out; simp; omega
      have hds : (A ++ (U ++ ([v] ++ C))).toArray.size = d0.size := by rw [hsize, HS.out]
      have hvh : h - a < U.length := by have := HM.out; have := HA.out; omega
      have ga : (A ++ (U ++ ([v] ++ C))).toArray[m]! = v := by
        have := get_mid (A ++ U) C v m (by rw [HM.out]; simp)
        rwa [List.append_assoc] at this
      have gh : (A ++ (U ++ ([v] ++ C))).toArray[h]! = U[h - a] := by
        have e : A ++ (U ++ ([v] ++ C)) = (A ++ U.take (h - a)) ++ U[h - a] :: (U.drop (h - a + 1) ++ ([v] ++ C)) := by
          conv => lhs; rw [← List.take_append_drop (h - a) U, List.drop_eq_getElem_cons hvh]
          simp only [List.append_assoc, List.cons_append, List.nil_append]
        rw [e]
        exact get_mid _ _ _ h (by simp only [List.length_append, List.length_take]; have := HA.out; omega)
      have hHt := HH.out.1
      have hHd := HH.out.2
      have fTrue : κ U[h - a] ≤ κ v → ∀ x ∈ U.take (h + 1 - a), κ x ≤ κ v := fun hlt' x hx => by
        obtain ⟨t, ht, rfl⟩ := List.getElem_of_mem hx
        rw [List.getElem_take]
        rw [List.length_take] at ht
        rcases Nat.lt_or_ge t (h - a) with q | q
        · have := List.pairwise_iff_getElem.1 hU t (h - a) (by omega) hvh q
          omega
        · have : t = h - a := by omega
          subst this
          exact hlt'
      have fFalse : κ v < κ U[h - a] → ∀ x ∈ U.drop (h - a), κ v < κ x := fun hge x hx => by
        obtain ⟨t, ht, rfl⟩ := List.getElem_of_mem hx
        rw [List.getElem_drop]
        rw [List.length_drop] at ht
        rcases Nat.eq_zero_or_pos t with q | q
        · subst q; simpa using hge
        · have := List.pairwise_iff_getElem.1 hU (h - a) (h - a + t) hvh (by omega) (by omega)
          omega
      have lj := fun n' os' => S1.out.ld R hds P h (by rw [hsize]; omega) n' os'
      have lp := fun n' os' => S1.out.ld R hds P m (by rw [hsize]; omega) n' os'
      rw [gh] at lj
      rw [ga] at lp
      have hcg := fun n' os' => S1.out.cmp HC.out hsize v U[h - a] n' os'
      have SG : Aside (∀ n' os', SWK enc k w0 blk off (A ++ (U ++ ([v] ++ C))).toArray (grow (wr.drewN n') os')) := fun n' os' => S1.out.grown n' os'
      have FT := Lib.hid fTrue
      have FF := Lib.hid fFalse
      have HD := Lib.hid hHd
      have HT := Lib.hid hHt
      clear hsize hds ga gh hHt hHd HH S1 fTrue fFalse
      have hcv := hcf v U[h - a]
      generalize U[h - a] = uh at lj hcg FT FF hcv
      have pz1 : (h : Int) < (N : Int) := by omega
      have pz2 : (m : Int) < (N : Int) := by omega
      have pz3 : (0 : Int) ≤ (h : Int) := by omega
      have pz4 : (0 : Int) ≤ (m : Int) := by omega
      have ez1 : ((h : Int)).toNat = h := by omega
      have ez2 : ((m : Int)).toNat = m := by omega
      by_cases hlv : cf v uh < 0
      · have HK := Lib.hid (hcv.1 hlv)
        have hlb : decide (cf v uh < 0) = true := decide_eq_true hlv
        clear hcv hcf
        go_wp2_with fail
        go_quiet_grown (first | (go_at_fn g; refine Calls.grown_of (hcg _ _)))
        clear lj lp hcg
        go_wp2
        go_roundg (h - i)
        case measure => omega
        case rel => exact ⟨i, h, rfl, rfl, hmi, hh1, by omega, Nat.le_refl _, ⟨HT.out, FF.out HK.out⟩, SG.out _ _⟩
      · have HK := Lib.hid (Int.not_lt.1 fun q => hlv (hcv.2 q))
        have hlb : decide (cf v uh < 0) = false := decide_eq_false hlv
        clear hcv hcf
        go_wp2_with fail
        go_quiet_grown (first | (go_at_fn g; refine Calls.grown_of (hcg _ _)))
        clear lj lp hcg
        go_wp2
        go_roundg (j - (h + 1))
        case measure => omega
        case rel => exact ⟨h + 1, j, by go_num, rfl, by omega, by omega, hjb, Nat.le_refl _, ⟨FT.out HK.out, HD.out⟩, SG.out _ _⟩
    · obtain rfl : i = j := by omega
      have hlt1 : (U.drop (i - a)).length = m - i := by rw [List.length_drop]; have := HM.out; have := HA.out; omega
      have hltA : (A ++ U.take (i - a)).length = i := by rw [List.length_append, List.length_take]; have := HM.out; have := HA.out; omega
      have hfin : A ++ (mrg κ U [v] ++ C) = bubR (A ++ U.take (i - a)) v (U.drop (i - a)) C 0 := by
        conv => lhs; rw [← List.take_append_drop (i - a) U]
        rw [mrg_one_right κ v _ _ HH.out.1 HH.out.2]
        unfold bubR
        simp only [List.append_assoc, List.cons_append, List.take_zero, List.drop_zero, List.nil_append]
      have hst : A ++ (U ++ ([v] ++ C)) = bubR (A ++ U.take (i - a)) v (U.drop (i - a)) C (m - i) := by
        unfold bubR
        rw [List.take_of_length_le (i := m - i) (l := U.drop (i - a)) (by omega), List.drop_of_length_le (i := m - i) (l := U.drop (i - a)) (by omega)]
        simp only [List.append_assoc, List.cons_append, List.nil_append]
        rw [← List.append_assoc (U.take (i - a)), List.take_append_drop]
      have hlen : ∀ t, (bubR (A ++ U.take (i - a)) v (U.drop (i - a)) C t).toArray.size = N := fun t => by
        rw [List.size_toArray, length_bubR, hltA, hlt1]; have := HM.out; have := HA.out; have := HN.out; omega
      have S2 : Aside (SWK enc k w0 blk off (bubR (A ++ U.take (i - a)) v (U.drop (i - a)) C (m - i)).toArray wr) := by rw [← hst]; exact S1.out
      have HF := Lib.hid hfin
      have HL1 := Lib.hid hlt1
      have HLA := Lib.hid hltA
      have HLen := Lib.hid hlen
      clear hfin hst hlt1 hltA hlen HH S1 hlt hij
      generalize U.drop (i - a) = V1 at S2 HF HL1 HLen
      generalize A ++ U.take (i - a) = A1 at S2 HF HLA HLen
      go_wp2
      go_loopg [17] (m - i) (fun kx s17 wr => ∃ t : Nat, s17 = .int .i64 ((i + t : Nat) : Int) ∧ t ≤ m - i ∧ t ≤ kx ∧ Aside (SWK enc k w0 blk off (bubR A1 v V1 C t).toArray wr))
      case atStart => exact ⟨m - i, by congr 1; omega, Nat.le_refl _, Nat.le_refl _, S2⟩
      case round =>
        clear S2
        obtain ⟨t', rfl, ht, hkt, S1⟩ := hrel
        by_cases hlt : 0 < t'
        · obtain ⟨t, rfl⟩ : ∃ t, t' = t + 1 := ⟨t' - 1, by omega⟩
          have hltz : (i : Int) < ((i + (t + 1) : Nat) : Int) := by omega
          have hsw := bubR_back A1 v V1 C t (i + t + 1) (i + t) (by rw [HL1.out]; omega) (by rw [HLA.out]) (by rw [HLA.out])
          have HSt := Lib.hid hsw
          have hd := HLen.out (t + 1)
          have hds : (bubR A1 v V1 C (t + 1)).toArray.size = d0.size := by rw [hd, HS.out]
          clear hsw
          generalize (bubR A1 v V1 C (t + 1)).toArray = dk at S1 HSt hd hds
          have hai : i + t < dk.size := by rw [hd]; omega
          have hbi : i + t + 1 < dk.size := by rw [hd]; omega
          clear hd
          obtain ⟨x, hx⟩ : ∃ x, x = i + t := ⟨_, rfl⟩
          have hx1 : ((i + (t + 1) : Nat) : Int) = (x : Int) + 1 := by omega
          rw [hx1] at hltz ⊢
          rw [← hx] at HSt hai hbi
          have hxN : x + 1 < N := by omega
          have HX := Lib.hid hx
          clear hx hx1
          go_wp2_with fail
          have ea44 : ((x : Int)).toNat = x := by omega
          have pa44 : (0 : Int) ≤ (x : Int) := by omega
          have ba44 : (x : Int) < (N : Int) := by omega
          have ra44 : IntKind.i64.wrap (x : Int) = (x : Int) := by rw [IntKind.wrap_i64]; omega
          have ec44 : ((x : Int) + 1).toNat = x + 1 := by omega
          have pc44 : (0 : Int) ≤ (x : Int) + 1 := by omega
          have bc44 : (x : Int) + 1 < (N : Int) := by omega
          have rc44 : IntKind.i64.wrap ((x : Int) + 1) = (x : Int) + 1 := by rw [IntKind.wrap_i64]; omega
          have S2 : Aside (SWK enc k w0 blk off (swp dk (x + 1) x) ((wr.drew.setCells blk (off + (x + 1) * k) (enc dk[x]!)).setCells blk (off + x * k) (enc dk[x + 1]!))) := S1.out.swapped R (x + 1) x hbi hai
          have l44a := S1.out.ld1 R hds P x hai
          have l44b := S1.out.ld1 R hds P (x + 1) hbi
          have s44a := S1.out.st1 R hds P (x + 1) hbi dk[x]!
          have s44b := S1.out.st2 R hds P (x + 1) x hbi hai dk[x]! dk[x + 1]!
          have n44a : (enc dk[x]!).length = k := R.hk _
          have n44b : (enc dk[x + 1]!).length = k := R.hk _
          generalize enc dk[x]! = cI44 at S2 l44a s44a s44b n44a
          generalize enc dk[x + 1]! = cJ44 at S2 l44b s44b n44b
          clear S1 hds
          go_wp2_with fail
          go_big_region_o
          clear l44a l44b s44a s44b
          generalize (wr.drew.setCells blk (off + (x + 1) * k) cI44).setCells blk (off + x * k) cJ44 = w2 at S2 ⊢
          go_wp2
          go_roundg t
          case measure => omega
          case rel => exact ⟨t, by have := HX.out; congr 1; omega, by omega, Nat.le_refl _, by rw [← HSt.out]; exact S2⟩
        · have hltz : ¬ (i : Int) < ((i + t' : Nat) : Int) := by omega
          obtain rfl : t' = 0 := by omega
          go_wp2
          refine bodyPost_ret (results_none rfl _ _ _) rfl ?_
          exact ⟨rfl, by rw [HF.out]; exact S1.out⟩
end Go.Proofs.Ytoaaoggggjjbaaa.St
