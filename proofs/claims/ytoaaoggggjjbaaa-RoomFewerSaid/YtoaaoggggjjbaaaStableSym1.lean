/- slices.symMergeCmpFunc at []api.Event where the first part is one element. -/
import Derived.Test.YtoaaoggggjjbaaaStableE
namespace Go.Proofs.Ytoaaoggggjjbaaa.St
open Go.Shelf Go.RowKit Go.Lib Go.Sort
variable {P : Program} {α : Type} [Inhabited α] {enc : α → List Value} {k : Nat} {w0 : World} {blk off : Nat}
set_option maxHeartbeats 4000000 in
set_option maxRecDepth 1000000 in
theorem sym_one (H : StE P k) (κ : α → Int) (cf : α → α → Int) (hcf : ∀ x y, cf x y < 0 ↔ κ x < κ y) (g : Nat) (cb : Array Value) (eg : ∀ args w, (callFunc g args).run P w = .ok (.enter g args) w) (cap : Nat) (A V C : List α) (u : α) (a m b N : Nat) (az mz bz : Int) (eaz : az = a) (emz : mz = m) (ebz : bz = b) (d0 : Array α) (w : World) (R : RowK enc k w0 blk off d0)
    (hcmp : CmpLays P g cb enc k cf blk off N w0) (hV : Srt κ V) (hv : 1 ≤ V.length) (ha : a = A.length) (hm : m = A.length + 1) (hb : b = A.length + 1 + V.length) (hN : N = A.length + 1 + V.length + C.length) (hs : d0.size = N) (hsz : N < 2305843009213693952)
    (S : SWK enc k w0 blk off (A ++ ([u] ++ (V ++ C))).toArray w) :
    Calls P 76 #[.slice (some ⟨blk, off, none⟩) N cap, .int .i64 az, .int .i64 mz, .int .i64 bz, .func (.func g) #[] cb] w fun e w' =>
      e = .returned (.tuple #[]) ∧ SWK enc k w0 blk off (A ++ (mrg κ [u] V ++ C)).toArray w' := by
  subst eaz emz ebz
  have mixed := H.mixed; have t3 := H.t3; have a3 := H.a3; have z3 := H.z3; have tu := H.tu; have au := H.au; have zu := H.zu; have t4 := H.t4; have a4 := H.a4; have z4 := H.z4; have tS := H.tS; have aS := H.aS; have zS := H.zS; have aE := H.aE; have zE := H.zE
  have uS := run_underlying H.tS
  have S0 : Aside (SWK enc k w0 blk off (A ++ ([u] ++ (V ++ C))).toArray w) := S
  have hab : m ≤ a + 1 ∧ a + 1 ≤ m ∧ m < b ∧ b ≤ N := by omega
  obtain ⟨hab0, hab1, hab2, hab3⟩ := hab
  have h28 : ((m : Int) - (a : Int) == 1) = true := by simp; omega
  have HC : Aside _ := hcmp
  have HA := Lib.hid ha
  have HB := Lib.hid hb
  have HN := Lib.hid hN
  have HS := Lib.hid hs
  clear S ha hm hb hN hs hcmp
  go_enter H.fSym, Try.ntmps76
  go_wp2
  go_loopg [10, 11] (b - m) (fun kx s10 s11 wr => ∃ i j : Nat, s10 = .int .i64 i ∧ s11 = .int .i64 j ∧ m ≤ i ∧ i ≤ j ∧ j ≤ b ∧ j - i ≤ kx ∧ Hid ((∀ v ∈ V.take (i - m), κ v < κ u) ∧ (∀ v ∈ V.drop (j - m), κ u ≤ κ v)) ∧ Aside (SWK enc k w0 blk off (A ++ ([u] ++ (V ++ C))).toArray wr))
  case atStart => exact ⟨m, b, rfl, rfl, Nat.le_refl _, by omega, Nat.le_refl _, Nat.le_refl _, ⟨by simp, by have := HB.out; have := HA.out; rw [List.drop_of_length_le (by omega)]; simp⟩, S0⟩
  case round =>
    clear S0
    obtain ⟨i, j, rfl, rfl, hmi, hij, hjb, hkx, HH, S1⟩ := hrel
    by_cases hlt : i < j
    · go_wp2_with fail
      obtain ⟨h, hh⟩ : ∃ h : Nat, ((i : Int) + (j : Int)) / 2 = (h : Int) := ⟨(i + j) / 2, by omega⟩
      have hh1 : i ≤ h := by omega
      have hh2 : h < j := by omega
      rw [hh]
      clear hh
      have hsize : (A ++ ([u] ++ (V ++ C))).toArray.size = N := by have := HN.out; simp; omega
      have hds : (A ++ ([u] ++ (V ++ C))).toArray.size = d0.size := by rw [hsize, HS.out]
      have hvh : h - m < V.length := by have := HB.out; have := HA.out; omega
      have ga : (A ++ ([u] ++ (V ++ C))).toArray[a]! = u := get_mid A _ u a HA.out
      have gh : (A ++ ([u] ++ (V ++ C))).toArray[h]! = V[h - m] := by
        have e : A ++ ([u] ++ (V ++ C)) = (A ++ (u :: V.take (h - m))) ++ V[h - m] :: (V.drop (h - m + 1) ++ C) := by
          conv => lhs; rw [← List.take_append_drop (h - m) V, List.drop_eq_getElem_cons hvh]
          simp only [List.append_assoc, List.cons_append, List.nil_append]
        rw [e]
        exact get_mid _ _ _ h (by simp only [List.length_append, List.length_cons, List.length_take]; have := HA.out; omega)
      have hHt := HH.out.1
      have hHd := HH.out.2
      have fTrue : κ V[h - m] < κ u → ∀ v ∈ V.take (h + 1 - m), κ v < κ u := fun hlt' v hv => by
        obtain ⟨t, ht, rfl⟩ := List.getElem_of_mem hv
        rw [List.getElem_take]
        rw [List.length_take] at ht
        rcases Nat.lt_or_ge t (h - m) with q | q
        · have := List.pairwise_iff_getElem.1 hV t (h - m) (by omega) hvh q
          omega
        · have : t = h - m := by omega
          subst this
          exact hlt'
      have fFalse : κ u ≤ κ V[h - m] → ∀ v ∈ V.drop (h - m), κ u ≤ κ v := fun hge v hv => by
        obtain ⟨t, ht, rfl⟩ := List.getElem_of_mem hv
        rw [List.getElem_drop]
        rw [List.length_drop] at ht
        rcases Nat.eq_zero_or_pos t with q | q
        · subst q; simpa using hge
        · have := List.pairwise_iff_getElem.1 hV (h - m) (h - m + t) hvh (by omega) (by omega)
          omega
      have lj := fun n' os' => S1.out.ld R hds P h (by rw [hsize]; omega) n' os'
      have lp := fun n' os' => S1.out.ld R hds P a (by rw [hsize]; omega) n' os'
      rw [gh] at lj
      rw [ga] at lp
      have hcg := fun n' os' => S1.out.cmp HC.out hsize V[h - m] u n' os'
      have SG : Aside (∀ n' os', SWK enc k w0 blk off (A ++ ([u] ++ (V ++ C))).toArray (grow (wr.drewN n') os')) := fun n' os' => S1.out.grown n' os'
      have FT := Lib.hid fTrue
      have FF := Lib.hid fFalse
      have HD := Lib.hid hHd
      have HT := Lib.hid hHt
      clear hsize hds ga gh hHt hHd HH S1 fTrue fFalse
      have hcv := hcf V[h - m] u
      generalize V[h - m] = vh at lj hcg FT FF hcv
      have pz1 : (h : Int) < (N : Int) := by omega
      have pz2 : (a : Int) < (N : Int) := by omega
      have pz3 : (0 : Int) ≤ (h : Int) := by omega
      have pz4 : (0 : Int) ≤ (a : Int) := by omega
      have ez1 : ((h : Int)).toNat = h := by omega
      have ez2 : ((a : Int)).toNat = a := by omega
      by_cases hlv : cf vh u < 0
      · have HK := Lib.hid (hcv.1 hlv)
        clear hcv hcf
        go_wp2_with fail
        go_quiet_grown (first | (go_at_fn g; refine Calls.grown_of (hcg _ _)))
        clear lj lp hcg
        go_wp2
        go_roundg (j - (h + 1))
        case measure => omega
        case rel => exact ⟨h + 1, j, by go_num, rfl, by omega, by omega, hjb, Nat.le_refl _, ⟨FT.out HK.out, HD.out⟩, SG.out _ _⟩
      · have HK := Lib.hid (Int.not_lt.1 fun q => hlv (hcv.2 q))
        clear hcv hcf
        go_wp2_with fail
        go_quiet_grown (first | (go_at_fn g; refine Calls.grown_of (hcg _ _)))
        clear lj lp hcg
        go_wp2
        go_roundg (h - i)
        case measure => omega
        case rel => exact ⟨i, h, rfl, rfl, hmi, hh1, by omega, Nat.le_refl _, ⟨HT.out, FF.out HK.out⟩, SG.out _ _⟩
    · obtain rfl : i = j := by omega
      have hfin : A ++ (mrg κ [u] V ++ C) = bubR A u (V.take (i - m)) (V.drop (i - m) ++ C) (i - m) := by
        conv => lhs; rw [← List.take_append_drop (i - m) V]
        rw [mrg_one_left κ u _ _ HH.out.1 HH.out.2]
        unfold bubR
        rw [List.take_of_length_le (i := i - m) (l := V.take (i - m)) (by rw [List.length_take]; omega), List.drop_of_length_le (i := i - m) (l := V.take (i - m)) (by rw [List.length_take]; omega)]
        simp only [List.append_assoc, List.cons_append, List.nil_append]
      have hst : A ++ ([u] ++ (V ++ C)) = bubR A u (V.take (i - m)) (V.drop (i - m) ++ C) 0 := by
        unfold bubR
        simp only [List.take_zero, List.drop_zero, List.nil_append, List.cons_append]
        rw [← List.append_assoc (V.take (i - m)), List.take_append_drop]
      have hlt1 : (V.take (i - m)).length = i - m := by rw [List.length_take]; have := HB.out; have := HA.out; omega
      have hlen : ∀ t, (bubR A u (V.take (i - m)) (V.drop (i - m) ++ C) t).toArray.size = N := fun t => by
        rw [List.size_toArray, length_bubR, hlt1, List.length_append, List.length_drop]; have := HB.out; have := HA.out; have := HN.out; omega
      have S2 : Aside (SWK enc k w0 blk off (bubR A u (V.take (i - m)) (V.drop (i - m) ++ C) 0).toArray wr) := by rw [← hst]; exact S1.out
      have HF := Lib.hid hfin
      have HL1 := Lib.hid hlt1
      have HLen := Lib.hid hlen
      clear hfin hst hlt1 hlen HH S1 hlt hij
      generalize V.take (i - m) = V1 at S2 HF HL1 HLen
      generalize V.drop (i - m) ++ C = D at S2 HF HLen
      go_wp2
      go_loopg [13] (i - m) (fun kx s13 wr => ∃ t : Nat, s13 = .int .i64 ((a + t : Nat) : Int) ∧ t ≤ i - m ∧ i - m - t ≤ kx ∧ Aside (SWK enc k w0 blk off (bubR A u V1 D t).toArray wr))
      case atStart => exact ⟨0, rfl, by omega, by omega, S2⟩
      case round =>
        clear S2
        obtain ⟨t, rfl, ht, hkt, S1⟩ := hrel
        by_cases hlt : t < i - m
        · have hltz : ((a + t : Nat) : Int) < (i : Int) - 1 := by omega
          have hsw := bubR_step A u V1 D t (a + t) (a + t + 1) (by rw [HL1.out]; exact hlt) (by rw [HA.out]) (by rw [HA.out])
          have HSt := Lib.hid hsw
          have hd := HLen.out t
          have hds : (bubR A u V1 D t).toArray.size = d0.size := by rw [hd, HS.out]
          clear hsw
          generalize (bubR A u V1 D t).toArray = dk at S1 HSt hd hds
          have hai : a + t < dk.size := by rw [hd]; omega
          have hbi : a + t + 1 < dk.size := by rw [hd]; omega
          clear hd
          obtain ⟨x, hx⟩ : ∃ x, x = a + t := ⟨_, rfl⟩
          rw [← hx] at hltz HSt hai hbi ⊢
          have hxN : x + 1 < N := by omega
          have HX := Lib.hid hx
          clear hx
          go_wp2_with fail
          have ea44 : ((x : Int)).toNat = x := by omega
          have pa44 : (0 : Int) ≤ (x : Int) := by omega
          have ba44 : (x : Int) < (N : Int) := by omega
          have ra44 : IntKind.i64.wrap (x : Int) = (x : Int) := by rw [IntKind.wrap_i64]; omega
          have ec44 : ((x : Int) + 1).toNat = x + 1 := by omega
          have pc44 : (0 : Int) ≤ (x : Int) + 1 := by omega
          have bc44 : (x : Int) + 1 < (N : Int) := by omega
          have rc44 : IntKind.i64.wrap ((x : Int) + 1) = (x : Int) + 1 := by rw [IntKind.wrap_i64]; omega
          have S2 : Aside (SWK enc k w0 blk off (swp dk x (x + 1)) ((wr.drew.setCells blk (off + x * k) (enc dk[x + 1]!)).setCells blk (off + (x + 1) * k) (enc dk[x]!))) := S1.out.swapped R x (x + 1) hai hbi
          have l44a := S1.out.ld1 R hds P x hai
          have l44b := S1.out.ld1 R hds P (x + 1) hbi
          have s44a := S1.out.st1 R hds P x hai dk[x + 1]!
          have s44b := S1.out.st2 R hds P x (x + 1) hai hbi dk[x + 1]! dk[x]!
          have n44a : (enc dk[x]!).length = k := R.hk _
          have n44b : (enc dk[x + 1]!).length = k := R.hk _
          generalize enc dk[x]! = cI44 at S2 l44a s44b n44a
          generalize enc dk[x + 1]! = cJ44 at S2 l44b s44a s44b n44b
          clear S1 hds
          go_wp2_with fail
          go_big_region_o
          clear l44a l44b s44a s44b
          generalize (wr.drew.setCells blk (off + x * k) cJ44).setCells blk (off + (x + 1) * k) cI44 = w2 at S2 ⊢
          go_wp2
          go_roundg (i - m - (t + 1))
          case measure => omega
          case rel => exact ⟨t + 1, by have := HX.out; congr 1; omega, by omega, Nat.le_refl _, by rw [← HSt.out]; exact S2⟩
        · have hltz : ¬ ((a + t : Nat) : Int) < (i : Int) - 1 := by omega
          obtain rfl : t = i - m := by omega
          go_wp2
          refine bodyPost_ret (results_none rfl _ _ _) rfl ?_
          exact ⟨rfl, by rw [HF.out]; exact S1.out⟩
end Go.Proofs.Ytoaaoggggjjbaaa.St
