/- slices.SortStableFunc's family at []api.Event: what each function does to the row. Over any program that bears these bodies; the number of an element's cells is a variable. -/
import Derived.Test.YtoaaoggggjjbaaaProg
import Derived.Test.YtoaaoggggjjbaaaStableMath
import Derived.Shelf.SlSortCmp.KitK
import Derived.Deep.LoopGhost
import Derived.WalkKit
import Derived.Lib.Hide
namespace Go.Proofs.Ytoaaoggggjjbaaa.St
open Go.Shelf Go.RowKit Go.Lib Go.Sort
variable {P : Program} {α : Type} [Inhabited α] {enc : α → List Value} {k : Nat} {w0 : World} {blk off : Nat}
/-- the tables and bodies that the family reads. -/
structure StE (P : Program) (k : Nat) : Prop where
  mixed : P.follows .mixedOrders = true
  t0 : P.underlying 0 = some (.tuple #[])
  t3 : P.underlying 3 = some (.int .i64)
  a3 : ∀ w, (isAgg 3).run P w = .ok false w
  z3 : ∀ w, (Go.sizeOf 3).run P w = .ok 1 w
  v3 : ∀ w, (zeroValue 3).run P w = .ok (.int .i64 0) w
  tu : P.underlying 104 = some (.int .u64)
  au : ∀ w, (isAgg 104).run P w = .ok false w
  zu : ∀ w, (Go.sizeOf 104).run P w = .ok 1 w
  t4 : P.underlying 4 = some .bool
  a4 : ∀ w, (isAgg 4).run P w = .ok false w
  z4 : ∀ w, (Go.sizeOf 4).run P w = .ok 1 w
  tS : P.underlying 22 = some (.slice 35)
  aS : ∀ w, (isAgg 22).run P w = .ok false w
  zS : ∀ w, (Go.sizeOf 22).run P w = .ok 1 w
  aE : ∀ w, (isAgg 35).run P w = .ok true w
  zE : ∀ w, (Go.sizeOf 35).run P w = .ok k w
  fSwap : P.funcs[99]? = some Try.f99
  fRot : P.funcs[92]? = some Try.f92
  fSym : P.funcs[76]? = some Try.f76
  fIns : P.funcs[75]? = some Try.f75
  fSta : P.funcs[62]? = some Try.f62

set_option maxHeartbeats 4000000 in
set_option maxRecDepth 1000000 in
theorem swapRange (H : StE P k) (g : Nat) (cb : Array Value) (cap : Nat) (A X B Y C : List α) (n a b N : Nat) (az bz nz : Int) (eaz : az = a) (ebz : bz = b) (enz : nz = n) (d0 : Array α) (w : World) (R : RowK enc k w0 blk off d0)
    (hx : X.length = n) (hy : Y.length = n) (ha : a = A.length) (hb : b = A.length + n + B.length) (hN : N = A.length + n + B.length + n + C.length) (hs : d0.size = N) (hsz : N < 4611686018427387904)
    (S : SWK enc k w0 blk off (A ++ (X ++ (B ++ (Y ++ C)))).toArray w) :
    Calls P 99 #[.slice (some ⟨blk, off, none⟩) N cap, .int .i64 az, .int .i64 bz, .int .i64 nz, .func (.func g) #[] cb] w fun e w' =>
      e = .returned (.tuple #[]) ∧ SWK enc k w0 blk off (A ++ (Y ++ (B ++ (X ++ C)))).toArray w' := by
  subst eaz ebz enz
  have mixed := H.mixed; have t3 := H.t3; have a3 := H.a3; have z3 := H.z3; have t4 := H.t4; have a4 := H.a4; have z4 := H.z4; have tS := H.tS; have aS := H.aS; have zS := H.zS; have aE := H.aE; have zE := H.zE
  have S0 : Aside (SWK enc k w0 blk off (swapRow A X B Y C 0).toArray w) := by rw [swapRow_zero]; exact S
  have HX := Lib.hid hx
  have HY := Lib.hid hy
  have HA := Lib.hid ha
  have HB := Lib.hid hb
  have HN := Lib.hid hN
  have HS := Lib.hid hs
  have hin : a + n ≤ N ∧ b + n ≤ N := by omega
  obtain ⟨hin1, hin2⟩ := hin
  have hL : ∀ i, (swapRow A X B Y C i).toArray.size = N := fun i => by rw [List.size_toArray, length_swapRow]; omega
  have HL := Lib.hid hL
  clear S hx hy ha hb hN hs hL
  go_enter H.fSwap, Try.ntmps99
  go_wp2
  go_loopg [10] n (fun kx s10 wr => ∃ i : Nat, s10 = .int .i64 i ∧ i ≤ n ∧ n - i ≤ kx ∧ Aside (SWK enc k w0 blk off (swapRow A X B Y C i).toArray wr))
  case atStart => exact ⟨0, rfl, by omega, by omega, S0⟩
  case round =>
    clear S0
    obtain ⟨i, rfl, hin, hkx, S1⟩ := hrel
    by_cases hlt : i < n
    · have hstep := swapRow_step A X B Y C i n a b HX.out HY.out hlt HA.out HB.out
      have HSt := Lib.hid hstep
      clear hstep
      have hd := HL.out i
      have hdn := HL.out (i + 1)
      have HD := Lib.hid hd
      clear hd hdn
      generalize (swapRow A X B Y C i).toArray = dk at S1 HSt HD
      go_wp2_with fail
      have hds : dk.size = d0.size := by rw [HD.out, HS.out]
      have hai : a + i < dk.size := by rw [HD.out]; omega
      have hbi : b + i < dk.size := by rw [HD.out]; omega
      have ea44 : ((a : Int) + (i : Int)).toNat = a + i := by omega
      have pa44 : (0 : Int) ≤ (a : Int) + (i : Int) := by omega
      have ba44 : (a : Int) + (i : Int) < (N : Int) := by omega
      have ra44 : IntKind.i64.wrap ((a : Int) + (i : Int)) = (a : Int) + (i : Int) := by rw [IntKind.wrap_i64]; omega
      have ec44 : ((b : Int) + (i : Int)).toNat = b + i := by omega
      have pc44 : (0 : Int) ≤ (b : Int) + (i : Int) := by omega
      have bc44 : (b : Int) + (i : Int) < (N : Int) := by omega
      have rc44 : IntKind.i64.wrap ((b : Int) + (i : Int)) = (b : Int) + (i : Int) := by rw [IntKind.wrap_i64]; omega
      have S2 : Aside (SWK enc k w0 blk off (swp dk (a + i) (b + i)) ((wr.drew.setCells blk (off + (a + i) * k) (enc dk[b + i]!)).setCells blk (off + (b + i) * k) (enc dk[a + i]!))) := S1.out.swapped R (a + i) (b + i) hai hbi
      have l44a := S1.out.ld1 R hds P (a + i) hai
      have l44b := S1.out.ld1 R hds P (b + i) hbi
      have s44a := S1.out.st1 R hds P (a + i) hai dk[b + i]!
      have s44b := S1.out.st2 R hds P (a + i) (b + i) hai hbi dk[b + i]! dk[a + i]!
      have n44a : (enc dk[a + i]!).length = k := R.hk _
      have n44b : (enc dk[b + i]!).length = k := R.hk _
      generalize enc dk[a + i]! = cI44 at S2 l44a s44b n44a
      generalize enc dk[b + i]! = cJ44 at S2 l44b s44a s44b n44b
      clear S1 hds
      go_wp2_with fail
      go_big_region_o
      clear l44a l44b s44a s44b
      generalize (wr.drew.setCells blk (off + (a + i) * k) cJ44).setCells blk (off + (b + i) * k) cI44 = w2 at S2 ⊢
      go_wp2
      go_roundg (n - (i + 1))
      case measure => omega
      case rel => exact ⟨i + 1, by simp, by omega, Nat.le_refl _, by rw [← HSt.out]; exact S2⟩
    · obtain rfl : i = n := by omega
      go_wp2
      go_end0
      exact ⟨rfl, by rw [← swapRow_all A X B Y C i HX.out HY.out]; exact S1.out⟩

set_option maxHeartbeats 4000000 in
set_option maxRecDepth 1000000 in
theorem rotate (H : StE P k) (g : Nat) (cb : Array Value) (cap : Nat) (A U V C : List α) (a m b N : Nat) (az mz bz : Int) (eaz : az = a) (emz : mz = m) (ebz : bz = b) (d0 : Array α) (w : World) (R : RowK enc k w0 blk off d0)
    (hu : 1 ≤ U.length) (hv : 1 ≤ V.length) (ha : a = A.length) (hm : m = A.length + U.length) (hb : b = A.length + U.length + V.length) (hN : N = A.length + U.length + V.length + C.length) (hs : d0.size = N) (hsz : N < 4611686018427387904)
    (S : SWK enc k w0 blk off (A ++ (U ++ (V ++ C))).toArray w) :
    Calls P 92 #[.slice (some ⟨blk, off, none⟩) N cap, .int .i64 az, .int .i64 mz, .int .i64 bz, .func (.func g) #[] cb] w fun e w' =>
      e = .returned (.tuple #[]) ∧ SWK enc k w0 blk off (A ++ (V ++ (U ++ C))).toArray w' := by
  subst eaz emz ebz
  have mixed := H.mixed; have t3 := H.t3; have a3 := H.a3; have z3 := H.z3; have t4 := H.t4; have a4 := H.a4; have z4 := H.z4; have tS := H.tS; have aS := H.aS; have zS := H.zS; have aE := H.aE; have zE := H.zE
  have S0 : Aside (SWK enc k w0 blk off (A ++ (U ++ (V ++ C))).toArray w) := S
  have hab : a < m ∧ m < b ∧ b ≤ N := by omega
  obtain ⟨hab1, hab2, hab3⟩ := hab
  have HA := Lib.hid ha
  have HM := Lib.hid hm
  have HB := Lib.hid hb
  have HN := Lib.hid hN
  have HS := Lib.hid hs
  clear S ha hm hb hN hs
  have eSw := fun args w => enters_of (args := args) (w := w) H.fSwap (by kernel_rfl) rfl
  go_enter H.fRot, Try.ntmps92
  go_wp2
  go_loopg [10, 11] (U.length + V.length) (fun kx s10 s11 wr => ∃ (i j : Nat) (Pre U' V' Post : List α), s10 = .int .i64 i ∧ s11 = .int .i64 j ∧ 1 ≤ i ∧ 1 ≤ j ∧ i + j ≤ kx ∧ i ≤ m ∧ m + j ≤ N ∧ Hid (U'.length = i ∧ V'.length = j ∧ m = Pre.length + i ∧ N = Pre.length + i + j + Post.length ∧ Pre ++ (V' ++ (U' ++ Post)) = A ++ (V ++ (U ++ C))) ∧ Aside (SWK enc k w0 blk off (Pre ++ (U' ++ (V' ++ Post))).toArray wr))
  case atStart =>
    have q1 := HA.out; have q2 := HM.out; have q3 := HB.out; have q4 := HN.out
    exact ⟨U.length, V.length, A, U, V, C, by congr 1; omega, by congr 1; omega, hu, hv, Nat.le_refl _, by omega, by omega, ⟨rfl, rfl, by omega, by omega, rfl⟩, S0⟩
  case round =>
    clear S0
    obtain ⟨i, j, Pre, U', V', Post, rfl, rfl, hi, hj, hkx, him, hjN, HH, S1⟩ := hrel
    by_cases hij : i = j
    · subst hij
      go_wp2_with fail
      obtain ⟨q1, q2, q3, q4, q5⟩ := HH.out
      refine (swapRange H g cb cap Pre U' [] V' Post i (m - i) m N ((m : Int) - i) m i (by omega) rfl rfl d0 wr R q1 q2 (by omega) (by simp; omega) (by simp; omega) HS.out hsz (by simpa using S1.out)).mono ?_
      rintro e w' ⟨rfl, S2⟩
      go_wp2
      go_end0
      exact ⟨rfl, by rw [← q5]; simpa using S2⟩
    · have hneb : ((i : Int) == (j : Int)) = false := by simp; omega
      by_cases hgt : j < i
      · have hgtz : (j : Int) < (i : Int) := by omega
        go_wp2_with fail
        obtain ⟨q1, q2, q3, q4, q5⟩ := HH.out
        have e1 : U' = U'.take j ++ U'.drop j := (List.take_append_drop j U').symm
        have l1 : (U'.take j).length = j := by rw [List.length_take]; omega
        have l2 : (U'.drop j).length = i - j := by rw [List.length_drop]; omega
        refine (swapRange H g cb cap Pre (U'.take j) (U'.drop j) V' Post j (m - i) m N ((m : Int) - i) m j (by omega) rfl rfl d0 wr R l1 q2 (by omega) (by omega) (by omega) HS.out hsz (by rw [← List.append_assoc (U'.take j), ← e1]; exact S1.out)).mono ?_
        rintro e w' ⟨rfl, S2⟩
        have S3 : Aside (SWK enc k w0 blk off ((Pre ++ V') ++ (U'.drop j ++ (U'.take j ++ Post))).toArray w') := by rw [List.append_assoc]; exact S2
        have HH2 : Hid ((U'.drop j).length = i - j ∧ (U'.take j).length = j ∧ m = (Pre ++ V').length + (i - j) ∧ N = (Pre ++ V').length + (i - j) + j + Post.length ∧ (Pre ++ V') ++ (U'.take j ++ (U'.drop j ++ Post)) = A ++ (V ++ (U ++ C))) :=
          ⟨l2, l1, by simp; omega, by simp; omega, by rw [← q5, List.append_assoc, ← List.append_assoc (U'.take j), ← e1]⟩
        clear S2 S1 HH q1 q2 q3 q4 q5 e1 l1 l2
        go_wp2
        go_roundg (i - j + j)
        case measure => omega
        case rel => exact ⟨i - j, j, Pre ++ V', U'.drop j, U'.take j, Post, by congr 1; omega, rfl, by omega, hj, by omega, by omega, hjN, HH2, S3⟩
      · have hgtz : ¬ (j : Int) < (i : Int) := by omega
        go_wp2_with fail
        obtain ⟨q1, q2, q3, q4, q5⟩ := HH.out
        have e1 : V' = V'.take (j - i) ++ V'.drop (j - i) := (List.take_append_drop _ V').symm
        have l1 : (V'.take (j - i)).length = j - i := by rw [List.length_take]; omega
        have l2 : (V'.drop (j - i)).length = i := by rw [List.length_drop]; omega
        refine (swapRange H g cb cap Pre U' (V'.take (j - i)) (V'.drop (j - i)) Post i (m - i) (m + j - i) N ((m : Int) - i) ((m : Int) + j - i) i (by omega) (by omega) rfl d0 wr R q1 l2 (by omega) (by omega) (by omega) HS.out hsz (by rw [← List.append_assoc (V'.take (j - i)), ← e1]; exact S1.out)).mono ?_
        rintro e w' ⟨rfl, S2⟩
        have S3 : Aside (SWK enc k w0 blk off (Pre ++ (V'.drop (j - i) ++ (V'.take (j - i) ++ (U' ++ Post)))).toArray w') := S2
        have HH2 : Hid ((V'.drop (j - i)).length = i ∧ (V'.take (j - i)).length = j - i ∧ m = Pre.length + i ∧ N = Pre.length + i + (j - i) + (U' ++ Post).length ∧ Pre ++ (V'.take (j - i) ++ (V'.drop (j - i) ++ (U' ++ Post))) = A ++ (V ++ (U ++ C))) :=
          ⟨l2, l1, q3, by simp; omega, by rw [← q5, ← List.append_assoc (V'.take (j - i)), ← e1]⟩
        clear S2 S1 HH q1 q2 q3 q4 q5 e1 l1 l2
        go_wp2
        go_roundg (i + (j - i))
        case measure => omega
        case rel => exact ⟨i, j - i, Pre, V'.drop (j - i), V'.take (j - i), U' ++ Post, rfl, by congr 1; omega, hi, by omega, by omega, him, by omega, HH2, S3⟩
end Go.Proofs.Ytoaaoggggjjbaaa.St
