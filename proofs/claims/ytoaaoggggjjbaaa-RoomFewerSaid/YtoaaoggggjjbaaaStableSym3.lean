/- slices.symMergeCmpFunc at []api.Event merges two sorted parts, stably. -/
import Derived.Test.YtoaaoggggjjbaaaStableSymL
import Derived.Test.YtoaaoggggjjbaaaStableSymG
namespace Go.Proofs.Ytoaaoggggjjbaaa.St
open Go.Shelf Go.RowKit Go.Lib Go.Sort
variable {P : Program} {α : Type} [Inhabited α] {enc : α → List Value} {k : Nat} {w0 : World} {blk off : Nat}

set_option maxHeartbeats 8000000 in
set_option maxRecDepth 1000000 in
theorem symMerge (H : StE P k) (κ : α → Int) (cf : α → α → Int) (hcf : ∀ x y, cf x y < 0 ↔ κ x < κ y) (g : Nat) (cb : Array Value) (eg : ∀ args w, (callFunc g args).run P w = .ok (.enter g args) w) (cap N : Nat) (d0 : Array α) (R : RowK enc k w0 blk off d0)
    (hcmp : CmpLays P g cb enc k cf blk off N w0) (hs : d0.size = N) (hsz : N < 2305843009213693952) : ∀ (sz : Nat) (A U V C : List α) (a m b : Nat) (az mz bz : Int) (w : World), az = a → mz = m → bz = b → U.length + V.length ≤ sz →
    Srt κ U → Srt κ V → 1 ≤ U.length → 1 ≤ V.length → a = A.length → m = A.length + U.length → b = A.length + U.length + V.length → N = A.length + U.length + V.length + C.length →
    SWK enc k w0 blk off (A ++ (U ++ (V ++ C))).toArray w →
    Calls P 76 #[.slice (some ⟨blk, off, none⟩) N cap, .int .i64 az, .int .i64 mz, .int .i64 bz, .func (.func g) #[] cb] w fun e w' =>
      e = .returned (.tuple #[]) ∧ SWK enc k w0 blk off (A ++ (mrg κ U V ++ C)).toArray w' := by
  intro sz
  induction sz with
  | zero => intro A U V C a m b az mz bz w _ _ _ h _ _ hu; omega
  | succ sz ih =>
  intro A U V C a m b az mz bz w eaz emz ebz hsum hU hV hu hv ha hm hb hN S
  by_cases hu1 : U.length = 1
  · obtain ⟨u, rfl⟩ := List.length_eq_one_iff.1 hu1
    exact sym_one H κ cf hcf g cb eg cap A V C u a m b N az mz bz eaz emz ebz d0 w R hcmp hV hv ha (by simpa using hm) (by simpa using hb) (by simpa using hN) hs hsz S
  by_cases hv1 : V.length = 1
  · obtain ⟨v, rfl⟩ := List.length_eq_one_iff.1 hv1
    exact sym_last H κ cf hcf g cb eg cap A U C v a m b N az mz bz eaz emz ebz d0 w R hcmp hU (by omega) ha hm (by simpa using hb) (by simpa using hN) hs hsz S
  by_cases hside : (a + b) / 2 < m
  · exact sym_lt H κ cf hcf g cb eg cap N d0 R hcmp hs hsz sz ih A U V C a m b az mz bz w eaz emz ebz hsum hU hV (by omega) (by omega) ha hm hb hN hside S
  · exact sym_ge H κ cf hcf g cb eg cap N d0 R hcmp hs hsz sz ih A U V C a m b az mz bz w eaz emz ebz hsum hU hV (by omega) (by omega) ha hm hb hN (by omega) S
end Go.Proofs.Ytoaaoggggjjbaaa.St
