/- Part. -/
import Derived.Test.YtaegelbaghaooaaGreatCfPTurn
import Derived.Test.YtaegelbaghaooaaGreatCfPCtd
import Derived.Test.YtaegelbaghaooaaGreatCfQFo
set_option linter.all false
open Go.IntKind (i64 u64 u32 u8)
namespace Go.Proofs.YtaegelbaghaooaaGreat
open Go Go.RowKit Lx
set_option maxRecDepth 100000
section
variable {n t : Nat} (hf : Small n t) (hn60 : n <= 60) {A : AS} {held : Nat -> Option HK} {live : Nat -> Option Nat}
include hf hn60
theorem seo_eq {W B : List Int} (hM : MemH n t A held live W B) {th bk op sz nn al at_ off by_ : Int} (hth : 0 <= th /\ th <= 255) (hsz : sz <= 9223372036854775807) (hnn : nn <= 9223372036854775807) (hal : al <= 9223372036854775807) (hby : 0 <= by_ /\ by_ <= 255) :
  Re (seoT (xb n t) W.length W.length B.length B.length W B th bk op sz nn al at_ off by_) fun R => ∃ (me : Nat) (a fr to_ lin tc : Int) (r : Res) (s' : DS) (A' : AS) (held' : Nat -> Option HK) (live' : Nat -> Option Nat) (was : Int),
   R = ⟨1, [evRow me ⟨op, sz, nn, al, a, off, by_⟩ fr to_ lin tc r], true, s'.m.words.length, s'.m.words.length, s'.m.bytes.length, s'.m.bytes.length, s'.m.words, s'.m.bytes⟩ /\
   Called n t (A.port (me : Int)) held live ⟨op, sz, nn, al, a, off, by_⟩ r A' held' live' was /\ MemH n t A' held' live' s'.m.words s'.m.bytes := by
 have ht1 := hf.t1
 obtain ⟨me, hme, ee⟩ := tmod_th hf hn60 hth.1 hth.2
 obtain ⟨c, hq, a, rfl⟩ := xr8 (L := []) (by simp) th bk op sz nn al at_ off by_
 obtain ⟨r, s', A', held', live', was, hv, hC, hM', hst⟩ := xr9 hf hn60 hme (c := ⟨op, sz, nn, al, a, off, by_⟩) ⟨by show sz < _; omega, by show nn < _; omega, by show al < _; omega, hby⟩ hM
 obtain ⟨h1, h2⟩ := xp2 hf hn60 hC
 unfold seoT xsy
 refine Re.yes (by rw [show (xb n t).threads = (t : Int) from rfl]; simp; omega) (Re.run hq ?_)
 simp only
 rw [ee]
 refine Re.run hv ?_
 simp only [beq_self_eq_true, Bool.and_self]
 refine Re.yes rfl (Re.yes (decide_eq_true h1) ?_)
 have hok : decide (r.lin <= s'.steps) = true := by rw [hst]; exact decide_eq_true h2
 rw [hok]
 exact Re.cond (fun _ => Re.ret ⟨me, a, _, _, _, _, r, s', A', held', live', was, rfl, hC, hM'⟩) fun _ => Re.ret ⟨me, a, _, _, _, _, r, s', A', held', live', was, rfl, hC, hM'⟩
theorem fo0_yes {W B : List Int} (hM0 : MemH n t A held live W B) (hz : ∀ i, A.w 2 i = 0) {Q : RowsL} (hQ : ∀ r ∈ Q, TurnOk r) (hQ30 : Q.length <= 30) {o c : Nat} {z : xcg} {κ0 κ1 : Unit -> T Bool} (hκ : Yes (κ1 ())) :
  Yes (Vq o z Q.length c false o Q (xb n t) 0 0 W.length W.length B.length B.length W B 0 0 0 0 0 [] κ0 κ1) := by
 have ht1 := hf.t1
 unfold Vq
 refine xjy Yes (fun k i => ∃ (j : Nat) (W B : List Int) (A : AS) (held : Nat -> Option HK) (live : Nat -> Option Nat) (H : RowsL), i = (H.length, (j : Int), W.length, W.length, B.length, B.length, W, B, A.w 2 0, A.w 2 1, A.w 2 2, A.w 2 3, A.w 2 4, H) /\ j <= Q.length /\ k = Q.length - j /\ H.length <= j /\ MemH n t A held live W B) ?_ xa Q.length _ (by unfold xa; omega)
  ⟨0, W, B, A, held, live, [], by simp only [hz]; rfl, by omega, by omega, by simp, hM0⟩
 clear hM0 hz W B
 rintro k i κ ⟨j, W, B, A, held, live, H, rfl, hj, rfl, hH, hM⟩ ih
 unfold xlc
 simp only
 by_cases h : j < Q.length
 case neg => exact Yes.no (decide_eq_false (by omega)) hκ
 refine Yes.yes (decide_eq_true (by omega)) (Yes.yes (in_yes h) (Yes.yes (by rw [Nat.beq_refl, inR_yes h]; rfl) ?_))
 have hR : TurnOk (getR Q (Int.toNat (j : Int))) := by
  rw [show Int.toNat (j : Int) = j from rfl, getR_at h]
  exact hQ _ (List.getElem_mem h)
 have ej : i64.wrap ((j : Int) + 1) = ((j + 1 : Nat) : Int) := succ64 (by omega)
 rw [ej]
 generalize getR Q (Int.toNat (j : Int)) = row at hR |-
 obtain ⟨c', hq, a, rfl⟩ := xr8 (L := H) (by omega) (getI row 0) (getI row 1) (getI row 2) (getI row 3) (getI row 4) (getI row 5) (getI row 6) (getI row 7) (getI row 8)
 refine Yes.run hq ?_
 by_cases h4 : getI row 2 = 4
 ·refine Yes.yes (by simpa using h4) ?_
  exact ih (Q.length - (j + 1)) _ (by omega) ⟨j + 1, W, B, A, held, live, H, rfl, by omega, rfl, by omega, hM⟩
 refine Yes.no (by simpa using h4) ?_
 obtain ⟨R, hs, me, a', fr, to_, lin, tc, r, s', A', held', live', was, rfl, hC, hM'⟩ := seo_eq hf hn60 hM (bk := 0) (op := getI row 2) (at_ := a) (off := getI row 7) hR.th hR.size hR.n hR.align hR.byte
 refine Yes.run hs ?_
 refine Yes.no rfl (Yes.no rfl (Yes.yes rfl (Yes.yes rfl (Yes.yes ?_ (Yes.yes rfl (Yes.yes rfl ?_))))))
 ·rw [Nat.beq_refl, Bool.true_and]; exact Nat.ble_eq_true_of_le (by omega)
 refine Yes.run (xp3 (f := A.w 2) (cl := ⟨getI row 2, getI row 3, getI row 4, getI row 5, a', getI row 7, getI row 8⟩) (r := r) (was := was) (th := (me : Int)) (fr := fr) (to_ := to_) (lin := lin) (tc := tc) h4) ?_
 obtain ⟨r2, s2, A2, held2, live2, was2, hv2, hC2, hM2, hst2⟩ := xr9 hf hn60 (me := 0) (by omega) (c := ⟨11, 0, 0, 0, 0, 0, 0⟩) ⟨by show (0 : Int) < _; omega, by show (0 : Int) < _; omega, by show (0 : Int) < _; omega, by show (0 : Int) <= 0 /\ (0 : Int) <= 255; omega⟩ hM'
 obtain ⟨k1, k2, k3, k4, k5, rfl, rfl, _, k6⟩ := xv8 hf hn60 hC2 rfl
 have hcn : ∀ i, A'.w 2 i = cntD ⟨getI row 2, getI row 3, getI row 4, getI row 5, a', getI row 7, getI row 8⟩ r was (A.w 2) i := fun i => hC.cnt i
 simp only [AS.port_w] at k1 k2 k3 k4 k5 k6
 refine Yes.run hv2 ?_
 simp only [<- hcn, k1, k2, k3, k4, k5, beq_self_eq_true, Bool.and_self, Bool.not_true]
 refine Yes.no rfl ?_
 have next : ∀ x : List Int, Yes (κ (H.length + 1, ((j + 1 : Nat) : Int), s2.m.words.length, s2.m.words.length, s2.m.bytes.length, s2.m.bytes.length, s2.m.words, s2.m.bytes, A'.w 2 0, A'.w 2 1, A'.w 2 2, A'.w 2 3, A'.w 2 4, H ++ [x])) := fun x =>
  ih (Q.length - (j + 1)) _ (by omega) ⟨j + 1, s2.m.words, s2.m.bytes, A2, held2, live2, H ++ [x], by simp only [k6, List.length_append, List.length_singleton], by omega, rfl, by simp; omega, hM2⟩
 exact next _
end
end Go.Proofs.YtaegelbaghaooaaGreat
