/- A trimmed heap in which nothing is held is one free run. -/
import Derived.Test.YtaegelbaghaooaaGreatErM9
set_option linter.all false
namespace Go.Proofs.YtaegelbaghaooaaGreat
open Go Go.RowKit Lx
structure WholeA (n t : Nat) (A : AS) : Prop where
 p0 : A.w 7 0 = pw 1 n 0 0
 lock : A.w 0 0 = 0
 rems : ∀ p, p < n -> A.w 9 p = 0
 bits : ∀ p, p < n -> ∃ v : Nat, v < 4294967296 /\ A.w 8 p = bt0 v
 cach : ∀ q, q < 8 * t -> A.w 12 q = 0
 item : ∀ q, q < 8 * nodesN n t -> A.w 18 q = 0
 bags : ∀ i, i < 4 * t -> ∃ l : List Nat, A.w 13 i = (hdn l : Int) /\ linkedN (A.w 17) l /\ l.Nodup /\ ∀ m ∈ l, 1 <= m /\ m <= nodesN n t
section
variable {n t : Nat} {A : AS} {S : List Sg} {mp vr : Nat -> Nat} {rem bag : Nat -> List Nat} {pl : List Nat}
theorem xk0 {s s' : Sg} {R R' : List Sg} (h1 : 1 <= s.len) : ∀ {L L' : List Sg}, L ++ s :: R = L' ++ s' :: R' -> plen L' <= plen L -> plen L < plen L' + s'.len -> L = L' /\ s = s'
 | [], [], he, _, _ => by simp only [List.nil_append, List.cons.injEq] at he; exact ⟨rfl, he.1⟩
 | [], x :: L', he, h2, _ => by
  simp only [List.nil_append, List.cons_append, List.cons.injEq] at he
  obtain ⟨rfl, _⟩ := he
  rw [xA] at h2
  simp only [plen] at h2
  omega
 | x :: L, [], he, _, h3 => by
  simp only [List.cons_append, List.nil_append, List.cons.injEq] at he
  obtain ⟨rfl, _⟩ := he
  rw [xA] at h3
  simp only [plen] at h3
  omega
 | x :: L, y :: L', he, h2, h3 => by
  simp only [List.cons_append, List.cons.injEq] at he
  obtain ⟨rfl, he⟩ := he
  rw [xA, xA] at h2 h3
  obtain ⟨e1, e2⟩ := xk0 h1 he (by omega) (by omega)
  exact ⟨by rw [e1], e2⟩
theorem xrg (h : HI n t A (fun _ => none) S mp vr rem bag pl) (hB : Bare n t A S mp rem) (hn : 1 <= n) : S = [⟨n, .free⟩] := by
 have hall : ∀ s ∈ S, s.kd = .free := by
  intro s hs
  obtain ⟨L, R, rfl⟩ := List.append_of_mem hs
  have hl := h.laid.len
  rw [xv, xA] at hl
  have h1 := (h.laid.ok s (by simp)).1
  obtain ⟨L', s', R', he, h2, h3, h4⟩ := h.used hB (p := plen L) (by omega)
  rcases h4 with h4 | ⟨q, k, hh, _⟩ | ⟨d, j, _, _, hh⟩
  ·-- the same segment
   have := xk0 h1 he h2 h3
   rw [this.2]; exact h4
  ·cases hh
  ·cases hh
 have hlen := h.laid.len
 have hnorm := h.norm
 cases S with
 | nil => simp only [plen] at hlen; omega
 | cons s l =>
  cases l with
  | nil =>
   rw [xA] at hlen
   simp only [plen] at hlen
   have hs := hall s (by simp)
   obtain ⟨len, kd⟩ := s
   simp only at hs hlen
   rw [hs, show len = n by omega]
  | cons x l =>
   have h1 := hnorm.1 (hall s (by simp))
   simp only [firstFree, decide_eq_false_iff_not] at h1
   exact absurd (hall x (by simp)) h1
theorem xta (h : HI n t A (fun _ => none) S mp vr rem bag pl) (hB : Bare n t A S mp rem) (hn : 1 <= n) (h0 : A.w 0 0 = 0) : WholeA n t A := by
 have hS := xrg h hB hn
 subst hS
 have hno : ∀ p, slabAt [⟨n, .free⟩] p = none := fun p => by
  simp only [slabAt]
  split <;> rfl
 refine ⟨?_, h0, fun p hp => ?_, fun p hp => ⟨vr p, h.ver p hp, h.bitN p hp (hno p)⟩, hB.cach, hB.item, fun i hi => ⟨bag i, (h.bagw i hi).1, (h.bagw i hi).2, (h.bagn i hi).1, (h.bagn i hi).2⟩⟩
 ·exact (Laid.at_ (L := []) (R := []) h.laid).1
 ·rw [(h.remw p hp).1, hB.rems p hp]; rfl
end
section
variable {n t : Nat} (hf : Small n t) {A : AS} {held : Nat -> Option HK}
include hf
theorem xgB {me : Nat} (hme : me < t) (hself : A.self = (me : Int)) (hi : HInv n t A (fun _ => none)) : Rn n t (Zl (xg n t)) A fun r A' =>
  r = 0 /\ HInv n t A' (fun _ => none) /\ WholeA n t A' /\ Fr srcR 70000000000 A A' := by
 obtain ⟨h0, S, mp, vr, rem, bag, pl, h⟩ := hi
 unfold Zl xhe Vi Vh
 rw [T.bind_assoc]
 refine Rn.run (XI hf hme hself) ?_
 simp only [cond_false]
 rw [T.bind_assoc]
 refine Rn.bind (xac hf (A := A) (o := 0) (by omega) hme hself h0 h) ?_
 rintro r A1 ⟨S1, mp1, vr1, rem1, k, hk, rfl, h1, hB, hl1, he1, hfr1⟩
 exact Rn.ret ⟨rfl, ⟨hl1, S1, mp1, vr1, rem1, bag, pl, h1⟩, xta h1 hB hf.n1 hl1, hfr1.mono (by simp) (by omega)⟩
end
end Go.Proofs.YtaegelbaghaooaaGreat
