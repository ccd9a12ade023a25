/- RenewError: blocks as two lists of numbers have them. -/
import Derived.Test.YtaegelbaghaooaaGreatErPRenew
import Derived.Test.YtaegelbaghaooaaGreatErPWhoT
import Derived.Test.YtaegelbaghaooaaGreatErPYes
import Derived.Test.YtaegelbaghaooaaGreatErM9
set_option linter.all false
namespace Go.Proofs.YtaegelbaghaooaaGreat
open Go Go.RowKit Lx
theorem jV {P : List Int} {v : Int} {j : Nat} (h : j < P.length) : getI (P ++ [v]) j = getI P j := by
 unfold getI
 rw [List.getD_eq_getElem?_getD, List.getD_eq_getElem?_getD, List.getElem?_append_left h]
theorem ZS {P : List Int} {v : Int} : getI (P ++ [v]) P.length = v := by
 unfold getI
 rw [List.getD_eq_getElem?_getD, List.getElem?_append_right (Nat.le_refl _), Nat.sub_self]; rfl
theorem ww {P : List Int} {v : Int} {k j : Nat} (hk : k < P.length) : getI (P.set k v) j = if j = k then v else getI P j := by
 unfold getI
 rw [List.getD_eq_getElem?_getD, List.getD_eq_getElem?_getD]
 by_cases h : j = k
 ·subst h; rw [List.getElem?_set_self hk, if_pos rfl]; rfl
 ·rw [List.getElem?_set_ne (Ne.symm h), if_neg h]
structure AN (i : Nat) (P N : List Int) (held : Nat -> Option HK) (live : Nat -> Option Nat) : Prop where
 len : N.length = P.length
 row : ∀ j, i <= j -> j < P.length -> ∃ (g : Nat) (x : HK) (z : Nat), getI P j = ((8 * g : Nat) : Int) /\ getI N j = (z : Int) /\ live g = some z /\ held g = some x /\ z <= 8 * x.ext
 all : ∀ g z, live g = some z -> ∃ j, i <= j /\ j < P.length /\ getI P j = ((8 * g : Nat) : Int)
 hl : ∀ g x, held g = some x -> ∃ z, live g = some z
 inj : ∀ j k, i <= j -> i <= k -> j < P.length -> k < P.length -> getI P j = getI P k -> j = k
theorem AN.hlh {i : Nat} {P N : List Int} {held : Nat -> Option HK} {live : Nat -> Option Nat} (h : AN i P N held live) : ∀ g z, live g = some z -> ∃ x, held g = some x /\ z <= 8 * x.ext := fun g z hg => by
 obtain ⟨j, h1, h2, h3⟩ := h.all g z hg
 obtain ⟨g', x, z', q1, _, q3, q4, q5⟩ := h.row j h1 h2
 obtain rfl : g' = g := by omega
 rw [hg] at q3; cases q3
 exact ⟨x, q4, q5⟩
theorem AN.nil {N : List Int} (hN : N = []) : AN 0 [] N (fun _ => none) (fun _ => none) := by
 subst hN
 exact ⟨rfl, (fun j _ h => absurd h (Nat.not_lt_zero _)), (fun _ _ h => by cases h), (fun _ _ h => by cases h), (fun _ _ _ _ h => absurd h (Nat.not_lt_zero _))⟩
theorem AN.add {P N : List Int} {held : Nat -> Option HK} {live : Nat -> Option Nat} (h : AN 0 P N held live) {g z : Nat} {x : HK} (hg : held g = none) (hz : z <= 8 * x.ext) : AN 0 (P ++ [((8 * g : Nat) : Int)]) (N ++ [(z : Int)]) (upd held g (some x)) (updS live g (some z)) := by
 have hlg : live g = none := by
  cases hl : live g with
  | none => rfl
  | some w => obtain ⟨x, hx, _⟩ := h.hlh g w hl; rw [hg] at hx; cases hx
 have hno : ∀ j, j < P.length -> getI P j ≠ ((8 * g : Nat) : Int) := fun j hj hh => by
  obtain ⟨g', x', z', q1, _, q3, _⟩ := h.row j (Nat.zero_le _) hj
  obtain rfl : g' = g := by omega
  rw [hlg] at q3; cases q3
 refine ⟨by rw [List.length_append, List.length_append, h.len]; rfl, fun j _ hj => ?_, fun q w hq => ?_, fun q y hq => ?_, fun j k _ _ hj hk he => ?_⟩
 ·rw [List.length_append, List.length_singleton] at hj
  by_cases hjl : j < P.length
  ·obtain ⟨g', x', z', q1, q2, q3, q4, q5⟩ := h.row j (Nat.zero_le _) hjl
   have hne : g' ≠ g := fun hh => by rw [hh, hlg] at q3; cases q3
   exact ⟨g', x', z', by rw [jV hjl, q1], by rw [jV (by rw [h.len]; exact hjl), q2], by rw [yh _ _ hne, q3], by rw [upd_ne _ _ hne, q4], q5⟩
  ·obtain rfl : j = P.length := by omega
   exact ⟨g, x, z, ZS, by rw [<- h.len]; exact ZS, yI _ _ _, xD _ _ _, hz⟩
 ·by_cases hqg : q = g
  ·subst hqg
   exact ⟨P.length, Nat.zero_le _, by rw [List.length_append, List.length_singleton]; omega, ZS⟩
  ·rw [yh _ _ hqg] at hq
   obtain ⟨j, h1, h2, h3⟩ := h.all q w hq
   exact ⟨j, h1, by rw [List.length_append, List.length_singleton]; omega, by rw [jV h2, h3]⟩
 ·by_cases hqg : q = g
  ·subst hqg; exact ⟨z, yI _ _ _⟩
  ·rw [upd_ne _ _ hqg] at hq
   obtain ⟨w, hw⟩ := h.hl q y hq
   exact ⟨w, by rw [yh _ _ hqg, hw]⟩
 ·rw [List.length_append, List.length_singleton] at hj hk
  by_cases hjl : j < P.length
  ·rw [jV hjl] at he
   by_cases hkl : k < P.length
   ·rw [jV hkl] at he; exact h.inj j k (Nat.zero_le _) (Nat.zero_le _) hjl hkl he
   ·obtain rfl : k = P.length := by omega
    rw [ZS] at he; exact absurd he (hno j hjl)
  ·obtain rfl : j = P.length := by omega
   rw [ZS] at he
   by_cases hkl : k < P.length
   ·rw [jV hkl] at he; exact absurd he.symm (hno k hkl)
   ·omega
theorem AN.stay {P N : List Int} {held : Nat -> Option HK} {live : Nat -> Option Nat} (h : AN 0 P N held live) {k g s : Nat} {x : HK} (hk : k < P.length) (hp : getI P k = ((8 * g : Nat) : Int)) (hg : held g = some x) (hs : s <= 8 * x.ext) : AN 0 (P.set k ((8 * g : Nat) : Int)) (N.set k (s : Int)) held (updS live g (some s)) := by
 have hP : ∀ j, getI (P.set k ((8 * g : Nat) : Int)) j = getI P j := fun j => by
  rw [ww hk]; split
  ·rename_i hj; rw [hj, hp]
  ·rfl
 have hkN : k < N.length := by rw [h.len]; exact hk
 refine ⟨by rw [List.length_set, List.length_set, h.len], fun j _ hj => ?_, fun q w hq => ?_, fun q y hq => ?_, fun j m _ _ hj hm he => ?_⟩
 ·rw [List.length_set] at hj
  rw [hP, ww hkN]
  obtain ⟨g', x', z', q1, q2, q3, q4, q5⟩ := h.row j (Nat.zero_le _) hj
  by_cases hjk : j = k
  ·subst hjk
   obtain rfl : g' = g := by omega
   exact ⟨g', x, s, q1, if_pos rfl, yI _ _ _, hg, hs⟩
  ·have hne : g' ≠ g := fun hh => hjk (h.inj j k (Nat.zero_le _) (Nat.zero_le _) hj hk (by rw [q1, hp, hh]))
   exact ⟨g', x', z', q1, by rw [if_neg hjk, q2], by rw [yh _ _ hne, q3], q4, q5⟩
 ·by_cases hqg : q = g
  ·subst hqg; exact ⟨k, Nat.zero_le _, by rw [List.length_set]; exact hk, by rw [hP, hp]⟩
  ·rw [yh _ _ hqg] at hq
   obtain ⟨j, h1, h2, h3⟩ := h.all q w hq
   exact ⟨j, h1, by rw [List.length_set]; exact h2, by rw [hP, h3]⟩
 ·by_cases hqg : q = g
  ·subst hqg; exact ⟨s, yI _ _ _⟩
  ·obtain ⟨w, hw⟩ := h.hl q y hq
   exact ⟨w, by rw [yh _ _ hqg, hw]⟩
 ·rw [List.length_set] at hj hm
  rw [hP, hP] at he
  exact h.inj j m (Nat.zero_le _) (Nat.zero_le _) hj hm he
theorem AN.go {P N : List Int} {held : Nat -> Option HK} {live : Nat -> Option Nat} (h : AN 0 P N held live) {k g g' s : Nat} {y : HK} (hk : k < P.length) (hp : getI P k = ((8 * g : Nat) : Int)) (hg' : held g' = none) (hne : g' ≠ g) (hs : s <= 8 * y.ext) : AN 0 (P.set k ((8 * g' : Nat) : Int)) (N.set k (s : Int)) (upd (upd held g' (some y)) g none) (updS (updS live g' (some s)) g none) := by
 have hlg' : live g' = none := by
  cases hl : live g' with
  | none => rfl
  | some w => obtain ⟨x, hx, _⟩ := h.hlh g' w hl; rw [hg'] at hx; cases hx
 have hkN : k < N.length := by rw [h.len]; exact hk
 refine ⟨by rw [List.length_set, List.length_set, h.len], fun j _ hj => ?_, fun q w hq => ?_, fun q x hq => ?_, fun j m _ _ hj hm he => ?_⟩
 ·rw [List.length_set] at hj
  rw [ww hk, ww hkN]
  by_cases hjk : j = k
  ·exact ⟨g', y, s, if_pos hjk, if_pos hjk, by rw [yh _ _ hne, yI], by rw [upd_ne _ _ hne, xD], hs⟩
  ·obtain ⟨q, x, z, q1, q2, q3, q4, q5⟩ := h.row j (Nat.zero_le _) hj
   have n1 : q ≠ g := fun hh => hjk (h.inj j k (Nat.zero_le _) (Nat.zero_le _) hj hk (by rw [q1, hp, hh]))
   have n2 : q ≠ g' := fun hh => by rw [hh, hlg'] at q3; cases q3
   exact ⟨q, x, z, by rw [if_neg hjk, q1], by rw [if_neg hjk, q2], by rw [yh _ _ n1, yh _ _ n2, q3], by rw [upd_ne _ _ n1, upd_ne _ _ n2, q4], q5⟩
 ·by_cases n1 : q = g
  ·subst n1; rw [yI] at hq; cases hq
  ·rw [yh _ _ n1] at hq
   by_cases n2 : q = g'
   ·exact ⟨k, Nat.zero_le _, by rw [List.length_set]; exact hk, by rw [ww hk, if_pos rfl, n2]⟩
   ·rw [yh _ _ n2] at hq
    obtain ⟨j, h1, h2, h3⟩ := h.all q w hq
    have hjk : j ≠ k := fun hh => n1 (by rw [hh, hp] at h3; omega)
    exact ⟨j, h1, by rw [List.length_set]; exact h2, by rw [ww hk, if_neg hjk, h3]⟩
 ·by_cases n1 : q = g
  ·subst n1; rw [xD] at hq; cases hq
  ·rw [upd_ne _ _ n1] at hq
   by_cases n2 : q = g'
   ·exact ⟨s, by rw [yh _ _ n1, n2, yI]⟩
   ·rw [upd_ne _ _ n2] at hq
    obtain ⟨w, hw⟩ := h.hl q x hq
    exact ⟨w, by rw [yh _ _ n1, yh _ _ n2, hw]⟩
 ·rw [List.length_set] at hj hm
  rw [ww hk, ww hk] at he
  have other : ∀ j, j < P.length -> j ≠ k -> getI P j ≠ ((8 * g' : Nat) : Int) := fun j hj hjk hh => by
   obtain ⟨q, x, z, q1, _, q3, _⟩ := h.row j (Nat.zero_le _) hj
   obtain rfl : q = g' := by omega
   rw [hlg'] at q3; cases q3
  by_cases hjk : j = k
  ·by_cases hmk : m = k
   ·omega
   ·rw [if_pos hjk, if_neg hmk] at he; exact absurd he.symm (other m hm hmk)
  ·by_cases hmk : m = k
   ·rw [if_neg hjk, if_pos hmk] at he; exact absurd he (other j hj hjk)
   ·rw [if_neg hjk, if_neg hmk] at he; exact h.inj j m (Nat.zero_le _) (Nat.zero_le _) hj hm he
theorem AN.free {i : Nat} {P N : List Int} {held : Nat -> Option HK} {live : Nat -> Option Nat} (h : AN i P N held live) {g : Nat} (hi : i < P.length) (hp : getI P i = ((8 * g : Nat) : Int)) : AN (i + 1) P N (upd held g none) (updS live g none) := by
 refine ⟨h.len, fun j h1 hj => ?_, fun q w hq => ?_, fun q x hq => ?_, fun j m h1 h2 hj hm he => h.inj j m (by omega) (by omega) hj hm he⟩
 ·obtain ⟨q, x, z, q1, q2, q3, q4, q5⟩ := h.row j (by omega) hj
  have n1 : q ≠ g := fun hh => by have := h.inj j i (by omega) (Nat.le_refl _) hj hi (by rw [q1, hp, hh]); omega
  exact ⟨q, x, z, q1, q2, by rw [yh _ _ n1, q3], by rw [upd_ne _ _ n1, q4], q5⟩
 ·by_cases n1 : q = g
  ·subst n1; rw [yI] at hq; cases hq
  ·rw [yh _ _ n1] at hq
   obtain ⟨j, h1, h2, h3⟩ := h.all q w hq
   have : j ≠ i := fun hh => n1 (by rw [hh, hp] at h3; omega)
   exact ⟨j, by omega, h2, h3⟩
 ·by_cases n1 : q = g
  ·subst n1; rw [xD] at hq; cases hq
  ·rw [upd_ne _ _ n1] at hq
   obtain ⟨w, hw⟩ := h.hl q x hq
   exact ⟨w, by rw [yh _ _ n1, hw]⟩
theorem AN.end {P N : List Int} {held : Nat -> Option HK} {live : Nat -> Option Nat} (h : AN P.length P N held live) : held = fun _ => none := by
 funext g
 cases hg : held g with
 | none => rfl
 | some x =>
  obtain ⟨z, hz⟩ := h.hl g x hg
  obtain ⟨j, h1, h2, _⟩ := h.all g z hz
  omega
end Go.Proofs.YtaegelbaghaooaaGreat
