/- Loops by summaries: a loop that is known is not unrolled. -/
import Derived.Test.YtaegelbaghaooaaGreatLxFunc
import Derived.WalkKit
namespace Go.Proofs.YtaegelbaghaooaaGreat.Lx
open Go
set_option linter.unusedVariables false

/-- rounds of a body over letters. -/
def loopB {ι β : Type} : Nat → (ι → (ι → T β) → T β) → ι → T β
  | 0, _, _ => .fail
  | n + 1, B, i => B i fun i' => loopB n B i'
theorem loop_eq {ι β : Type} {F : St → (St → T β) → T β} {S : ι → St} {B : ι → (ι → T β) → T β} (h : ∀ i k, F (S i) k = B i fun i' => k (S i')) : ∀ (n : Nat) (i : ι), loopN n F (S i) = loopB n B i
  | 0, _ => rfl
  | n + 1, i => by
    rw [loopN, loopB, h]
    congr 1
    funext i'
    exact loop_eq h n i'
theorem loopB_bind {ι β γ : Type} {B : ι → (ι → T β) → T β} {B' : ι → (ι → T γ) → T γ} (κ : β → T γ) (h : ∀ i k, (B i k).bind κ = B' i fun i' => (k i').bind κ) : ∀ (n : Nat) (i : ι), (loopB n B i).bind κ = loopB n B' i
  | 0, _ => rfl
  | n + 1, i => by
    rw [loopB, loopB, h]
    congr 1
    funext i'
    exact loopB_bind κ h n i'

/-- one round of a loop. -/
def loopF {β : Type} (P : Program) (Γ : Known) (n m0 : Nat) (c : Code) (lv : Nat) (K : Ex → St → T β) (st : St) (k : St → T β) : T β :=
  ev P Γ n m0 c (lv ||| (ue c).1) st fun e st' => match e with
    | .normal => match norm m0 (lv ||| (ue c).1) st' with
      | some st2 => k st2
      | none => .fail
    | .exit i => match norm m0 lv st' with
      | some st2 => K (.exit i) st2
      | none => .fail
    | .ret => match norm m0 lv st' with
      | some st2 => K .ret st2
      | none => .fail

abbrev R := V × Heap
/-- what is known of the loops of a code. -/
inductive LS where
  | no
  | two (a b : LS)
  | loop (f : St → (Ex → St → T R) → Option (T R)) (a : LS)
/-- as ev, with loops that are known. -/
def ev2 (P : Program) (Γ : Known) (n m0 : Nat) : LS → Code → Nat → St → (Ex → St → T R) → T R
  | .two x y, .seq a b, lv, st, K => ev2 P Γ n m0 x a (lv ||| (ue b).1) st fun e st' => match e with
    | .normal => ev2 P Γ n m0 y b lv st' K
    | .exit i => K (.exit i) st'
    | .ret => K .ret st'
  | .two x y, .cond c a b, lv, st, K => match evalO st.tmps c with
    | some (.c (.bool t)) => cond t (ev2 P Γ n m0 x a lv ⟨refine st.tmps c true, st.heap⟩ K) (ev2 P Γ n m0 y b lv ⟨refine st.tmps c false, st.heap⟩ K)
    | _ => .fail
  | .two x _, .block id c, lv, st, K => ev2 P Γ n m0 x c lv st fun e st' => match e with
    | .normal => K .normal st'
    | .exit i => if i = id then K .normal st' else K (.exit i) st'
    | .ret => K .ret st'
  | .two x _, .scope c, lv, st, K => ev2 P Γ n m0 x c lv st K
  | .loop f x, .loop c, lv, st, K => match norm m0 (lv ||| (ue c).1) st with
    | some st1 => match f st1 K with
      | some t => t
      | none => loopN n (fun st k => ev2 P Γ n m0 x c (lv ||| (ue c).1) st fun e st' => match e with
        | .normal => match norm m0 (lv ||| (ue c).1) st' with
          | some st2 => k st2
          | none => .fail
        | .exit i => match norm m0 lv st' with
          | some st2 => K (.exit i) st2
          | none => .fail
        | .ret => match norm m0 lv st' with
          | some st2 => K .ret st2
          | none => .fail) st1
    | none => .fail
  | _, c, lv, st, K => ev P Γ n m0 c lv st K
/-- one round, with inner loops that are known. -/
def loopF2 (P : Program) (Γ : Known) (n m0 : Nat) (x : LS) (c : Code) (lv : Nat) (K : Ex → St → T R) (st : St) (k : St → T R) : T R :=
  ev2 P Γ n m0 x c (lv ||| (ue c).1) st fun e st' => match e with
    | .normal => match norm m0 (lv ||| (ue c).1) st' with
      | some st2 => k st2
      | none => .fail
    | .exit i => match norm m0 lv st' with
      | some st2 => K (.exit i) st2
      | none => .fail
    | .ret => match norm m0 lv st' with
      | some st2 => K .ret st2
      | none => .fail
/-- all that is told of the loops is so. -/
def Good (P : Program) (Γ : Known) (n m0 : Nat) : LS → Code → Nat → Prop
  | .two x y, .seq a b, lv => Good P Γ n m0 x a (lv ||| (ue b).1) ∧ Good P Γ n m0 y b lv
  | .two x y, .cond _ a b, lv => Good P Γ n m0 x a lv ∧ Good P Γ n m0 y b lv
  | .two x _, .block _ c, lv => Good P Γ n m0 x c lv
  | .two x _, .scope c, lv => Good P Γ n m0 x c lv
  | .loop f x, .loop c, lv => Good P Γ n m0 x c (lv ||| (ue c).1) ∧ ∀ st K t, f st K = some t → loopN n (loopF2 P Γ n m0 x c lv K) st = t
  | _, _, _ => True
theorem ev2_eq {P : Program} {Γ : Known} {n m0 : Nat} : ∀ (x : LS) (c : Code) (lv : Nat), Good P Γ n m0 x c lv → ∀ (st : St) (K : Ex → St → T R), ev2 P Γ n m0 x c lv st K = ev P Γ n m0 c lv st K := by
  intro x
  induction x with
  | no => intro c lv _ st K; simp only [ev2]
  | two x y hx hy =>
    intro c lv hg st K
    cases c with
    | seq a b =>
      simp only [Good] at hg
      simp only [ev2, ev]
      rw [hx a _ hg.1]
      congr 1
      funext e st'
      cases e with
      | normal => exact hy b lv hg.2 st' K
      | exit i => rfl
      | ret => rfl
    | cond c a b =>
      simp only [Good] at hg
      simp only [ev2, ev, hx a _ hg.1, hy b _ hg.2]
      rfl
    | block id c =>
      simp only [Good] at hg
      simp only [ev2, ev]
      rw [hx c _ hg]
      rfl
    | scope c =>
      simp only [Good] at hg
      simp only [ev2, ev]
      rw [hx c _ hg]
    | _ => simp only [ev2]
  | loop f x hx =>
    intro c lv hg st K
    cases c with
    | loop c =>
      simp only [Good] at hg
      simp only [ev2, ev]
      cases hn : norm m0 (lv ||| (ue c).1) st with
      | none => rfl
      | some st1 =>
        simp only
        cases ht : f st1 K with
        | none =>
          simp only [hx c _ hg.1]
          rfl
        | some t =>
          simp only
          rw [← hg.2 st1 K t ht]
          have : loopF2 P Γ n m0 x c lv K = loopF P Γ n m0 c lv K := by
            funext st k
            simp only [loopF2, loopF]
            rw [hx c _ hg.1]
          rw [this]
          rfl
    | _ => simp only [ev2]
def evF2 (P : Program) (Γ : Known) (n : Nat) (x : LS) (fn : Func) (args : List V) (H : Heap) : T (V × Heap) :=
  match fn.body with
  | some c => ev2 P Γ n H.length x c (resMask fn.results.toList) ⟨begun fn args, H⟩ (endF P fn H.length)
  | none => .fail
theorem evF2_eq {P : Program} {Γ : Known} {n : Nat} {x : LS} {fn : Func} {args : List V} {H : Heap} {c : Code} (hc : fn.body = some c) (hg : Good P Γ n H.length x c (resMask fn.results.toList)) : evF2 P Γ n x fn args H = evF P Γ n fn args H := by
  unfold evF2 evF
  rw [hc]
  exact ev2_eq _ _ _ hg _ _
/-! ### where the loops of a function lie -/
def lookP : List Nat → Code → Nat → Option (Code × Nat)
  | [], .loop c, lv => some (c, lv)
  | 0 :: p, .seq a b, lv => lookP p a (lv ||| (ue b).1)
  | _ :: p, .seq _ b, lv => lookP p b lv
  | 0 :: p, .cond _ a _, lv => lookP p a lv
  | _ :: p, .cond _ _ b, lv => lookP p b lv
  | _ :: p, .block _ c, lv => lookP p c lv
  | _ :: p, .scope c, lv => lookP p c lv
  | _ :: p, .loop c, lv => lookP p c (lv ||| (ue c).1)
  | _, _, _ => none
def pathsL : Code → List (List Nat)
  | .loop c => [] :: (pathsL c).map (0 :: ·)
  | .seq a b => (pathsL a).map (0 :: ·) ++ (pathsL b).map (1 :: ·)
  | .cond _ a b => (pathsL a).map (0 :: ·) ++ (pathsL b).map (1 :: ·)
  | .block _ c => (pathsL c).map (0 :: ·)
  | .scope c => (pathsL c).map (0 :: ·)
  | _ => []
def loopsOf (fn : Func) : List (List Nat) := match fn.body with
  | some c => pathsL c
  | none => []
def loopC (p : List Nat) (fn : Func) : Code := match fn.body with
  | some c => match lookP p c (resMask fn.results.toList) with
    | some r => r.1
    | none => .skip
  | none => .skip
def loopV (p : List Nat) (fn : Func) : Nat := match fn.body with
  | some c => match lookP p c (resMask fn.results.toList) with
    | some r => r.2
    | none => 0
  | none => 0
/-- one loop that is known. -/
def lsAt (f : St → (Ex → St → T R) → Option (T R)) (x : LS) : List Nat → LS
  | [] => .loop f x
  | 0 :: p => .two (lsAt f x p) .no
  | _ :: p => .two .no (lsAt f x p)
theorem good_no {P : Program} {Γ : Known} {n m0 : Nat} {c : Code} {lv : Nat} : Good P Γ n m0 .no c lv := by unfold Good; trivial
theorem good_at {P : Program} {Γ : Known} {n m0 : Nat} {f : St → (Ex → St → T R) → Option (T R)} {x : LS} : ∀ (p : List Nat) (c : Code) (lv : Nat),
    (∀ c' lv', lookP p c lv = some (c', lv') → Good P Γ n m0 x c' (lv' ||| (ue c').1) ∧ ∀ st K t, f st K = some t → loopN n (loopF2 P Γ n m0 x c' lv' K) st = t) → Good P Γ n m0 (lsAt f x p) c lv := by
  intro p
  induction p with
  | nil =>
    intro c lv h
    cases c with
    | loop c => simp only [lsAt, Good]; exact h c lv rfl
    | _ => simp only [lsAt, Good]
  | cons a p ih =>
    intro c lv h
    cases a with
    | zero =>
      cases c with
      | seq a b => simp only [lsAt, Good]; exact ⟨ih a _ fun c' lv' hl => h c' lv' hl, trivial⟩
      | cond c a b => simp only [lsAt, Good]; exact ⟨ih a _ fun c' lv' hl => h c' lv' hl, trivial⟩
      | block id c => simp only [lsAt, Good]; exact ih c _ fun c' lv' hl => h c' lv' hl
      | scope c => simp only [lsAt, Good]; exact ih c _ fun c' lv' hl => h c' lv' hl
      | _ => simp only [lsAt, Good]
    | succ a =>
      cases c with
      | seq a b => simp only [lsAt, Good]; exact ⟨trivial, ih b _ fun c' lv' hl => h c' lv' hl⟩
      | cond c a b => simp only [lsAt, Good]; exact ⟨trivial, ih b _ fun c' lv' hl => h c' lv' hl⟩
      | block id c => simp only [lsAt, Good]
      | scope c => simp only [lsAt, Good]
      | _ => simp only [lsAt, Good]
theorem good_fn {P : Program} {Γ : Known} {n m0 : Nat} {f : St → (Ex → St → T R) → Option (T R)} {x : LS} {p : List Nat} {fn : Func} {c : Code} (hc : fn.body = some c) (h : Good P Γ n m0 x (loopC p fn) (loopV p fn ||| (ue (loopC p fn)).1))
    (hl : ∀ st K t, f st K = some t → loopN n (loopF2 P Γ n m0 x (loopC p fn) (loopV p fn) K) st = t) : Good P Γ n m0 (lsAt f x p) c (resMask fn.results.toList) := by
  refine good_at p c _ fun c' lv' he => ?_
  have h1 : loopC p fn = c' := by simp only [loopC, hc, he]
  have h2 : loopV p fn = lv' := by simp only [loopV, hc, he]
  subst h1; subst h2
  exact ⟨h, hl⟩
theorem lookP_in (q : List Nat) : ∀ (p : List Nat) (c : Code) (lv : Nat) (c' : Code) (lv' : Nat), lookP p c lv = some (c', lv') → lookP (p ++ 0 :: q) c lv = lookP q c' (lv' ||| (ue c').1) := by
  intro p
  induction p with
  | nil =>
    intro c lv c' lv' h
    cases c <;> simp only [lookP] at h <;> (try cases h)
    rfl
  | cons a p ih =>
    intro c lv c' lv' h
    cases a with
    | zero => cases c <;> simp only [lookP] at h <;> (try cases h) <;> exact ih _ _ _ _ h
    | succ a => cases c <;> simp only [lookP] at h <;> (try cases h) <;> exact ih _ _ _ _ h
theorem good_in {P : Program} {Γ : Known} {n m0 : Nat} {f : St → (Ex → St → T R) → Option (T R)} {x : LS} {p q : List Nat} {fn : Func} {c : Code} (hc : fn.body = some c) (h : Good P Γ n m0 x (loopC (p ++ 0 :: q) fn) (loopV (p ++ 0 :: q) fn ||| (ue (loopC (p ++ 0 :: q) fn)).1))
    (hl : ∀ st K t, f st K = some t → loopN n (loopF2 P Γ n m0 x (loopC (p ++ 0 :: q) fn) (loopV (p ++ 0 :: q) fn) K) st = t) (hp : (lookP p c (resMask fn.results.toList)).isSome = true) : Good P Γ n m0 (lsAt f x q) (loopC p fn) (loopV p fn ||| (ue (loopC p fn)).1) := by
  refine good_at q _ _ fun c' lv' he => ?_
  cases hq : lookP p c (resMask fn.results.toList) with
  | none => rw [hq] at hp; cases hp
  | some r =>
    have h1 : loopC p fn = r.1 := by simp only [loopC, hc, hq]
    have h2 : loopV p fn = r.2 := by simp only [loopV, hc, hq]
    have h3 := lookP_in q p c _ r.1 r.2 hq
    rw [h1, h2] at he
    have h4 : loopC (p ++ 0 :: q) fn = c' := by simp only [loopC, hc, h3, he]
    have h5 : loopV (p ++ 0 :: q) fn = lv' := by simp only [loopV, hc, h3, he]
    subst h4; subst h5
    exact ⟨h, hl⟩
/-- enough rounds. -/
def fuelN : Nat := 4096
/-- a geometry at the front of a row of cells (the tool's). -/
theorem body_eq {fn : Func} (h : fn.body.isSome = true) : fn.body = some (fn.body.getD .skip) := by
  cases hb : fn.body with
  | none => rw [hb] at h; cases h
  | some c => rfl
end Go.Proofs.YtaegelbaghaooaaGreat.Lx
