/- States that say the same of all words; what is had in an empty heap, and had again. -/
import Derived.Test.YtaegelbaghaooaaGreatArM9
set_option linter.unusedSimpArgs false
set_option linter.unusedVariables false
namespace Go.Proofs.YtaegelbaghaooaaGreat
open Go Go.RowKit Lx
set_option linter.unusedVariables false
set_option linter.unusedSectionVars false
set_option maxRecDepth 1000000
structure Vd (n t : Nat) (A B : AS) : Prop where
  w : ∀ r i, r < 19 → i < Zr n t r → B.w r i = A.w r i
  b : B.b = A.b
  self : B.self = A.self
  steps : B.steps = A.steps
  told : B.told = A.told
theorem Vd.tick {n t : Nat} {A B : AS} (h : Vd n t A B) : Vd n t A.tick B.tick := ⟨h.w, h.b, h.self, by simp only [AS.tick, h.steps], h.told⟩
theorem Vd.set {n t : Nat} {A B : AS} (h : Vd n t A B) (r i : Nat) (v : Int) : Vd n t (A.set r i v) (B.set r i v) := by
  refine ⟨fun q j hq hj => ?_, h.b, h.self, h.steps, h.told⟩
  simp only [AS.set]
  split
  · rfl
  · exact h.w q j hq hj
theorem step_vd {n t : Nat} {A B : AS} (h : Vd n t A B) (o : POp) (c : o.Ans) {A' : AS} (hs : astep n t o A = some (c, A')) : ∃ B', astep n t o B = some (c, B') ∧ Vd n t A' B' := by
  cases o with
  | load a =>
    simp only [astep] at hs ⊢
    split at hs
    · rename_i r i hd
      obtain ⟨h1, h2, _⟩ := dec_inv _ hd
      rw [h.w r i h1 h2]
      cases hs
      exact ⟨_, rfl, h.tick⟩
    · cases hs; exact ⟨_, rfl, h.tick⟩
  | store a v =>
    simp only [astep] at hs ⊢
    split at hs
    · cases hs; exact ⟨_, rfl, (h.set _ _ _).tick⟩
    · cases hs; exact ⟨_, rfl, h.tick⟩
  | cas a x y =>
    simp only [astep] at hs ⊢
    split at hs
    · rename_i r i hd
      obtain ⟨h1, h2, _⟩ := dec_inv _ hd
      rw [h.w r i h1 h2]
      split at hs
      · rename_i hc; cases hs; rw [if_pos hc]; exact ⟨_, rfl, (h.set _ _ _).tick⟩
      · rename_i hc; cases hs; rw [if_neg hc]; exact ⟨_, rfl, h.tick⟩
    · cases hs; exact ⟨_, rfl, h.tick⟩
  | add a d =>
    simp only [astep] at hs ⊢
    split at hs
    · rename_i r i hd
      obtain ⟨h1, h2, _⟩ := dec_inv _ hd
      rw [h.w r i h1 h2]
      cases hs
      exact ⟨_, rfl, (h.set _ _ _).tick⟩
    · cases hs; exact ⟨_, rfl, h.tick⟩
  | get a =>
    simp only [astep, h.b] at hs ⊢
    split at hs
    · split at hs
      · rename_i hc; cases hs; rw [if_pos hc]; exact ⟨_, rfl, h.tick⟩
      · cases hs
    · cases hs; exact ⟨_, rfl, h.tick⟩
  | put a b =>
    simp only [astep, h.b] at hs ⊢
    split at hs
    · rename_i hc; cases hs; rw [if_pos hc]; exact ⟨_, rfl, ⟨h.w, rfl, h.self, by simp only [AS.tick, h.steps], h.told⟩⟩
    · cases hs
  | self => simp only [astep] at hs ⊢; cases hs; exact ⟨_, by rw [h.self], h⟩
  | steps => simp only [astep] at hs ⊢; cases hs; exact ⟨_, by rw [h.steps], h⟩
  | tell r => simp only [astep] at hs ⊢; cases hs; exact ⟨_, rfl, ⟨h.w, h.b, h.self, h.steps, rfl⟩⟩
theorem run_vd {n t : Nat} {α : Type} : ∀ (q : T α) {A A' B : AS} {a : α}, Vd n t A B → q.run (astep n t) A = some (a, A') → ∃ B', q.run (astep n t) B = some (a, B') ∧ Vd n t A' B'
  | .ret a, A, A', B, x, h, hr => by cases hr; exact ⟨B, rfl, h⟩
  | .fail, A, A', B, x, h, hr => by cases hr
  | .op o k, A, A', B, x, h, hr => by
    simp only [T.run] at hr ⊢
    split at hr
    · rename_i c A1 hc
      obtain ⟨B1, h1, h2⟩ := step_vd h o c hc
      rw [h1]
      exact run_vd (k c) h2 hr
    · cases hr
def wE (n t : Nat) (r i : Nat) : Int :=
 bif Nat.beq r 7 then (bif Nat.beq i 0 then pw 1 n 0 0 else bif Nat.blt 1 n && Nat.beq i (n - 1) then pw 2 n 0 0 else 0)
 else bif Nat.beq r 3 then (bif Nat.beq (lg n) i then 1 else 0)
 else bif Nat.beq r 4 then 1
 else bif Nat.beq r 17 then (bif Nat.beq (i + 1) (nodesN n t) then 0 else ((i + 2 : Nat) : Int))
 else 0
def mixW (u w : Nat → Nat → Int) (r i : Nat) : Int := bif Nat.beq r 6 || Nat.beq r 11 then u r i else w r i
def again (n : Nat) (q : T (Int × Int)) (e : Int) (u u' : Nat → Nat → Int) (b b1 b2 : List Int) (s s1 s2 : Nat) (d d1 d2 : Option (List C)) : Bool :=
  match q.run (astep n 2) ⟨wE n 2, b, 0, s, d⟩ with
  | some ((k, x), A1) => k == 0 && x == e && match (releaseT (mkGeo n 2) 0).run (astep n 2) ⟨mixW u A1.w, b1, 1, s1, d1⟩ with
    | some (_, A2) => match q.run (astep n 2) ⟨mixW u' A2.w, b2, 0, s2, d2⟩ with
      | some ((k', x'), _) => k' == 0 && x' == e
      | none => false
    | none => false
  | none => false
theorem again_blk (u u' : Nat → Nat → Int) (b b1 b2 : List Int) (s s1 s2 : Nat) (d d1 d2 : Option (List C)) : ((List.range 8).all fun n => (List.range 4).all fun c => again (n + 1) (obtainT (mkGeo (n + 1) 2) (c : Int)) 0 u u' b b1 b2 s s1 s2 d d1 d2) = true := by kernel_rfl
theorem again_run (u u' : Nat → Nat → Int) (b b1 b2 : List Int) (s s1 s2 : Nat) (d d1 d2 : Option (List C)) : ((List.range 8).all fun n => (List.range (n + 1)).all fun k => ([1, 2, 4, 8] : List Nat).all fun a => again (n + 1) (pagesT (mkGeo (n + 1) 2) ((k + 1 : Nat) : Int) (a : Int)) 0 u u' b b1 b2 s s1 s2 d d1 d2) = true := by kernel_rfl
theorem again_spec {n : Nat} {q : T (Int × Int)} {e : Int} {u u' : Nat → Nat → Int} {b b1 b2 : List Int} {s s1 s2 : Nat} {d d1 d2 : Option (List C)} (h : again n q e u u' b b1 b2 s s1 s2 d d1 d2 = true) :
    ∃ A1, q.run (astep n 2) ⟨wE n 2, b, 0, s, d⟩ = some ((0, e), A1) ∧ ∃ x A2, (releaseT (mkGeo n 2) 0).run (astep n 2) ⟨mixW u A1.w, b1, 1, s1, d1⟩ = some (x, A2) ∧ ∃ A3, q.run (astep n 2) ⟨mixW u' A2.w, b2, 0, s2, d2⟩ = some ((0, e), A3) := by
  unfold again at h
  split at h
  · rename_i k x A1 h1
    simp only [Bool.and_eq_true, beq_iff_eq] at h
    obtain ⟨⟨rfl, rfl⟩, h⟩ := h
    split at h
    · rename_i y A2 h2
      split at h
      · rename_i k' x' A3 h3
        simp only [Bool.and_eq_true, beq_iff_eq] at h
        obtain ⟨rfl, rfl⟩ := h
        exact ⟨A1, h1, y, A2, h2, A3, h3⟩
      · cases h
    · cases h
  · cases h
theorem again_use {n : Nat} {q : T (Int × Int)} (AG : ∀ u u' b b1 b2 s s1 s2 d d1 d2, again n q 0 u u' b b1 b2 s s1 s2 d d1 d2 = true) {E : AS} (hs : E.self = 0) (hE : ∀ r i, r < 19 → i < Zr n 2 r → E.w r i = wE n 2 r i) :
    ∃ A1, q.run (astep n 2) E = some ((0, 0), A1) ∧ ∀ B : AS, B.self = 1 → (∀ r i, r < 19 → i < Zr n 2 r → r ≠ 6 → r ≠ 11 → B.w r i = A1.w r i) →
      ∃ x B1, (releaseT (mkGeo n 2) 0).run (astep n 2) B = some (x, B1) ∧ ∀ C : AS, C.self = 0 → (∀ r i, r < 19 → i < Zr n 2 r → r ≠ 6 → r ≠ 11 → C.w r i = B1.w r i) → ∃ C1, q.run (astep n 2) C = some ((0, 0), C1) := by
  have mix : ∀ (u w : Nat → Nat → Int) (r i : Nat), (r = 6 ∨ r = 11 → mixW u w r i = u r i) ∧ (r ≠ 6 → r ≠ 11 → mixW u w r i = w r i) := by
    intro u w r i
    unfold mixW
    constructor
    · rintro (rfl | rfl) <;> rfl
    · intro h6 h11
      have e6 : Nat.beq r 6 = false := by cases h : Nat.beq r 6 with | false => rfl | true => exact absurd (Nat.eq_of_beq_eq_true h) h6
      have e11 : Nat.beq r 11 = false := by cases h : Nat.beq r 11 with | false => rfl | true => exact absurd (Nat.eq_of_beq_eq_true h) h11
      rw [e6, e11]; rfl
  obtain ⟨A1v, h1, _⟩ := again_spec (AG (fun _ _ => 0) (fun _ _ => 0) E.b [] [] E.steps 0 0 E.told none none)
  obtain ⟨A1, g1, v1⟩ := run_vd q (A := ⟨wE n 2, E.b, 0, E.steps, E.told⟩) (B := E) ⟨hE, rfl, hs, rfl, rfl⟩ h1
  refine ⟨A1, g1, fun B hBs hB => ?_⟩
  obtain ⟨A1w, h2, x, A2v, h3, _⟩ := again_spec (AG B.w (fun _ _ => 0) E.b B.b [] E.steps B.steps 0 E.told B.told none)
  rw [h1] at h2
  cases h2
  obtain ⟨B1, g2, v2⟩ := run_vd _ (A := ⟨mixW B.w A1v.w, B.b, 1, B.steps, B.told⟩) (B := B) ⟨fun r i hr hi => by
    by_cases h6 : r = 6 ∨ r = 11
    · exact ((mix B.w A1v.w r i).1 h6).symm
    · show B.w r i = mixW B.w A1v.w r i
      rw [(mix B.w A1v.w r i).2 (fun h => h6 (.inl h)) (fun h => h6 (.inr h)), ← v1.w r i hr hi]
      exact hB r i hr hi (fun h => h6 (.inl h)) (fun h => h6 (.inr h)), rfl, hBs, rfl, rfl⟩ h3
  refine ⟨x, B1, g2, fun C hCs hC => ?_⟩
  obtain ⟨A1w, h4, x', A2w, h5, A3v, h6⟩ := again_spec (AG B.w C.w E.b B.b C.b E.steps B.steps C.steps E.told B.told C.told)
  rw [h1] at h4
  cases h4
  rw [h3] at h5
  cases h5
  obtain ⟨C1, g3, _⟩ := run_vd q (A := ⟨mixW C.w A2v.w, C.b, 0, C.steps, C.told⟩) (B := C) ⟨fun r i hr hi => by
    by_cases h6 : r = 6 ∨ r = 11
    · exact ((mix C.w A2v.w r i).1 h6).symm
    · show C.w r i = mixW C.w A2v.w r i
      rw [(mix C.w A2v.w r i).2 (fun h => h6 (.inl h)) (fun h => h6 (.inr h)), ← v2.w r i hr hi]
      exact hC r i hr hi (fun h => h6 (.inl h)) (fun h => h6 (.inr h)), rfl, hCs, rfl, rfl⟩ h6
  exact ⟨C1, g3⟩
theorem Empty.words {n : Nat} (hf : Small n 2) {E : AS} (h : Empty n 2 E) : ∀ r i, r < 19 → i < Zr n 2 r → E.w r i = wE n 2 r i := by
  intro r i hr hi
  have ne : ∀ {x y : Nat}, x ≠ y → Nat.beq x y = false := fun {x y} hxy => by cases h : Nat.beq x y with | false => rfl | true => exact absurd (Nat.eq_of_beq_eq_true h) hxy
  have eq : ∀ {x : Nat}, Nat.beq x x = true := fun {x} => Nat.beq_refl x
  unfold wE
  by_cases h7 : r = 7
  · subst h7
    rw [h.pages i, eq, cond_true]
    by_cases h0 : i = 0
    · subst h0; rw [if_pos rfl]; rfl
    · rw [if_neg h0, ne h0, cond_false]
      by_cases hl : 1 < n ∧ i = n - 1
      · rw [if_pos hl, show (Nat.blt 1 n && Nat.beq i (n - 1)) = true by rw [hl.2, eq, Bool.and_true]; exact Nat.blt_eq.mpr hl.1]; rfl
      · rw [if_neg hl]
        have : (Nat.blt 1 n && Nat.beq i (n - 1)) = false := by
          cases hb : (Nat.blt 1 n && Nat.beq i (n - 1)) with
          | false => rfl
          | true =>
            rw [Bool.and_eq_true] at hb
            exact absurd ⟨Nat.blt_eq.mp hb.1, Nat.eq_of_beq_eq_true hb.2⟩ hl
        rw [this]; rfl
  rw [ne h7, cond_false]
  by_cases h3 : r = 3
  · subst h3
    have hz : i < 9 := hi
    rw [h.bins i hz, eq, cond_true]
    by_cases hl : lg n = i
    · rw [if_pos hl, hl, eq]; rfl
    · rw [if_neg hl, ne hl]; rfl
  rw [ne h3, cond_false]
  by_cases h4 : r = 4
  · subst h4
    have hz : i < 1 := hi
    obtain rfl : i = 0 := by omega
    rw [h.pool]; rfl
  rw [ne h4, cond_false]
  by_cases h17 : r = 17
  · subst h17
    have hz : i < nodesN n 2 := hi
    have := h.nodes (i + 1) (by omega) (by omega)
    rw [show i + 1 - 1 = i by omega] at this
    rw [this, eq, cond_true]
    by_cases hl : i + 1 = nodesN n 2
    · rw [if_pos hl, hl, eq]; rfl
    · rw [if_neg hl, ne hl]; rfl
  rw [ne h17, cond_false]
  exact h.rest r h3 h4 h7 h17 i
end Go.Proofs.YtaegelbaghaooaaGreat
