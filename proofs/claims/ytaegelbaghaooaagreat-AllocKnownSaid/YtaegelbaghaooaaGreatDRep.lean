/- A memory as two lists; mem.Do, port.ways.do by them. -/
import Derived.Test.YtaegelbaghaooaaGreatDGet
namespace Go.Proofs.YtaegelbaghaooaaGreat
open Go.RowKit Lx
set_option linter.unusedVariables false
/-- a memory: its words and bytes. -/
structure Mem where
  words : List Int
  bytes : List Int
def atI (l : List Int) : Int → Option Int
  | .ofNat n => l[n]?
  | .negSucc _ => none
def putI (l : List Int) (a v : Int) : List Int := match a with
  | .ofNat n => l.set n v
  | .negSucc _ => l
/-- an access: what is told, and what is there behind it. -/
def acc (kd at_ A B : Int) (M : Mem) : Option (Int × Mem) :=
  if kd = 1 then some ((atI M.words at_).getD 0, M)
  else if kd = 2 then some (0, { M with words := putI M.words at_ A })
  else if kd = 3 then match atI M.words at_ with
    | some x => if x = A then some (1, { M with words := putI M.words at_ B }) else some (0, M)
    | none => some (0, M)
  else if kd = 4 then match atI M.words at_ with
    | some x => some (x, { M with words := putI M.words at_ (IntKind.u64.wrap (x + A)) })
    | none => some (0, M)
  else if kd = 5 then match atI M.bytes at_ with
    | some x => if 0 ≤ x ∧ x ≤ 255 then some (x, M) else none
    | none => some (0, M)
  else if kd = 6 then (if 0 ≤ A ∧ A ≤ 255 then some (0, { M with bytes := putI M.bytes at_ A }) else none)
  else none
structure MemAt (w : World) (mm wb bb : Nat) (M : Mem) : Prop where
  mem : w.heap[mm]? = some (.cells #[.slice (some ⟨wb, 0, none⟩) M.words.length M.words.length, .slice (some ⟨bb, 0, none⟩) M.bytes.length M.bytes.length] 188 (0, 0))
  words : w.heap[wb]? = some (.cells (M.words.map (Value.int .u64)).toArray 34 (0, 0))
  bytes : w.heap[bb]? = some (.cells (M.bytes.map (Value.int .u8)).toArray 5 (0, 0))
  ne : mm ≠ wb ∧ mm ≠ bb ∧ wb ≠ bb
  few : M.words.length ≤ 1000000 ∧ M.bytes.length ≤ 1000000
theorem heap_lt {w : World} {b : Nat} {o : Obj} (h : w.heap[b]? = some o) : b < w.heap.size := (Array.getElem?_eq_some_iff.1 h).1
theorem MemAt.of {w w' : World} {mm wb bb : Nat} {M : Mem} (h : MemAt w mm wb bb M) (h1 : w'.heap[mm]? = w.heap[mm]?) (h2 : w'.heap[wb]? = w.heap[wb]?) (h3 : w'.heap[bb]? = w.heap[bb]?) : MemAt w' mm wb bb M :=
  ⟨h1.trans h.mem, h2.trans h.words, h3.trans h.bytes, h.ne, h.few⟩
theorem MemAt.below {w w' : World} {mm wb bb : Nat} {M : Mem} (h : MemAt w mm wb bb M) (hb : Below w.heap.size w w') : MemAt w' mm wb bb M :=
  h.of (hb.block _ (heap_lt h.mem)) (hb.block _ (heap_lt h.words)) (hb.block _ (heap_lt h.bytes))
theorem frozen_of {w : World} {b o : Nat} {c : Array Value} {t : TypeId} (h : w.heap[b]? = some (.cells c t (0, 0))) : w.frozen? ⟨b, o, none⟩ = false := by
  simp [World.frozen?, h]
theorem set_word {w w1 : World} {mm wb bb i : Nat} {M : Mem} {x v : Int} (h : MemAt w mm wb bb M) (hx : M.words[i]? = some x) (hb : Below w.heap.size w w1) :
    MemAt (w1.setCell ⟨wb, i, none⟩ (.int .u64 v)) mm wb bb { M with words := M.words.set i v } ∧ Keeps (fun b => b = wb ∨ b = bb) w (w1.setCell ⟨wb, i, none⟩ (.int .u64 v)) := by
  have h1 := h.below hb
  have e := setCell_eq (o := i) h1.words (.int .u64 v)
  have hlt := heap_lt h1.words
  obtain ⟨n1, n2, n3⟩ := h1.ne
  have hk : ∀ b, b ≠ wb → (w1.setCell ⟨wb, i, none⟩ (.int .u64 v)).heap[b]? = w1.heap[b]? := by
    intro b hne
    rw [e]
    simp only
    rw [Array.getElem?_setIfInBounds, if_neg (fun h => hne h.symm)]
  refine ⟨⟨?_, ?_, ?_, h1.ne, ?_⟩, ⟨?_, ?_, ?_, ?_, fun b hlt' hn => ?_⟩⟩
  · rw [hk mm n1]; simpa using h1.mem
  · rw [e]
    simp only
    rw [Array.getElem?_setIfInBounds, if_pos rfl, if_pos hlt]
    simp [List.map_set]
  · rw [hk bb (fun h => n3 h.symm)]; exact h1.bytes
  · simpa using h1.few
  · rw [e]; exact hb.os
  · rw [e]; exact hb.tape
  · rw [e]; exact hb.output
  · rw [e]; simpa using hb.size
  · rw [hk b (fun h => hn (.inl h))]; exact hb.block b hlt'
theorem set_byte {w w1 : World} {mm wb bb i : Nat} {M : Mem} {x v : Int} (h : MemAt w mm wb bb M) (hx : M.bytes[i]? = some x) (hb : Below w.heap.size w w1) :
    MemAt (w1.setCell ⟨bb, i, none⟩ (.int .u8 v)) mm wb bb { M with bytes := M.bytes.set i v } ∧ Keeps (fun b => b = wb ∨ b = bb) w (w1.setCell ⟨bb, i, none⟩ (.int .u8 v)) := by
  have h1 := h.below hb
  have e := setCell_eq (o := i) h1.bytes (.int .u8 v)
  have hlt := heap_lt h1.bytes
  obtain ⟨n1, n2, n3⟩ := h1.ne
  have hk : ∀ b, b ≠ bb → (w1.setCell ⟨bb, i, none⟩ (.int .u8 v)).heap[b]? = w1.heap[b]? := by
    intro b hne
    rw [e]
    simp only
    rw [Array.getElem?_setIfInBounds, if_neg (fun h => hne h.symm)]
  refine ⟨⟨?_, ?_, ?_, h1.ne, ?_⟩, ⟨?_, ?_, ?_, ?_, fun b hlt' hn => ?_⟩⟩
  · rw [hk mm n2]; simpa using h1.mem
  · rw [hk wb n3]; exact h1.words
  · rw [e]
    simp only
    rw [Array.getElem?_setIfInBounds, if_pos rfl, if_pos hlt]
    simp [List.map_set]
  · simpa using h1.few
  · rw [e]; exact hb.os
  · rw [e]; exact hb.tape
  · rw [e]; exact hb.output
  · rw [e]; simpa using hb.size
  · rw [hk b (fun h => hn (.inr h))]; exact hb.block b hlt'
theorem keeps_below {S : Nat → Prop} {w w' : World} (h : Below w.heap.size w w') : Keeps S w w' := ⟨h.os, h.tape, h.output, h.size, fun b hb _ => h.block b hb⟩
/-- what an access leaves. -/
def DidAcc (w : World) (mm wb bb : Nat) (told : Int) (M' : Mem) (e : Ending) (w' : World) : Prop :=
  (∃ ok, e = .returned (.tuple #[.int .u64 told, .bool ok])) ∧ MemAt w' mm wb bb M' ∧ Keeps (fun b => b = wb ∨ b = bb) w w'
theorem cell_word {w : World} {mm wb bb : Nat} {M : Mem} (h : MemAt w mm wb bb M) {i : Nat} {x : Int} (hx : M.words[i]? = some x) : w.cell? ⟨wb, i, none⟩ = some (.int .u64 x) := by
  rw [cell_of h.words]; simp [hx]
theorem cell_byte {w : World} {mm wb bb : Nat} {M : Mem} (h : MemAt w mm wb bb M) {i : Nat} {x : Int} (hx : M.bytes[i]? = some x) : w.cell? ⟨bb, i, none⟩ = some (.int .u8 x) := by
  rw [cell_of h.bytes]; simp [hx]
theorem did_none {w : World} {mm wb bb : Nat} {M : Mem} (h : MemAt w mm wb bb M) {e : Ending} {w' : World} (hd : DidNone w e w') : DidAcc w mm wb bb 0 M e w' :=
  ⟨⟨false, hd.1⟩, h.below hd.2, keeps_below hd.2⟩
theorem did_word {w : World} {mm wb bb i : Nat} {M : Mem} {x now told : Int} (h : MemAt w mm wb bb M) (hx : M.words[i]? = some x) {e : Ending} {w' : World} (hd : DidWord w wb i now told e w') : DidAcc w mm wb bb told { M with words := M.words.set i now } e w' := by
  obtain ⟨rfl, w1, hb, rfl⟩ := hd
  obtain ⟨h1, h2⟩ := set_word (v := now) h hx hb
  exact ⟨⟨true, rfl⟩, h1, h2⟩
theorem set_same {l : List Int} {i : Nat} {x : Int} (h : l[i]? = some x) : l.set i x = l := by
  obtain ⟨h2, h3⟩ := List.getElem?_eq_some_iff.1 h
  rw [← h3]
  exact List.set_getElem_self h2
theorem do_any (kd at_ A B : Int) (mm wb bb : Nat) (M M' : Mem) (told : Int) (w : World) (h : MemAt w mm wb bb M) (hs : acc kd at_ A B M = some (told, M')) :
    Calls Tryz.prog 106 #[.pointer (some ⟨mm, 0, none⟩), .agg #[.int .u8 kd, .int .i64 at_, .int .u64 A, .int .u64 B]] w (DidAcc w mm wb bb told M') := by
  have hm := heap_lt h.mem
  have hwb := heap_lt h.words
  have hbb := heap_lt h.bytes
  have c0 : w.cell? ⟨mm, 0, none⟩ = some (.slice (some ⟨wb, 0, none⟩) M.words.length M.words.length) := by rw [cell_of h.mem]; rfl
  have c1 : w.cell? ⟨mm, 1, none⟩ = some (.slice (some ⟨bb, 0, none⟩) M.bytes.length M.bytes.length) := by rw [cell_of h.mem]; rfl
  have fz : ∀ i, w.frozen? ⟨wb, i, none⟩ = false := fun i => frozen_of h.words
  have fz' : ∀ i, w.frozen? ⟨bb, i, none⟩ = false := fun i => frozen_of h.bytes
  have f1 := h.few.1
  have f2 := h.few.2
  have nw : ∀ n : Nat, M.words[n]? = none → (M.words.length : Int) ≤ (n : Int) := fun n hn => by rw [List.getElem?_eq_none_iff] at hn; omega
  have nb : ∀ n : Nat, M.bytes[n]? = none → (M.bytes.length : Int) ≤ (n : Int) := fun n hn => by rw [List.getElem?_eq_none_iff] at hn; omega
  have lw : ∀ (n : Nat) x, M.words[n]? = some x → n < M.words.length := fun n x hn => (List.getElem?_eq_some_iff.1 hn).1
  have lb : ∀ (n : Nat) x, M.bytes[n]? = some x → n < M.bytes.length := fun n x hn => (List.getElem?_eq_some_iff.1 hn).1
  unfold acc at hs
  split at hs
  · rename_i hk; subst hk
    cases at_ with
    | negSucc m =>
      simp only [atI, Option.getD_none, Option.some.injEq, Prod.mk.injEq] at hs
      obtain ⟨rfl, rfl⟩ := hs
      exact (do_none1n mm wb _ _ _ A B w c0 hm f1 (by omega)).mono fun e w' hd => did_none h hd
    | ofNat n =>
      cases hx : M.words[n]? with
      | none =>
        simp only [atI, hx, Option.getD_none, Option.some.injEq, Prod.mk.injEq] at hs
        obtain ⟨rfl, rfl⟩ := hs
        exact (do_none1p mm wb _ _ _ A B w c0 hm f1 (by omega) (nw n hx)).mono fun e w' hd => did_none h hd
      | some x =>
        simp only [atI, hx, Option.getD_some, Option.some.injEq, Prod.mk.injEq] at hs
        obtain ⟨rfl, rfl⟩ := hs
        refine (do_load mm wb _ _ n x A B w c0 (cell_word h hx) (fz n) (lw n x hx) hm hwb f1).mono fun e w' hd => ?_
        have := did_word h hx hd
        rwa [set_same hx] at this
  · split at hs
    · rename_i _ hk; subst hk
      cases at_ with
      | negSucc m =>
        simp only [putI, Option.some.injEq, Prod.mk.injEq] at hs
        obtain ⟨rfl, rfl⟩ := hs
        exact (do_none2n mm wb _ _ _ A B w c0 hm f1 (by omega)).mono fun e w' hd => did_none h hd
      | ofNat n =>
        simp only [putI, Option.some.injEq, Prod.mk.injEq] at hs
        obtain ⟨rfl, rfl⟩ := hs
        cases hx : M.words[n]? with
        | none =>
          rw [List.set_eq_of_length_le (by have := nw n hx; omega)]
          exact (do_none2p mm wb _ _ _ A B w c0 hm f1 (by omega) (nw n hx)).mono fun e w' hd => did_none h hd
        | some x => exact (do_store mm wb _ _ n x A B w c0 (cell_word h hx) (fz n) (lw n x hx) hm hwb f1).mono fun e w' hd => did_word h hx hd
    · split at hs
      · rename_i _ _ hk; subst hk
        cases at_ with
        | negSucc m =>
          simp only [atI, Option.some.injEq, Prod.mk.injEq] at hs
          obtain ⟨rfl, rfl⟩ := hs
          exact (do_none3n mm wb _ _ _ A B w c0 hm f1 (by omega)).mono fun e w' hd => did_none h hd
        | ofNat n =>
          cases hx : M.words[n]? with
          | none =>
            simp only [atI, hx, Option.some.injEq, Prod.mk.injEq] at hs
            obtain ⟨rfl, rfl⟩ := hs
            exact (do_none3p mm wb _ _ _ A B w c0 hm f1 (by omega) (nw n hx)).mono fun e w' hd => did_none h hd
          | some x =>
            simp only [atI, hx] at hs
            split at hs
            · rename_i hA; subst hA
              simp only [putI, Option.some.injEq, Prod.mk.injEq] at hs
              obtain ⟨rfl, rfl⟩ := hs
              exact (do_cas mm wb _ _ n x B w c0 (cell_word h hx) (fz n) (lw n x hx) hm hwb f1).mono fun e w' hd => did_word h hx hd
            · rename_i hA
              simp only [Option.some.injEq, Prod.mk.injEq] at hs
              obtain ⟨rfl, rfl⟩ := hs
              refine (do_cas_not mm wb _ _ n x A B w c0 (cell_word h hx) (fz n) (lw n x hx) hm hwb f1 ⟨Lib.hid (by simpa using hA), Lib.hid (by simpa using hA)⟩).mono fun e w' hd => ?_
              have := did_word h hx hd
              rwa [set_same hx] at this
      · split at hs
        · rename_i _ _ _ hk; subst hk
          cases at_ with
          | negSucc m =>
            simp only [atI, Option.some.injEq, Prod.mk.injEq] at hs
            obtain ⟨rfl, rfl⟩ := hs
            exact (do_none4n mm wb _ _ _ A B w c0 hm f1 (by omega)).mono fun e w' hd => did_none h hd
          | ofNat n =>
            cases hx : M.words[n]? with
            | none =>
              simp only [atI, hx, Option.some.injEq, Prod.mk.injEq] at hs
              obtain ⟨rfl, rfl⟩ := hs
              exact (do_none4p mm wb _ _ _ A B w c0 hm f1 (by omega) (nw n hx)).mono fun e w' hd => did_none h hd
            | some x =>
              simp only [atI, hx, putI, Option.some.injEq, Prod.mk.injEq] at hs
              obtain ⟨rfl, rfl⟩ := hs
              exact (do_add mm wb _ _ n x A B w c0 (cell_word h hx) (fz n) (lw n x hx) hm hwb f1).mono fun e w' hd => did_word h hx hd
        · split at hs
          · rename_i _ _ _ _ hk; subst hk
            cases at_ with
            | negSucc m =>
              simp only [atI, Option.some.injEq, Prod.mk.injEq] at hs
              obtain ⟨rfl, rfl⟩ := hs
              exact (do_none5n mm bb _ _ _ A B w c1 hm f2 (by omega)).mono fun e w' hd => did_none h hd
            | ofNat n =>
              cases hx : M.bytes[n]? with
              | none =>
                simp only [atI, hx, Option.some.injEq, Prod.mk.injEq] at hs
                obtain ⟨rfl, rfl⟩ := hs
                exact (do_none5p mm bb _ _ _ A B w c1 hm f2 (by omega) (nb n hx)).mono fun e w' hd => did_none h hd
              | some x =>
                simp only [atI, hx] at hs
                split at hs
                · rename_i hsx
                  simp only [Option.some.injEq, Prod.mk.injEq] at hs
                  obtain ⟨rfl, rfl⟩ := hs
                  exact (do_get mm bb _ _ n x A B w c1 (cell_byte h hx) (lb n x hx) hm hbb f2 hsx.1 hsx.2).mono fun e w' hd => ⟨⟨true, hd.1⟩, h.below hd.2, keeps_below hd.2⟩
                · cases hs
          · split at hs
            · rename_i _ _ _ _ _ hk; subst hk
              split at hs
              · rename_i hA
                cases at_ with
                | negSucc m =>
                  simp only [putI, Option.some.injEq, Prod.mk.injEq] at hs
                  obtain ⟨rfl, rfl⟩ := hs
                  exact (do_none6n mm bb _ _ _ A B w c1 hm f2 (by omega)).mono fun e w' hd => did_none h hd
                | ofNat n =>
                  simp only [putI, Option.some.injEq, Prod.mk.injEq] at hs
                  obtain ⟨rfl, rfl⟩ := hs
                  cases hx : M.bytes[n]? with
                  | none =>
                    rw [List.set_eq_of_length_le (by have := nb n hx; omega)]
                    exact (do_none6p mm bb _ _ _ A B w c1 hm f2 (by omega) (nb n hx)).mono fun e w' hd => did_none h hd
                  | some x =>
                    refine (do_put mm bb _ _ n x A B w c1 (cell_byte h hx) (fz' n) (lb n x hx) hm hbb f2 hA.1 hA.2).mono fun e w' hd => ?_
                    obtain ⟨rfl, w1, hb, rfl⟩ := hd
                    obtain ⟨h1, h2⟩ := set_byte (v := A) h hx hb
                    exact ⟨⟨true, rfl⟩, h1, h2⟩
              · cases hs
            · cases hs
end Go.Proofs.YtaegelbaghaooaaGreat
