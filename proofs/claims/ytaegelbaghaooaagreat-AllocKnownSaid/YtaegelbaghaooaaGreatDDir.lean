/- port.Direct as a port. -/
import Derived.Test.YtaegelbaghaooaaGreatDWay
namespace Go.Proofs.YtaegelbaghaooaaGreat
open Go.RowKit Lx
set_option linter.unusedVariables false
/-- a direct port's state. -/
structure DS where
  m : Mem
  self : Int
  steps : Int
  told : Option (List C)
def ToldAt (w : World) (d : Nat) : Option Nat → Option (List C) → Prop
  | none, none => True
  | some b, some l => ∃ vs, denL (pvD d) [] l = some vs ∧ w.heap[b]? = some (.cells vs.toArray 38 (0, 0))
  | _, _ => False
structure DirAt (w : World) (d wy mm wb bb : Nat) (td : Option Nat) (s : DS) : Prop where
  dir : w.heap[d]? = some (.cells #[.pointer (some ⟨wy, 0, none⟩), .int .i64 s.self, .pointer (td.map fun b => ⟨b, 0, none⟩)] 125 (0, 0))
  way : WayAt w wy mm wb bb s.steps s.m
  told : ToldAt w d td s.told
  ne : d ≠ wy ∧ d ≠ mm ∧ d ≠ wb ∧ d ≠ bb
  tne : ∀ b, td = some b → b ≠ d ∧ b ≠ wy ∧ b ≠ mm ∧ b ≠ wb ∧ b ≠ bb
/-- its blocks. -/
def InD (d wy mm wb bb : Nat) (td : Option Nat) (b : Nat) : Prop := b = d ∨ b = wy ∨ b = mm ∨ b = wb ∨ b = bb ∨ td = some b
theorem DirAt.told_lt {w : World} {d wy mm wb bb : Nat} {td : Option Nat} {s : DS} (h : DirAt w d wy mm wb bb td s) {b : Nat} (hb : td = some b) : b < w.heap.size := by
  have := h.told
  subst hb
  cases ht : s.told with
  | none => rw [ht] at this; exact this.elim
  | some l => rw [ht] at this; obtain ⟨vs, _, hw⟩ := this; exact heap_lt hw
theorem DirAt.of {w w' : World} {d wy mm wb bb : Nat} {td : Option Nat} {s : DS} (h : DirAt w d wy mm wb bb td s) (hs : ∀ b, InD d wy mm wb bb td b → w'.heap[b]? = w.heap[b]?) : DirAt w' d wy mm wb bb td s := by
  refine ⟨(hs d (.inl rfl)).trans h.dir, ⟨(hs wy (.inr (.inl rfl))).trans h.way.way, h.way.mem.of (hs mm (.inr (.inr (.inl rfl)))) (hs wb (.inr (.inr (.inr (.inl rfl))))) (hs bb (.inr (.inr (.inr (.inr (.inl rfl)))))), h.way.ne⟩, ?_, h.ne, h.tne⟩
  have ht := h.told
  cases htd : td with
  | none =>
    rw [htd] at ht
    cases hst : s.told with
    | none => trivial
    | some l => rw [hst] at ht; exact ht.elim
  | some b =>
    rw [htd] at ht
    cases hst : s.told with
    | none => rw [hst] at ht; exact ht.elim
    | some l =>
      rw [hst] at ht
      obtain ⟨vs, h1, h2⟩ := ht
      exact ⟨vs, h1, (hs b (.inr (.inr (.inr (.inr (.inr htd)))))).trans h2⟩
theorem DirAt.lt {w : World} {d wy mm wb bb : Nat} {td : Option Nat} {s : DS} (h : DirAt w d wy mm wb bb td s) : ∀ b, InD d wy mm wb bb td b → b < w.heap.size := by
  rintro b (rfl | rfl | rfl | rfl | rfl | hb)
  · exact heap_lt h.dir
  · exact heap_lt h.way.way
  · exact heap_lt h.way.mem.mem
  · exact heap_lt h.way.mem.words
  · exact heap_lt h.way.mem.bytes
  · exact h.told_lt hb
theorem dir_after {w w' : World} {d wy mm wb bb : Nat} {td : Option Nat} {s : DS} {n : Int} {M' : Mem} (h : DirAt w d wy mm wb bb td s) (hW : WayAt w' wy mm wb bb n M') (hk : Keeps (fun b => b = wy ∨ b = wb ∨ b = bb) w w') :
    DirAt w' d wy mm wb bb td { s with m := M', steps := n } ∧ Keeps (InD d wy mm wb bb td) w w' := by
  refine ⟨⟨?_, hW, ?_, h.ne, h.tne⟩, hk.mono ?_⟩
  · rw [hk.block d (heap_lt h.dir) (by rintro (e | e | e); exact h.ne.1 e; exact h.ne.2.2.1 e; exact h.ne.2.2.2 e)]
    exact h.dir
  · have ht := h.told
    cases htd : td with
    | none =>
      rw [htd] at ht
      show ToldAt w' d none s.told
      cases hst : s.told with
      | none => trivial
      | some l => rw [hst] at ht; exact ht.elim
    | some b =>
      show ToldAt w' d (some b) s.told
      have hn := h.tne b htd
      have hl := h.told_lt htd
      rw [htd] at ht
      cases hst : s.told with
      | none => rw [hst] at ht; exact ht.elim
      | some l =>
        rw [hst] at ht
        obtain ⟨vs, h1, h2⟩ := ht
        refine ⟨vs, h1, ?_⟩
        rw [hk.block b hl (by rintro (e | e | e); exact hn.2.1 e; exact hn.2.2.2.1 e; exact hn.2.2.2.2 e)]
        exact h2
  · rintro b (rfl | rfl | rfl)
    · exact .inr (.inl rfl)
    · exact .inr (.inr (.inr (.inl rfl)))
    · exact .inr (.inr (.inr (.inr (.inl rfl))))
/-- what a method of a port leaves. -/
def DidM (w : World) (d wy mm wb bb : Nat) (td : Option Nat) (s' : DS) (v : Value) (e : Ending) (w' : World) : Prop :=
  e = .returned v ∧ DirAt w' d wy mm wb bb td s' ∧ Keeps (InD d wy mm wb bb td) w w'
section
variable {w : World} {d wy mm wb bb : Nat} {td : Option Nat} {s : DS}
theorem m_load (h : DirAt w d wy mm wb bb td s) (at_ told : Int) (M' : Mem) (hs : acc 1 at_ 0 0 s.m = some (told, M')) :
    Calls Tryz.prog 306 #[.pointer (some ⟨d, 0, none⟩), .int .i64 at_] w (DidM w d wy mm wb bb td { s with m := M', steps := wrap64 (s.steps + 1) } (.int .u64 told)) := by
  have c0 : w.cell? ⟨d, 0, none⟩ = some (.pointer (some ⟨wy, 0, none⟩)) := by rw [cell_of h.dir]; rfl
  have HH := Lib.hid h
  have HS := Lib.hid hs
  clear h hs
  go_enter Tryz.func306, Tryz.ntmps306
  go_wp2_with (first | (go_at_call 104; refine (way_any d wy _ c0).mono ?_; rintro e w' ⟨rfl, rfl⟩) | (go_at_call 105; refine (wdo_any 1 at_ 0 0 wy mm wb bb s.steps s.m M' told _ HH.out.way HS.out).mono ?_; rintro e1 w1 ⟨rfl, hW, hK⟩; have HA := Lib.hid (dir_after HH.out hW hK); clear hW hK))
  go_ret
  exact ⟨rfl, HA.out.1, HA.out.2⟩
theorem m_add (h : DirAt w d wy mm wb bb td s) (at_ A told : Int) (M' : Mem) (hs : acc 4 at_ A 0 s.m = some (told, M')) :
    Calls Tryz.prog 303 #[.pointer (some ⟨d, 0, none⟩), .int .i64 at_, .int .u64 A] w (DidM w d wy mm wb bb td { s with m := M', steps := wrap64 (s.steps + 1) } (.int .u64 told)) := by
  have c0 : w.cell? ⟨d, 0, none⟩ = some (.pointer (some ⟨wy, 0, none⟩)) := by rw [cell_of h.dir]; rfl
  have HH := Lib.hid h
  have HS := Lib.hid hs
  clear h hs
  go_enter Tryz.func303, Tryz.ntmps303
  go_wp2_with (first | (go_at_call 104; refine (way_any d wy _ c0).mono ?_; rintro e w' ⟨rfl, rfl⟩) | (go_at_call 105; refine (wdo_any 4 at_ A 0 wy mm wb bb s.steps s.m M' told _ HH.out.way HS.out).mono ?_; rintro e1 w1 ⟨rfl, hW, hK⟩; have HA := Lib.hid (dir_after HH.out hW hK); clear hW hK))
  go_ret
  exact ⟨rfl, HA.out.1, HA.out.2⟩
theorem m_store (h : DirAt w d wy mm wb bb td s) (at_ A told : Int) (M' : Mem) (hs : acc 2 at_ A 0 s.m = some (told, M')) :
    Calls Tryz.prog 308 #[.pointer (some ⟨d, 0, none⟩), .int .i64 at_, .int .u64 A] w (DidM w d wy mm wb bb td { s with m := M', steps := wrap64 (s.steps + 1) } (.tuple #[])) := by
  have c0 : w.cell? ⟨d, 0, none⟩ = some (.pointer (some ⟨wy, 0, none⟩)) := by rw [cell_of h.dir]; rfl
  have HH := Lib.hid h
  have HS := Lib.hid hs
  clear h hs
  go_enter Tryz.func308, Tryz.ntmps308
  go_wp2_with (first | (go_at_call 104; refine (way_any d wy _ c0).mono ?_; rintro e w' ⟨rfl, rfl⟩) | (go_at_call 105; refine (wdo_any 2 at_ A 0 wy mm wb bb s.steps s.m M' told _ HH.out.way HS.out).mono ?_; rintro e1 w1 ⟨rfl, hW, hK⟩; have HA := Lib.hid (dir_after HH.out hW hK); clear hW hK))
  refine bodyPost_ret (v := .tuple #[]) (by simp [results, Tryz.results308, go_sem]) rfl ?_
  exact ⟨rfl, HA.out.1, HA.out.2⟩
theorem m_cas (h : DirAt w d wy mm wb bb td s) (at_ A B told : Int) (M' : Mem) (hs : acc 3 at_ A B s.m = some (told, M')) :
    Calls Tryz.prog 304 #[.pointer (some ⟨d, 0, none⟩), .int .i64 at_, .int .u64 A, .int .u64 B] w (DidM w d wy mm wb bb td { s with m := M', steps := wrap64 (s.steps + 1) } (.bool (told == 1))) := by
  have c0 : w.cell? ⟨d, 0, none⟩ = some (.pointer (some ⟨wy, 0, none⟩)) := by rw [cell_of h.dir]; rfl
  have HH := Lib.hid h
  have HS := Lib.hid hs
  clear h hs
  go_enter Tryz.func304, Tryz.ntmps304
  go_wp2_with (first | (go_at_call 104; refine (way_any d wy _ c0).mono ?_; rintro e w' ⟨rfl, rfl⟩) | (go_at_call 105; refine (wdo_any 3 at_ A B wy mm wb bb s.steps s.m M' told _ HH.out.way HS.out).mono ?_; rintro e1 w1 ⟨rfl, hW, hK⟩; have HA := Lib.hid (dir_after HH.out hW hK); clear hW hK))
  go_ret
  exact ⟨rfl, HA.out.1, HA.out.2⟩
theorem m_get (h : DirAt w d wy mm wb bb td s) (at_ told : Int) (M' : Mem) (hs : acc 5 at_ 0 0 s.m = some (told, M')) (h0 : 0 ≤ told) (h1 : told ≤ 255) :
    Calls Tryz.prog 32 #[.pointer (some ⟨d, 0, none⟩), .int .i64 at_] w (DidM w d wy mm wb bb td { s with m := M', steps := wrap64 (s.steps + 1) } (.int .u8 told)) := by
  have c0 : w.cell? ⟨d, 0, none⟩ = some (.pointer (some ⟨wy, 0, none⟩)) := by rw [cell_of h.dir]; rfl
  have HH := Lib.hid h
  have HS := Lib.hid hs
  clear h hs
  go_enter Tryz.func32, Tryz.ntmps32
  go_wp2_with (first | (go_at_call 104; refine (way_any d wy _ c0).mono ?_; rintro e w' ⟨rfl, rfl⟩) | (go_at_call 105; refine (wdo_any 5 at_ 0 0 wy mm wb bb s.steps s.m M' told _ HH.out.way HS.out).mono ?_; rintro e1 w1 ⟨rfl, hW, hK⟩; have HA := Lib.hid (dir_after HH.out hW hK); clear hW hK))
  go_ret
  exact ⟨rfl, HA.out.1, HA.out.2⟩
theorem m_put (h : DirAt w d wy mm wb bb td s) (at_ A told : Int) (M' : Mem) (hs : acc 6 at_ A 0 s.m = some (told, M')) (h0 : 0 ≤ A) (h1 : A ≤ 255) :
    Calls Tryz.prog 31 #[.pointer (some ⟨d, 0, none⟩), .int .i64 at_, .int .u8 A] w (DidM w d wy mm wb bb td { s with m := M', steps := wrap64 (s.steps + 1) } (.tuple #[])) := by
  have c0 : w.cell? ⟨d, 0, none⟩ = some (.pointer (some ⟨wy, 0, none⟩)) := by rw [cell_of h.dir]; rfl
  have HH := Lib.hid h
  have HS := Lib.hid hs
  clear h hs
  go_enter Tryz.func31, Tryz.ntmps31
  go_wp2_with (first | (go_at_call 104; refine (way_any d wy _ c0).mono ?_; rintro e w' ⟨rfl, rfl⟩) | (go_at_call 105; refine (wdo_any 6 at_ A 0 wy mm wb bb s.steps s.m M' told _ HH.out.way HS.out).mono ?_; rintro e1 w1 ⟨rfl, hW, hK⟩; have HA := Lib.hid (dir_after HH.out hW hK); clear hW hK))
  refine bodyPost_ret (v := .tuple #[]) (by simp [results, Tryz.results31, go_sem]) rfl ?_
  exact ⟨rfl, HA.out.1, HA.out.2⟩
end
/-- an access of a direct port. -/
def dacc (kd at_ A B : Int) (s : DS) : Option (Int × DS) := match acc kd at_ A B s.m with
  | some (x, M') => some (x, { s with m := M', steps := IntKind.i64.wrap (s.steps + 1) })
  | none => none
def dstep : PStep DS := fun o => match o with
  | .load a => fun s => dacc 1 a 0 0 s
  | .store a v => fun s => (dacc 2 a v 0 s).map fun r => ((), r.2)
  | .cas a x y => fun s => (dacc 3 a x y s).map fun r => (r.1 == 1, r.2)
  | .add a v => fun s => dacc 4 a v 0 s
  | .get a => fun s => dacc 5 a 0 0 s
  | .put a b => fun s => (dacc 6 a b 0 s).map fun r => ((), r.2)
  | .self => fun s => some (s.self, s)
  | .steps => fun s => some (s.steps, s)
  | .tell r => fun s => some ((), { s with told := some r })
theorem wrap64_eq (n : Int) : IntKind.i64.wrap n = wrap64 n := by rw [IntKind.wrap_i64]; simp only [wrap64]
theorem dacc_eq {kd at_ A B : Int} {s s' : DS} {x : Int} (h : dacc kd at_ A B s = some (x, s')) : ∃ M', acc kd at_ A B s.m = some (x, M') ∧ s' = { s with m := M', steps := wrap64 (s.steps + 1) } := by
  unfold dacc at h
  split at h
  · rename_i y M' hy
    cases h
    exact ⟨M', hy, by rw [wrap64_eq]⟩
  · cases h
theorem put_range {at_ A B : Int} {M : Mem} {r : Int × Mem} (h : acc 6 at_ A B M = some r) : 0 ≤ A ∧ A ≤ 255 := by
  simp only [acc] at h
  split at h
  · rename_i h6; omega
  · split at h
    · rename_i h6; omega
    · split at h
      · rename_i h6; omega
      · split at h
        · rename_i h6; omega
        · split at h
          · rename_i h6; omega
          · split at h
            · split at h
              · assumption
              · cases h
            · cases h
theorem get_range {at_ x : Int} {M M' : Mem} (h : acc 5 at_ 0 0 M = some (x, M')) : 0 ≤ x ∧ x ≤ 255 := by
  simp only [acc, show ¬ (5 : Int) = 1 by decide, show ¬ (5 : Int) = 2 by decide, show ¬ (5 : Int) = 3 by decide, show ¬ (5 : Int) = 4 by decide, if_false, if_true] at h
  split at h
  · split at h
    · rename_i h1
      cases h; exact h1
    · cases h
  · cases h; decide
theorem m_tell {w : World} {d wy mm wb bb : Nat} {td : Option Nat} {s : DS} (h : DirAt w d wy mm wb bb td s) (l : List C) (vs : List Value) (hl : denL (pvD d) [] l = some vs) :
    Calls Tryz.prog 309 #[.pointer (some ⟨d, 0, none⟩), .agg vs.toArray] w fun e w' => e = .returned (.tuple #[]) ∧ DirAt w' d wy mm wb bb (some w.heap.size) { s with told := some l } ∧ Keeps (InD d wy mm wb bb td) w w' := by
  have hd := heap_lt h.dir
  have e1 : (w.alloc (.cells vs.toArray 38)).heap[d]? = w.heap[d]? := by rw [Lx.heap_alloc, Array.getElem?_push, if_neg (by omega)]
  have hdir : (w.alloc (.cells vs.toArray 38)).heap[d]? = some (.cells #[.pointer (some ⟨wy, 0, none⟩), .int .i64 s.self, .pointer (td.map fun b => ⟨b, 0, none⟩)] 125 (0, 0)) := e1.trans h.dir
  have c2 : (w.alloc (.cells vs.toArray 38)).cell? ⟨d, 2, none⟩ = some (.pointer (td.map fun b => ⟨b, 0, none⟩)) := by rw [cell_of hdir]; rfl
  have fz : (w.alloc (.cells vs.toArray 38)).frozen? ⟨d, 2, none⟩ = false := frozen_of hdir
  have HF : Hid (DirAt ((w.setCell ⟨d, 2, none⟩ (.pointer (some ⟨w.heap.size, 0, none⟩))).alloc (.cells vs.toArray 38)) d wy mm wb bb (some w.heap.size) { s with told := some l } ∧ Keeps (InD d wy mm wb bb td) w ((w.setCell ⟨d, 2, none⟩ (.pointer (some ⟨w.heap.size, 0, none⟩))).alloc (.cells vs.toArray 38))) := by
    refine Lib.hid ?_
    obtain ⟨s1, s2, s3, s4, s5, s6⟩ := set_block (o := 2) h.dir (.pointer (some ⟨w.heap.size, 0, none⟩))
    have l1 := heap_lt h.way.way
    have l2 := heap_lt h.way.mem.mem
    have l3 := heap_lt h.way.mem.words
    have l4 := heap_lt h.way.mem.bytes
    obtain ⟨n1, n2, n3, n4⟩ := h.ne
    have pu : ∀ b, b < w.heap.size → (((w.setCell ⟨d, 2, none⟩ (.pointer (some ⟨w.heap.size, 0, none⟩))).alloc (.cells vs.toArray 38))).heap[b]? = (w.setCell ⟨d, 2, none⟩ (.pointer (some ⟨w.heap.size, 0, none⟩))).heap[b]? := by
      intro b hb
      rw [Lx.heap_alloc, Array.getElem?_push, if_neg (by omega)]
    have old : ∀ b, b < w.heap.size → b ≠ d → (((w.setCell ⟨d, 2, none⟩ (.pointer (some ⟨w.heap.size, 0, none⟩))).alloc (.cells vs.toArray 38))).heap[b]? = w.heap[b]? := fun b hb hne => (pu b hb).trans (s2 b hne)
    refine ⟨⟨?_, ⟨(old wy l1 (fun e => n1 e.symm)).trans h.way.way, h.way.mem.of (old mm l2 (fun e => n2 e.symm)) (old wb l3 (fun e => n3 e.symm)) (old bb l4 (fun e => n4 e.symm)), h.way.ne⟩, ?_, h.ne, ?_⟩, ?_⟩
    · rw [pu d hd, s1]; rfl
    · refine ⟨vs, hl, ?_⟩
      rw [Lx.heap_alloc, Array.getElem?_push, if_pos (by omega)]
    · intro b hb
      cases hb
      exact ⟨by omega, by omega, by omega, by omega, by omega⟩
    · refine ⟨s4, s5, s6, by rw [Lx.heap_alloc]; simp, fun b hb hn => old b hb fun e => hn (.inl e)⟩
  clear h hdir e1
  go_enter Tryz.func309, Tryz.ntmps309
  go_wp2
  refine bodyPost_end (v := .tuple #[]) (by simp [results, Tryz.results309, go_sem]) rfl ?_
  exact ⟨rfl, HF.out.1, HF.out.2⟩
theorem pop_cases {name : String} {args : List V} {p : POp} (h : popOf name args = some p) :
    (name = "Self" ∧ args = [] ∧ p = .self) ∨ (name = "Steps" ∧ args = [] ∧ p = .steps) ∨ (∃ a, name = "Load" ∧ args = [.c (.int .i64 a)] ∧ p = .load a) ∨ (∃ a, name = "Get" ∧ args = [.c (.int .i64 a)] ∧ p = .get a) ∨
    (∃ a b, name = "Store" ∧ args = [.c (.int .i64 a), .c (.int .u64 b)] ∧ p = .store a b) ∨ (∃ a b, name = "Add" ∧ args = [.c (.int .i64 a), .c (.int .u64 b)] ∧ p = .add a b) ∨
    (∃ a b, name = "Put" ∧ args = [.c (.int .i64 a), .c (.int .u8 b)] ∧ p = .put a b) ∨ (∃ a b c, name = "CAS" ∧ args = [.c (.int .i64 a), .c (.int .u64 b), .c (.int .u64 c)] ∧ p = .cas a b c) ∨
    (∃ l, name = "Tell" ∧ args = [.agg l] ∧ p = .tell l) := by
  unfold popOf at h
  split at h
  · split at h
    · cases h; exact .inl ⟨‹_›, rfl, rfl⟩
    · split at h
      · cases h; exact .inr (.inl ⟨‹_›, rfl, rfl⟩)
      · cases h
  · split at h
    · cases h; exact .inr (.inr (.inl ⟨_, ‹_›, rfl, rfl⟩))
    · split at h
      · cases h; exact .inr (.inr (.inr (.inl ⟨_, ‹_›, rfl, rfl⟩)))
      · cases h
  · split at h
    · cases h; exact .inr (.inr (.inr (.inr (.inl ⟨_, _, ‹_›, rfl, rfl⟩))))
    · split at h
      · cases h; exact .inr (.inr (.inr (.inr (.inr (.inl ⟨_, _, ‹_›, rfl, rfl⟩)))))
      · cases h
  · split at h
    · cases h; exact .inr (.inr (.inr (.inr (.inr (.inr (.inl ⟨_, _, ‹_›, rfl, rfl⟩))))))
    · cases h
  · split at h
    · cases h; exact .inr (.inr (.inr (.inr (.inr (.inr (.inr (.inl ⟨_, _, _, ‹_›, rfl, rfl⟩)))))))
    · cases h
  · split at h
    · split at h
      · cases h; exact .inr (.inr (.inr (.inr (.inr (.inr (.inr (.inr ⟨_, ‹_›, rfl, rfl⟩)))))))
      · cases h
    · cases h
  · cases h
def DRep (d wy mm wb bb : Nat) (s : DS) (F : Nat → Prop) (w : World) : Prop := ∃ td, DirAt w d wy mm wb bb td s ∧ ∀ b, F b ↔ InD d wy mm wb bb td b
theorem same_rep {d wy mm wb bb : Nat} {td : Option Nat} {s' : DS} {F : Nat → Prop} {w w' : World} (hF : ∀ b, F b ↔ InD d wy mm wb bb td b) (h : DirAt w' d wy mm wb bb td s') (hk : Keeps (InD d wy mm wb bb td) w w') : ∃ F', DRep d wy mm wb bb s' F' w' ∧ Keeps F w w' ∧ ∀ b, F' b → F b ∨ w.heap.size ≤ b :=
  ⟨F, ⟨td, h, hF⟩, hk.mono fun b hb => (hF b).2 hb, fun b hb => .inl hb⟩
theorem dir_does {d wy mm wb bb : Nat} {name : String} {args : List V} {p : POp} {s s' : DS} {x : p.Ans} {F : Nat → Prop} {w : World} {vs : List Value} (hp : popOf name args = some p) (hs : dstep p s = some (x, s')) (hv : allSome (denV (pvD d) []) args = some vs) (hR : DRep d wy mm wb bb s F w) :
    ∃ f recv rv, (∀ w, (callMethod (pvD d) name vs.toArray).run Tryz.prog w = .ok (.enter f (#[recv] ++ vs.toArray)) w) ∧ Flat (pvD d) (ansV p x) rv ∧
      Calls Tryz.prog f (#[recv] ++ vs.toArray) w fun e w' => e = .returned rv ∧ ∃ F', DRep d wy mm wb bb s' F' w' ∧ Keeps F w w' ∧ ∀ b, F' b → F b ∨ w.heap.size ≤ b := by
  obtain ⟨td, hD, hF⟩ := hR
  rcases pop_cases hp with ⟨rfl, rfl, rfl⟩ | ⟨rfl, rfl, rfl⟩ | ⟨a, rfl, rfl, rfl⟩ | ⟨a, rfl, rfl, rfl⟩ | ⟨a, b, rfl, rfl, rfl⟩ | ⟨a, b, rfl, rfl, rfl⟩ | ⟨a, b, rfl, rfl, rfl⟩ | ⟨a, b, c, rfl, rfl, rfl⟩ | ⟨l, rfl, rfl, rfl⟩
  · simp only [allSome, Option.some.injEq] at hv; subst hv
    simp only [dstep, Option.some.injEq, Prod.mk.injEq] at hs
    obtain ⟨rfl, rfl⟩ := hs
    refine ⟨_, _, .int .i64 s.self, meth_self d [], fun e => rfl, (self_any d s.self w (by rw [cell_of hD.dir]; rfl)).mono ?_⟩
    rintro e w' ⟨rfl, rfl⟩
    exact ⟨rfl, same_rep hF hD (Keeps.refl _ _)⟩
  · simp only [allSome, Option.some.injEq] at hv; subst hv
    simp only [dstep, Option.some.injEq, Prod.mk.injEq] at hs
    obtain ⟨rfl, rfl⟩ := hs
    refine ⟨_, _, .int .i64 s.steps, meth_steps d [], fun e => rfl, (steps_any d wy s.steps w (by rw [cell_of hD.dir]; rfl) (by rw [cell_of hD.way.way]; rfl)).mono ?_⟩
    rintro e w' ⟨rfl, rfl⟩
    exact ⟨rfl, same_rep hF hD (Keeps.refl _ _)⟩
  · simp only [allSome, denV, den, Option.some.injEq] at hv; subst hv
    obtain ⟨M', h1, rfl⟩ := dacc_eq (show dacc 1 a 0 0 s = some (x, s') from hs)
    refine ⟨_, _, .int .u64 x, meth_load d [.int .i64 a], fun e => rfl, (m_load hD a x M' h1).mono ?_⟩
    rintro e w' ⟨rfl, h2, h3⟩
    exact ⟨rfl, same_rep hF h2 h3⟩
  · simp only [allSome, denV, den, Option.some.injEq] at hv; subst hv
    obtain ⟨M', h1, rfl⟩ := dacc_eq (show dacc 5 a 0 0 s = some (x, s') from hs)
    have hr := get_range h1
    refine ⟨_, _, .int .u8 x, meth_get d [.int .i64 a], fun e => rfl, (m_get hD a x M' h1 hr.1 hr.2).mono ?_⟩
    rintro e w' ⟨rfl, h2, h3⟩
    exact ⟨rfl, same_rep hF h2 h3⟩
  · simp only [allSome, denV, den, Option.some.injEq] at hv; subst hv
    simp only [dstep, Option.map_eq_some_iff] at hs
    obtain ⟨⟨y, s1⟩, h0, h9⟩ := hs
    cases h9
    obtain ⟨M', h1, rfl⟩ := dacc_eq h0
    refine ⟨_, _, .tuple #[], meth_store d [.int .i64 a, .int .u64 b], fun e => rfl, (m_store hD a b y M' h1).mono ?_⟩
    rintro e w' ⟨rfl, h2, h3⟩
    exact ⟨rfl, same_rep hF h2 h3⟩
  · simp only [allSome, denV, den, Option.some.injEq] at hv; subst hv
    obtain ⟨M', h1, rfl⟩ := dacc_eq (show dacc 4 a b 0 s = some (x, s') from hs)
    refine ⟨_, _, .int .u64 x, meth_add d [.int .i64 a, .int .u64 b], fun e => rfl, (m_add hD a b x M' h1).mono ?_⟩
    rintro e w' ⟨rfl, h2, h3⟩
    exact ⟨rfl, same_rep hF h2 h3⟩
  · simp only [allSome, denV, den, Option.some.injEq] at hv; subst hv
    simp only [dstep, Option.map_eq_some_iff] at hs
    obtain ⟨⟨y, s1⟩, h0, h9⟩ := hs
    cases h9
    obtain ⟨M', h1, rfl⟩ := dacc_eq h0
    have hr := put_range h1
    refine ⟨_, _, .tuple #[], meth_put d [.int .i64 a, .int .u8 b], fun e => rfl, (m_put hD a b y M' h1 hr.1 hr.2).mono ?_⟩
    rintro e w' ⟨rfl, h2, h3⟩
    exact ⟨rfl, same_rep hF h2 h3⟩
  · simp only [allSome, denV, den, Option.some.injEq] at hv; subst hv
    simp only [dstep, Option.map_eq_some_iff] at hs
    obtain ⟨⟨y, s1⟩, h0, h9⟩ := hs
    cases h9
    obtain ⟨M', h1, rfl⟩ := dacc_eq h0
    refine ⟨_, _, .bool (y == 1), meth_cas d [.int .i64 a, .int .u64 b, .int .u64 c], fun e => rfl, (m_cas hD a b c y M' h1).mono ?_⟩
    rintro e w' ⟨rfl, h2, h3⟩
    exact ⟨rfl, same_rep hF h2 h3⟩
  · simp only [allSome, denV] at hv
    cases hl : denL (pvD d) [] l with
    | none => rw [hl] at hv; simp at hv
    | some us =>
      rw [hl] at hv
      simp only [Option.map_some, Option.some.injEq] at hv
      subst hv
      simp only [dstep, Option.some.injEq, Prod.mk.injEq] at hs
      obtain ⟨_, rfl⟩ := hs
      refine ⟨_, _, .tuple #[], meth_tell d [.agg us.toArray], fun e => rfl, (m_tell hD l us hl).mono ?_⟩
      rintro e w' ⟨rfl, h2, h3⟩
      refine ⟨rfl, InD d wy mm wb bb (some w.heap.size), ⟨_, h2, fun b => Iff.rfl⟩, h3.mono fun b hb => (hF b).2 hb, ?_⟩
      rintro b (h | h | h | h | h | h)
      · exact .inl ((hF b).2 (.inl h))
      · exact .inl ((hF b).2 (.inr (.inl h)))
      · exact .inl ((hF b).2 (.inr (.inr (.inl h))))
      · exact .inl ((hF b).2 (.inr (.inr (.inr (.inl h)))))
      · exact .inl ((hF b).2 (.inr (.inr (.inr (.inr (.inl h))))))
      · cases h; exact .inr (Nat.le_refl _)
/-- a direct port. -/
def Dir (d wy mm wb bb : Nat) : Port Tryz.prog DS where
  pv := pvD d
  t := 27
  u := .pointer (some ⟨d, 0, none⟩)
  isIface := rfl
  step := dstep
  Rep := DRep d wy mm wb bb
  lt := fun ⟨td, h, hF⟩ b hb => h.lt b ((hF b).1 hb)
  stable := fun ⟨td, h, hF⟩ hs => ⟨td, h.of (fun b hb => hs b ((hF b).2 hb)), hF⟩
  sure := fun name h w => sureD d name h w
  does := fun hp hs hv hR => dir_does hp hs hv hR
/-- what a call by a direct port leaves: its result, the port's state, all else as it was. -/
def DidC (w : World) (d wy mm wb bb : Nat) (td : Option Nat) (s' : DS) (v : Value) (e : Ending) (w' : World) : Prop :=
  e = .returned v ∧ (∃ td', DirAt w' d wy mm wb bb td' s' ∧ ∀ b, td' = some b → td = some b ∨ w.heap.size ≤ b) ∧ Keeps (InD d wy mm wb bb td) w w'
/-- a call of a function with a summary, by a direct port. -/
theorem dir_call {d wy mm wb bb : Nat} {td : Option Nat} {s s' : DS} {w : World} {f : FuncId} {m : List V → Heap → Option Sum} (hs : SoundF (Dir d wy mm wb bb) f m) {args : List V} {S : Sum} (hm : m args [] = some S) {vs : List Value} (hv : allSome (denV (pvD d) []) args = some vs)
    (hD : DirAt w d wy mm wb bb td s) {x : S.α} (hr : S.t.run dstep s = some (x, s')) {v : V} (hf : S.f x = some (v, [])) {rv : Value} (hd : ∀ e, denV (pvD d) e v = some rv) : Calls Tryz.prog f vs.toArray w (DidC w d wy mm wb bb td s' rv) := by
  refine (hs.2 args [] S hm [] w s (InD d wy mm wb bb td) vs (emb_nil _ w) hv ⟨td, hD, fun b => Iff.rfl⟩ (fun b h => (own_nil b h).elim) x v [] s' hr hf).mono ?_
  rintro en w' ⟨e', F', rv', rfl, _, hd', _, ⟨td', hD', hF'⟩, _, hk, hn⟩
  have h1 := hd e'
  have h2 : denV (pvD d) e' v = some rv' := hd'
  rw [h1, Option.some.injEq] at h2
  subst h2
  refine ⟨rfl, ⟨td', hD', fun b hb => ?_⟩, hk.mono fun b hb => ?_⟩
  · have hne := hD'.tne b hb
    rcases hn b (.inr ((hF' b).2 (.inr (.inr (.inr (.inr (.inr hb))))))) with h | h | h
    · exact (own_nil b h).elim
    · rcases h with h | h | h | h | h | h
      · exact absurd h hne.1
      · exact absurd h hne.2.1
      · exact absurd h hne.2.2.1
      · exact absurd h hne.2.2.2.1
      · exact absurd h hne.2.2.2.2
      · exact .inl h
    · exact .inr h
  · rcases hb with h | h
    · exact (own_nil b h).elim
    · exact h
end Go.Proofs.YtaegelbaghaooaaGreat
