/- port.ways.do, port.Direct's methods. -/
import Derived.Test.YtaegelbaghaooaaGreatDRep
namespace Go.Proofs.YtaegelbaghaooaaGreat
open Go.RowKit Lx
set_option linter.unusedVariables false
structure WayAt (w : World) (wy mm wb bb : Nat) (n : Int) (M : Mem) : Prop where
  way : w.heap[wy]? = some (.cells #[.pointer (some ⟨mm, 0, none⟩), .int .i64 n] 122 (0, 0))
  mem : MemAt w mm wb bb M
  ne : wy ≠ mm ∧ wy ≠ wb ∧ wy ≠ bb
theorem set_block {w : World} {b o : Nat} {c : Array Value} {t : TypeId} {f : Nat × Nat} (h : w.heap[b]? = some (.cells c t f)) (v : Value) :
    (w.setCell ⟨b, o, none⟩ v).heap[b]? = some (.cells (c.setIfInBounds o v) t f) ∧ (∀ k, k ≠ b → (w.setCell ⟨b, o, none⟩ v).heap[k]? = w.heap[k]?) ∧ (w.setCell ⟨b, o, none⟩ v).heap.size = w.heap.size ∧ (w.setCell ⟨b, o, none⟩ v).os = w.os ∧ (w.setCell ⟨b, o, none⟩ v).tape = w.tape ∧ (w.setCell ⟨b, o, none⟩ v).output = w.output := by
  have e := setCell_eq (o := o) h v
  rw [e]
  refine ⟨?_, fun k hk => ?_, ?_, rfl, rfl, rfl⟩
  · simp only
    rw [Array.getElem?_setIfInBounds, if_pos rfl, if_pos (heap_lt h)]
  · simp only
    rw [Array.getElem?_setIfInBounds, if_neg (fun h => hk h.symm)]
  · simp
theorem keeps_set {w : World} {b o : Nat} {c : Array Value} {t : TypeId} {f : Nat × Nat} (h : w.heap[b]? = some (.cells c t f)) (v : Value) : Keeps (fun k => k = b) w (w.setCell ⟨b, o, none⟩ v) := by
  obtain ⟨_, h2, h3, h4, h5, h6⟩ := set_block (o := o) h v
  exact ⟨h4, h5, h6, Nat.le_of_eq h3.symm, fun k _ hk => h2 k hk⟩
/-- what an access by a way leaves. -/
def DidWay (w : World) (wy mm wb bb : Nat) (told n : Int) (M' : Mem) (e : Ending) (w' : World) : Prop :=
  e = .returned (.int .u64 told) ∧ WayAt w' wy mm wb bb n M' ∧ Keeps (fun b => b = wy ∨ b = wb ∨ b = bb) w w'
set_option maxRecDepth 100000 in
theorem wdo_any (kd at_ A B : Int) (wy mm wb bb : Nat) (n : Int) (M M' : Mem) (told : Int) (w : World) (h : WayAt w wy mm wb bb n M) (hs : acc kd at_ A B M = some (told, M')) :
    Calls Tryz.prog 105 #[.pointer (some ⟨wy, 0, none⟩), .int .u8 kd, .int .i64 at_, .int .u64 A, .int .u64 B] w (DidWay w wy mm wb bb told (wrap64 (n + 1)) M') := by
  have c0 : w.cell? ⟨wy, 0, none⟩ = some (.pointer (some ⟨mm, 0, none⟩)) := by rw [cell_of h.way]; rfl
  have c1 : w.cell? ⟨wy, 1, none⟩ = some (.int .i64 n) := by rw [cell_of h.way]; rfl
  have fz : w.frozen? ⟨wy, 1, none⟩ = false := frozen_of h.way
  obtain ⟨s1, s2, s3, s4, s5, s6⟩ := set_block (o := 1) h.way (.int .i64 (wrap64 (n + 1)))
  have hM : MemAt (w.setCell ⟨wy, 1, none⟩ (.int .i64 (wrap64 (n + 1)))) mm wb bb M := h.mem.of (s2 mm (fun e => h.ne.1 e.symm)) (s2 wb (fun e => h.ne.2.1 e.symm)) (s2 bb (fun e => h.ne.2.2 e.symm))
  have HK := Lib.hid (keeps_set (o := 1) h.way (.int .i64 (wrap64 (n + 1))))
  have HM := Lib.hid hM
  have HS := Lib.hid hs
  have HN := Lib.hid h.ne
  have H1 := Lib.hid s1
  have hlt := heap_lt s1
  have HL := Lib.hid hlt
  clear hM hs h s1 s2 s3 s4 s5 s6 hlt
  go_enter Tryz.func105, Tryz.ntmps105
  go_wp2_with (go_at_call 106; refine (do_any kd at_ A B mm wb bb M M' told _ HM.out HS.out).mono ?_; rintro e1 w1 ⟨⟨ok, rfl⟩, hM1, hk1⟩; have HM1 := Lib.hid hM1; have HK1 := Lib.hid hk1; clear hM1 hk1)
  go_ret
  refine ⟨rfl, ⟨?_, HM1.out, HN.out⟩, HK.out.mono (fun b hb => .inl hb) |>.trans HK1.out (fun b hb => .inl (.inr hb))⟩
  rw [HK1.out.block wy HL.out (fun h => by rcases h with h | h; exact HN.out.2.1 h; exact HN.out.2.2 h), H1.out]
  rfl
end Go.Proofs.YtaegelbaghaooaaGreat
