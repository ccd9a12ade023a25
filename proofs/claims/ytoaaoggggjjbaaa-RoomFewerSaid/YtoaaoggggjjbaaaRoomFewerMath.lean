/- plain laws for RoomFewer: one event behind all others. -/
import Derived.Test.YtoaaoggggjjbaaaFitsMath
import Derived.Test.YtoaaoggggjjbaaaLaw22
namespace Go.Proofs.Ytoaaoggggjjbaaa
open Go.RowKit
theorem taken_snoc {es : List Ev} {x : Ev} {s : Int} (h : ∀ e ∈ es, e.lin ≤ s) (hs : 0 ≤ s) (hx : x.lin = s + 1) : takenV (es ++ [x]) (s + 1) = takenV es s ++ [x] := by
  unfold takenV
  rw [takenF_snoc, if_pos (by simp; omega)]
  have e1 : takenF es (s + 1) = takenF es s := by
    unfold takenF
    apply List.filter_congr
    intro e he
    have := h e he
    rw [show decide (e.lin ≤ s + 1) = true by simpa using (by omega), show decide (e.lin ≤ s) = true by simpa using this]
  rw [e1, St.ssort_snoc, St.ins_ge]
  intro y hy
  rw [St.mem_ssort] at hy
  have := h y (List.mem_filter.1 hy).1
  omega
theorem live_key (L : List Ev) {p : Int × Blk} (h : p ∈ liveM L) : p.1 = p.2.pos := by
  obtain ⟨e, _, _, rfl⟩ := live_mem L p h
  rfl
theorem fits_sub {L M : List Blk} {n k a : Int} (h0 : 0 ≤ n) (h1 : n ≤ 256) (hs : ∀ b ∈ M, b ∈ L) (h : fitsV L n k a = true) : fitsV M n k a = true := by
  obtain ⟨h2, h3, p, h4, h5, h6, h7⟩ := (fitsV_iff h0 h1).1 h
  refine (fitsV_iff h0 h1).2 ⟨h2, h3, p, h4, h5, h6, ?_⟩
  unfold clearB at *
  simp only [Bool.not_eq_true', List.any_eq_false] at *
  exact fun b hb => h7 b (hs b hb)
theorem free_fits {es : List Ev} {s pos n k a : Int} (h : ∀ e ∈ es, e.lin ≤ s) (hs : 0 ≤ s) (h0 : 0 ≤ n) (h1 : n ≤ 256) (hf : fitsV (liveV es s) n k a = true) : fitsV (liveV (es ++ [asksE (s + 1) 5 pos 0]) (s + 1)) n k a = true := by
  refine fits_sub h0 h1 (fun b hb => ?_) hf
  unfold liveV at *
  rw [taken_snoc h hs rfl, liveM_snoc] at hb
  rw [step_tf rfl rfl] at hb
  obtain ⟨p, hp, rfl⟩ := List.mem_map.1 hb
  exact List.mem_map.2 ⟨p, (IM.mem_del.1 hp).1, rfl⟩
theorem more_fits {es : List Ev} {s pos size n k a : Int} (h : ∀ e ∈ es, e.lin ≤ s) (hs : 0 ≤ s) (h0 : 0 ≤ n) (h1 : n ≤ 256) (hno : ∀ b ∈ liveV es s, b.pos ≠ pos) (hf : fitsV (liveV es s) n k a = false) : fitsV (liveV (es ++ [takesE (s + 1) size pos size]) (s + 1)) n k a = false := by
  cases hc : fitsV (liveV (es ++ [takesE (s + 1) size pos size]) (s + 1)) n k a
  · rfl
  · rw [← hf, eq_comm]
    refine fits_sub h0 h1 (fun b hb => ?_) hc
    unfold liveV at hb ⊢
    rw [taken_snoc h hs rfl, liveM_snoc, step_ft rfl rfl]
    obtain ⟨p, hp, rfl⟩ := List.mem_map.1 hb
    refine List.mem_map.2 ⟨p, IM.mem_put.2 (.inr ⟨hp, ?_⟩), rfl⟩
    rw [live_key _ hp]
    exact hno _ hb
end Go.Proofs.Ytoaaoggggjjbaaa
