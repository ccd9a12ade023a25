/- HeapKnown, by the executor over tables. (printed by wip/spec/heap_chain.py) -/
import Derived.Test.YtjcdojcbdfblbaaHTab
namespace Go.Proofs.Ytjcdojcbdfblbaa
open Go.RowKit Lx
set_option linter.unusedVariables false
set_option maxRecDepth 1000000
theorem ran_awake : evF Try.prog (lookK kh39) 64 Try.f13 [] [] = .ret (.c (.bool true), []) := by kernel_rfl
def awS : Sm := fun args H => match args, H with
  | [], [] => some (mkS Unit (.ret ()) fun _ => some (.c (.bool true), []))
  | _, _ => none
theorem s_aw : SoundF NP 13 awS := by
  have hs := sound_in s_kh39 64 Try.func13 (by kernel_rfl) (by kernel_rfl)
  refine ⟨hs.1, fun args H S hS e w s F vs E hv hR hF x v H' s' hrun hfx => ?_⟩
  unfold awS at hS
  split at hS
  rotate_left
  · cases hS
  cases hS
  simp only [T.run, Option.some.injEq, Prod.mk.injEq] at hrun hfx
  obtain ⟨rfl, rfl⟩ := hrun
  obtain ⟨rfl, rfl⟩ := hfx
  exact hs.2 [] [] _ rfl e w s F vs E hv hR hF (.c (.bool true), []) (.c (.bool true)) [] s (ran_of ran_awake) rfl
noncomputable def kt0 : List (Nat × Sm) := [(11, tabS jT), (15, tabS bT), (13, awS)]
theorem s_kt0 : SoundL NP kt0 := .cons s_jT (.cons s_bT (.cons s_aw .nil))
noncomputable def kt1 : List (Nat × Sm) := (9, orK kt0 9 (inl Try.prog (lookK kt0) 64 Try.f9)) :: kt0
theorem s_kt1 : SoundL NP kt1 := .cons (sound_orK s_kt0 (sound_in s_kt0 64 Try.func9 (by kernel_rfl) (by kernel_rfl))) s_kt0
noncomputable def kt2 : List (Nat × Sm) := (5, orK kt1 5 (inl Try.prog (lookK kt1) 64 Try.f5)) :: kt1
theorem s_kt2 : SoundL NP kt2 := .cons (sound_orK s_kt1 (sound_in s_kt1 64 Try.func5 (by kernel_rfl) (by kernel_rfl))) s_kt1
noncomputable def kt3 : List (Nat × Sm) := (8, orK kt2 8 (inl Try.prog (lookK kt2) 64 Try.f8)) :: kt2
theorem s_kt3 : SoundL NP kt3 := .cons (sound_orK s_kt2 (sound_in s_kt2 64 Try.func8 (by kernel_rfl) (by kernel_rfl))) s_kt2
noncomputable def kt4 : List (Nat × Sm) := (10, orK kt3 10 (inl Try.prog (lookK kt3) 64 Try.f10)) :: kt3
theorem s_kt4 : SoundL NP kt4 := .cons (sound_orK s_kt3 (sound_in s_kt3 64 Try.func10 (by kernel_rfl) (by kernel_rfl))) s_kt3
noncomputable def kt5 : List (Nat × Sm) := (7, orK kt4 7 (inl Try.prog (lookK kt4) 64 Try.f7)) :: kt4
theorem s_kt5 : SoundL NP kt5 := .cons (sound_orK s_kt4 (sound_in s_kt4 64 Try.func7 (by kernel_rfl) (by kernel_rfl))) s_kt4
noncomputable def kt6 : List (Nat × Sm) := (6, orK kt5 6 (inl Try.prog (lookK kt5) 64 Try.f6)) :: kt5
theorem s_kt6 : SoundL NP kt6 := .cons (sound_orK s_kt5 (sound_in s_kt5 64 Try.func6 (by kernel_rfl) (by kernel_rfl))) s_kt5
noncomputable def kt7 : List (Nat × Sm) := (20, orK kt6 20 (inl Try.prog (lookK kt6) 64 Try.f20)) :: kt6
theorem s_kt7 : SoundL NP kt7 := .cons (sound_orK s_kt6 (sound_in s_kt6 64 Try.func20 (by kernel_rfl) (by kernel_rfl))) s_kt6
noncomputable def kt8 : List (Nat × Sm) := (12, orK kt7 12 (inl Try.prog (lookK kt7) 64 Try.f12)) :: kt7
theorem s_kt8 : SoundL NP kt8 := .cons (sound_orK s_kt7 (sound_in s_kt7 64 Try.func12 (by kernel_rfl) (by kernel_rfl))) s_kt7
theorem ran_HeapKnown : evF Try.prog (lookK kt8) 1 Try.f3 [] [] = .ret (.c (.bool true), []) := by kernel_rfl
theorem heapKnown_law (w : World) : Calls Try.prog 3 #[] w fun e w' => e = .returned (.bool true) ∧ Below w.heap.size w w' :=
  closed_law s_kt8 Try.func3 (by kernel_rfl) (by kernel_rfl) ran_HeapKnown w
end Go.Proofs.Ytjcdojcbdfblbaa
