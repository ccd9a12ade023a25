/- Layer 15 by a port in own blocks, its memory as letters: what the laws' code asks for. -/
import Derived.Test.YtaegelbaghaooaaGreatRpQVis
import Derived.Test.YtaegelbaghaooaaGreatRpQNew
import Derived.Test.YtaegelbaghaooaaGreatRpM5
set_option linter.unusedSimpArgs false
set_option linter.unusedVariables false
set_option linter.unusedSectionVars false
namespace Go.Proofs.YtaegelbaghaooaaGreat
open Go.RowKit Lx
set_option maxRecDepth 1000000
def mNewS : Sm := fun args H => match args, H with
 | [.c (.int .i64 x), .c (.int .i64 y)], [] => some (mkS Unit (guardT (decide (0 ≤ x ∧ x ≤ 1000000 ∧ 0 ≤ y ∧ y ≤ 1000000))) fun _ => some (.tup [.c (.ptr 0 0), .c (.int .i64 0)],
    [some ⟨[.sl 1 0 x.toNat x.toNat, .sl 2 0 y.toNat y.toNat], 188, false, none⟩, some ⟨[], 34, false, some (.col .u64 (List.replicate x.toNat 0))⟩, some ⟨[], 5, false, some (.col .u8 (List.replicate y.toNat 0))⟩]))
 | _, _ => none
theorem sound_mNewS : SoundF NP 221 mNewS := by
 refine ⟨sound_mNew.1, ?_⟩
 intro args H S hS e w s0 F vs E hv hR hF x v H' s' hrun hfx
 unfold mNewS at hS
 split at hS
 ·rename_i a b
  cases hS
  obtain ⟨hg, rfl⟩ := run_guardT hrun
  rw [decide_eq_true_eq] at hg
  obtain ⟨n, rfl⟩ : ∃ n : Nat, a = (n : Int) := ⟨a.toNat, by omega⟩
  obtain ⟨k, rfl⟩ : ∃ k : Nat, b = (k : Int) := ⟨b.toNat, by omega⟩
  have hS' : mNew [.c (.int .i64 (Int.ofNat n)), .c (.int .i64 (Int.ofNat k))] [] = some (mkS Unit (.ret ()) fun _ => some (.tup [.c (.ptr 0 0), .c (.int .i64 0)],
    [some ⟨[.sl 1 0 n n, .sl 2 0 k k], 188, false, none⟩, some ⟨[], 34, false, some (.col .u64 (List.replicate n 0))⟩, some ⟨[], 5, false, some (.col .u8 (List.replicate k 0))⟩])) := by
   simp only [mNew]
   rw [if_pos (by omega)]
  exact sound_mNew.2 _ _ _ hS' e w _ F vs E hv hR hF () v H' _ rfl hfx
 ·cases hS
def mTrue : Sm := fun args H => match args, H with
 | [], [] => some (mkS Unit (guardT true) (fun _ => some (.c (.bool true), [])))
 | _, _ => none
noncomputable def kv0 : List (Nat × Sm) := (126, viaS false m_pinitT) :: (72, viaS false m_rinitT) :: (21, viaS false m_placeT) :: (22, viaS true m_alignedT) :: (26, viaS true m_mallocT) :: (25, viaS true m_afreeT) :: (27, viaS false m_releaseT) :: (18, m_newT) :: (221, mNewS) :: ka18
theorem s_kv0 : SoundL NP kv0 := (.cons (sound_viaS fun _ _ _ _ _ => s_m_pinitT s_ka7) (.cons (sound_viaS fun _ _ _ _ _ => s_m_rinitT s_ka5) (.cons (sound_viaS fun _ _ _ _ _ => s_m_placeT s_ka13) (.cons (sound_viaS fun _ _ _ _ _ => s_m_alignedT s_ka14) (.cons (sound_viaS fun _ _ _ _ _ => s_m_mallocT s_ka15) (.cons (sound_viaS fun _ _ _ _ _ => s_m_afreeT s_ka13) (.cons (sound_viaS fun _ _ _ _ _ => s_m_releaseT s_ka11) (.cons (s_m_newT s_ka18) (.cons sound_mNewS s_ka18)))))))))
noncomputable def kv1 : List (Nat × Sm) := (19, inl Tryz.prog (lookK kv0) 1 Tryz.f19) :: kv0
theorem s_kv1 : SoundL NP kv1 := .cons (sound_in s_kv0 1 Tryz.func19 (by kernel_rfl) (by kernel_rfl)) s_kv0
noncomputable def kv2 : List (Nat × Sm) := (150, inl Tryz.prog (lookK kv1) 1 Tryz.f150) :: kv1
theorem s_kv2 : SoundL NP kv2 := .cons (sound_in s_kv1 1 Tryz.func150 (by kernel_rfl) (by kernel_rfl)) s_kv1
noncomputable def kv3 : List (Nat × Sm) := (71, inl Tryz.prog (lookK kv2) 1 Tryz.f71) :: kv2
theorem s_kv3 : SoundL NP kv3 := .cons (sound_in s_kv2 1 Tryz.func71 (by kernel_rfl) (by kernel_rfl)) s_kv2
noncomputable def kv4 : List (Nat × Sm) := (20, inl Tryz.prog (lookK kv3) 1 Tryz.f20) :: kv3
theorem s_kv4 : SoundL NP kv4 := .cons (sound_in s_kv3 1 Tryz.func20 (by kernel_rfl) (by kernel_rfl)) s_kv3
noncomputable def kv5 : List (Nat × Sm) := kv4
theorem s_kv5 : SoundL NP kv5 := s_kv4
end Go.Proofs.YtaegelbaghaooaaGreat
