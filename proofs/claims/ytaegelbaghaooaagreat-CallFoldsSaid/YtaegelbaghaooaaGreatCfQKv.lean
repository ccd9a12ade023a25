/- Part. -/
import Derived.Test.YtaegelbaghaooaaGreatCfQVis
import Derived.Test.YtaegelbaghaooaaGreatCfQNew
set_option linter.all false
open Go.IntKind (i64 u64 u32 u8)
namespace Go.Proofs.YtaegelbaghaooaaGreat
open Go.RowKit Lx
set_option maxRecDepth 1000000
def mNewS : Sm := fun
 | [.c (.int .i64 x), .c (.int .i64 y)], [] => some (mkS Unit (yu (decide (0 <= x /\ x <= 1000000 /\ 0 <= y /\ y <= 1000000))) fun _ => some (.tup [.c (.ptr 0 0), .c (.int .i64 0)],
    [some ⟨[.sl 1 0 x.toNat x.toNat, .sl 2 0 y.toNat y.toNat], 188, false, none⟩, some ⟨[], 34, false, some (.col .u64 (List.replicate x.toNat 0))⟩, some ⟨[], 5, false, some (.col .u8 (List.replicate y.toNat 0))⟩]))
 | _, _ => none
theorem xot : SoundF NP 221 mNewS := by
 refine ⟨WG.1, ?_⟩
 intro args H S hS e w s0 F vs E hv hR hF x v H' s' hrun hfx
 unfold mNewS at hS
 split at hS
 ·rename_i a b
  cases hS
  obtain ⟨hg, rfl⟩ := qS hrun
  rw [decide_eq_true_eq] at hg
  obtain ⟨n, rfl⟩ : ∃ n : Nat, a = (n : Int) := ⟨a.toNat, by omega⟩
  obtain ⟨k, rfl⟩ : ∃ k : Nat, b = (k : Int) := ⟨b.toNat, by omega⟩
  have hS' : mNew [.c (.int .i64 (Int.ofNat n)), .c (.int .i64 (Int.ofNat k))] [] = some (mkS Unit (.ret ()) fun _ => some (.tup [.c (.ptr 0 0), .c (.int .i64 0)],
    [some ⟨[.sl 1 0 n n, .sl 2 0 k k], 188, false, none⟩, some ⟨[], 34, false, some (.col .u64 (List.replicate n 0))⟩, some ⟨[], 5, false, some (.col .u8 (List.replicate k 0))⟩])) := by
   simp only [mNew]
   rw [if_pos (by omega)]
  exact WG.2 _ _ _ hS' e w _ F vs E hv hR hF () v H' _ rfl hfx
 ·cases hS
def mTrue : Sm := fun
 | [], [] => some (mkS Unit (yu true) (fun _ => some (.c (.bool true), [])))
 | _, _ => none
noncomputable def kv0 : List (Nat × Sm) := (126, viaS false xax) :: (72, viaS false xfL) :: (21, viaS false xel) :: (22, viaS true Wx) :: (26, viaS true xaT) ::
 (30, viaS true XU) :: (25, viaS true xeo) :: (27, viaS false Wt) :: (28, viaS false xiZ) :: (18, xry) :: (221, mNewS) :: ka18
theorem s_kv0 : SoundL NP kv0 :=
 .cons (yw fun _ _ _ _ _ => xf9 ww) <| .cons (yw fun _ _ _ _ _ => xfM vS) <| .cons (yw fun _ _ _ _ _ => xem qH) <| .cons (yw fun _ _ _ _ _ => Ka ZK) <| .cons (yw fun _ _ _ _ _ => xb5 xi5) <|
 .cons (yw fun _ _ _ _ _ => xb4 ZK) <| .cons (yw fun _ _ _ _ _ => xep qH) <| .cons (yw fun _ _ _ _ _ => VR xee) <| .cons (yw fun _ _ _ _ _ => xhp qH) <| .cons (xwz xpf) <| .cons xot xpf
noncomputable def kv1 : List (Nat × Sm) := (19, inl Tryz.prog (xo kv0) 1 Tryz.f19) :: kv0
theorem s_kv1 : SoundL NP kv1 := .cons (xD s_kv0 1 Tryz.func19 (by kernel_rfl) (by kernel_rfl)) s_kv0
noncomputable def kv2 : List (Nat × Sm) := kv1
theorem s_kv2 : SoundL NP kv2 := s_kv1
noncomputable def kv3 : List (Nat × Sm) := kv2
theorem s_kv3 : SoundL NP kv3 := s_kv2
noncomputable def kv4 : List (Nat × Sm) := kv3
theorem s_kv4 : SoundL NP kv4 := s_kv3
noncomputable def kv5 : List (Nat × Sm) := kv4
theorem s_kv5 : SoundL NP kv5 := s_kv4
end Go.Proofs.YtaegelbaghaooaaGreat
