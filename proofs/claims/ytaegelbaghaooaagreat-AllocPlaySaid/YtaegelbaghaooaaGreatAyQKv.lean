/- Layer 15 by a port in own blocks, its memory as letters: what the laws' code asks for. -/
import Derived.Test.YtaegelbaghaooaaGreatAyQVis
import Derived.Test.YtaegelbaghaooaaGreatAyQNew
import Derived.Test.YtaegelbaghaooaaGreatAyM5
set_option linter.unusedSimpArgs false
set_option linter.unusedVariables false
set_option linter.unusedSectionVars false
namespace Go.Proofs.YtaegelbaghaooaaGreat
open Go.RowKit Lx
set_option maxRecDepth 1000000
def mNewS : Sm := fun args H => match args, H with
 | [.c (.int .i64 x), .c (.int .i64 y)], [] => some (mkS Unit (yz (decide (0 ≤ x ∧ x ≤ 1000000 ∧ 0 ≤ y ∧ y ≤ 1000000))) fun _ => some (.tup [.c (.ptr 0 0), .c (.int .i64 0)],
    [some ⟨[.sl 1 0 x.toNat x.toNat, .sl 2 0 y.toNat y.toNat], 188, false, none⟩, some ⟨[], 34, false, some (.col .u64 (List.replicate x.toNat 0))⟩, some ⟨[], 5, false, some (.col .u8 (List.replicate y.toNat 0))⟩]))
 | _, _ => none
theorem xlO : SoundF NP 221 mNewS := by
 refine ⟨YV.1, ?_⟩
 intro args H S hS e w s0 F vs E hv hR hF x v H' s' hrun hfx
 unfold mNewS at hS
 split at hS
 ·rename_i a b
  cases hS
  obtain ⟨hg, rfl⟩ := qw hrun
  rw [decide_eq_true_eq] at hg
  obtain ⟨n, rfl⟩ : ∃ n : Nat, a = (n : Int) := ⟨a.toNat, by omega⟩
  obtain ⟨k, rfl⟩ : ∃ k : Nat, b = (k : Int) := ⟨b.toNat, by omega⟩
  have hS' : mNew [.c (.int .i64 (Int.ofNat n)), .c (.int .i64 (Int.ofNat k))] [] = some (mkS Unit (.ret ()) fun _ => some (.tup [.c (.ptr 0 0), .c (.int .i64 0)],
    [some ⟨[.sl 1 0 n n, .sl 2 0 k k], 188, false, none⟩, some ⟨[], 34, false, some (.col .u64 (List.replicate n 0))⟩, some ⟨[], 5, false, some (.col .u8 (List.replicate k 0))⟩])) := by
   simp only [mNew]
   rw [if_pos (by omega)]
  exact YV.2 _ _ _ hS' e w _ F vs E hv hR hF () v H' _ rfl hfx
 ·cases hS
def mTrue : Sm := fun args H => match args, H with
 | [], [] => some (mkS Unit (yz true) (fun _ => some (.c (.bool true), [])))
 | _, _ => none
noncomputable def kv0 : List (Nat × Sm) := (126, viaS false Ks) :: (72, viaS false Ki) :: (21, viaS false VO) :: (22, viaS true qS) :: (26, viaS true XI) ::
 (30, viaS true XH) :: (25, viaS true VP) :: (27, viaS false qN) :: (28, viaS false xb0) :: (18, xoD) :: (221, mNewS) :: ka18
theorem s_kv0 : SoundL NP kv0 :=
 .cons (yR fun _ _ _ _ _ => xez Zl) <| .cons (yR fun _ _ _ _ _ => xel jY) <| .cons (yR fun _ _ _ _ _ => xdH Wh) <| .cons (yR fun _ _ _ _ _ => VS xdJ) <| .cons (yR fun _ _ _ _ _ => xbq xnJ) <|
 .cons (yR fun _ _ _ _ _ => xbp xdJ) <| .cons (yR fun _ _ _ _ _ => xdI Wh) <| .cons (yR fun _ _ _ _ _ => VI xhV) <| .cons (yR fun _ _ _ _ _ => xgD Wh) <| .cons (xtu xnK) <| .cons xlO xnK
noncomputable def kv1 : List (Nat × Sm) := (19, inl Tryz.prog (xt kv0) 1 Tryz.f19) :: kv0
theorem s_kv1 : SoundL NP kv1 := .cons (xF s_kv0 1 Tryz.func19 (by kernel_rfl) (by kernel_rfl)) s_kv0
noncomputable def kv2 : List (Nat × Sm) := (150, inl Tryz.prog (xt kv1) 1 Tryz.f150) :: kv1
theorem s_kv2 : SoundL NP kv2 := .cons (xF s_kv1 1 Tryz.func150 (by kernel_rfl) (by kernel_rfl)) s_kv1
noncomputable def kv3 : List (Nat × Sm) := (71, inl Tryz.prog (xt kv2) 1 Tryz.f71) :: kv2
theorem s_kv3 : SoundL NP kv3 := .cons (xF s_kv2 1 Tryz.func71 (by kernel_rfl) (by kernel_rfl)) s_kv2
noncomputable def kv4 : List (Nat × Sm) := (20, inl Tryz.prog (xt kv3) 1 Tryz.f20) :: kv3
theorem s_kv4 : SoundL NP kv4 := .cons (xF s_kv3 1 Tryz.func20 (by kernel_rfl) (by kernel_rfl)) s_kv3
theorem xlP : SoundF NP 23 mTrue := by
 refine kR Tryz.func23 (by kernel_rfl) (by kernel_rfl) fun args H S hS => ?_
 unfold mTrue at hS
 split at hS
 ·cases hS
  exact ⟨rfl, true, _, rfl, [], .bool true, fun e => rfl, fun e => rfl, fun _ w => awake15 w⟩
 ·cases hS
noncomputable def kv5 : List (Nat × Sm) := (23, mTrue) :: kv4
theorem s_kv5 : SoundL NP kv5 := .cons xlP s_kv4
end Go.Proofs.YtaegelbaghaooaaGreat
