/- Layer 15 by a port in own blocks, its memory as letters: what the laws' code asks for. -/
import Derived.Test.YtaegelbaghaooaaGreatErQVis
import Derived.Test.YtaegelbaghaooaaGreatErQNew
import Derived.Test.YtaegelbaghaooaaGreatErM5
set_option linter.all false
open Go.IntKind (i64 u64 u32 u8)
namespace Go.Proofs.YtaegelbaghaooaaGreat
open Go.RowKit Lx
set_option maxRecDepth 1000000
def mNewS : Sm := fun args H => match args, H with
 | [.c (.int .i64 x), .c (.int .i64 y)], [] => some (mkS Unit (xE (decide (0 <= x /\ x <= 1000000 /\ 0 <= y /\ y <= 1000000))) fun _ => some (.tup [.c (.ptr 0 0), .c (.int .i64 0)],
    [some ⟨[.sl 1 0 x.toNat x.toNat, .sl 2 0 y.toNat y.toNat], 188, false, none⟩, some ⟨[], 34, false, some (.col .u64 (List.replicate x.toNat 0))⟩, some ⟨[], 5, false, some (.col .u8 (List.replicate y.toNat 0))⟩]))
 | _, _ => none
theorem xmj : SoundF NP 221 mNewS := by
 refine ⟨YW.1, ?_⟩
 intro args H S hS e w s0 F vs E hv hR hF x v H' s' hrun hfx
 unfold mNewS at hS
 split at hS
 ·rename_i a b
  cases hS
  obtain ⟨hg, rfl⟩ := vd hrun
  rw [decide_eq_true_eq] at hg
  obtain ⟨n, rfl⟩ : ∃ n : Nat, a = (n : Int) := ⟨a.toNat, by omega⟩
  obtain ⟨k, rfl⟩ : ∃ k : Nat, b = (k : Int) := ⟨b.toNat, by omega⟩
  have hS' : mNew [.c (.int .i64 (Int.ofNat n)), .c (.int .i64 (Int.ofNat k))] [] = some (mkS Unit (.ret ()) fun _ => some (.tup [.c (.ptr 0 0), .c (.int .i64 0)],
    [some ⟨[.sl 1 0 n n, .sl 2 0 k k], 188, false, none⟩, some ⟨[], 34, false, some (.col .u64 (List.replicate n 0))⟩, some ⟨[], 5, false, some (.col .u8 (List.replicate k 0))⟩])) := by
   simp only [mNew]
   rw [if_pos (by omega)]
  exact YW.2 _ _ _ hS' e w _ F vs E hv hR hF () v H' _ rfl hfx
 ·cases hS
def mTrue : Sm := fun args H => match args, H with
 | [], [] => some (mkS Unit (xE true) (fun _ => some (.c (.bool true), [])))
 | _, _ => none
noncomputable def kv0 : List (Nat × Sm) := (126, viaS false Ks) :: (72, viaS false Kf) :: (21, viaS false Vj) :: (22, viaS true qx) :: (26, viaS true Xt) :: (25, viaS true Vk) :: (27, viaS false qv) :: (28, viaS false xbQ) :: (18, xo1) :: (221, mNewS) :: ka18
theorem s_kv0 : SoundL NP kv0 := (.cons (yU fun _ _ _ _ _ => xeM Zm) (.cons (yU fun _ _ _ _ _ => xew qb) (.cons (yU fun _ _ _ _ _ => xcX Zw) (.cons (yU fun _ _ _ _ _ => Vl xc0) (.cons (yU fun _ _ _ _ _ => xa4 xc2) (.cons (yU fun _ _ _ _ _ => xcZ Zw) (.cons (yU fun _ _ _ _ _ => Vd xg9) (.cons (yU fun _ _ _ _ _ => xfQ Zw) (.cons (xtv xm0) (.cons xmj xm0))))))))))
noncomputable def kv1 : List (Nat × Sm) := (19, inl Tryz.prog (xw kv0) 1 Tryz.f19) :: kv0
theorem s_kv1 : SoundL NP kv1 := .cons (xJ s_kv0 1 Tryz.func19 (by kernel_rfl) (by kernel_rfl)) s_kv0
noncomputable def kv2 : List (Nat × Sm) := (150, inl Tryz.prog (xw kv1) 1 Tryz.f150) :: kv1
theorem s_kv2 : SoundL NP kv2 := .cons (xJ s_kv1 1 Tryz.func150 (by kernel_rfl) (by kernel_rfl)) s_kv1
noncomputable def kv3 : List (Nat × Sm) := (71, inl Tryz.prog (xw kv2) 1 Tryz.f71) :: kv2
theorem s_kv3 : SoundL NP kv3 := .cons (xJ s_kv2 1 Tryz.func71 (by kernel_rfl) (by kernel_rfl)) s_kv2
noncomputable def kv4 : List (Nat × Sm) := (20, inl Tryz.prog (xw kv3) 1 Tryz.f20) :: kv3
theorem s_kv4 : SoundL NP kv4 := .cons (xJ s_kv3 1 Tryz.func20 (by kernel_rfl) (by kernel_rfl)) s_kv3
noncomputable def kv5 : List (Nat × Sm) := kv4
theorem s_kv5 : SoundL NP kv5 := s_kv4
end Go.Proofs.YtaegelbaghaooaaGreat
