/- A memory's accesses, at once: mem.Do and what it calls, port.Direct's methods. -/
import Derived.Test.YtaegelbaghaooaaGreatProg
import Derived.Test.YtaegelbaghaooaaGreatLib
import Derived.Test.YtaegelbaghaooaaGreatQPort
import Derived.WalkSpells
import Derived.WalkLawsBesides
import Derived.Lib.Hide
import Derived.Deep.QuietTactic
import Derived.BigQuiet
namespace Go.Proofs.YtaegelbaghaooaaGreat
open Go.RowKit Lx
set_option linter.unusedVariables false
theorem words_any (mm wb n n' : Nat) (w : World) (h0 : w.cell? ⟨mm, 0, none⟩ = some (.slice (some ⟨wb, 0, none⟩) n n')) :
    Calls Tryz.prog 184 #[.pointer (some ⟨mm, 0, none⟩)] w fun e w' => e = .returned (.int .i64 n) ∧ w = w' := by
  go_enter Tryz.func184, Tryz.ntmps184
  go_wp2
  go_ret
  exact ⟨rfl, rfl⟩
theorem bytes_any (mm bb k k' : Nat) (w : World) (h1 : w.cell? ⟨mm, 1, none⟩ = some (.slice (some ⟨bb, 0, none⟩) k k')) :
    Calls Tryz.prog 186 #[.pointer (some ⟨mm, 0, none⟩)] w fun e w' => e = .returned (.int .i64 k) ∧ w = w' := by
  go_enter Tryz.func186, Tryz.ntmps186
  go_wp2
  go_ret
  exact ⟨rfl, rfl⟩
theorem way_any (d wy : Nat) (w : World) (h0 : w.cell? ⟨d, 0, none⟩ = some (.pointer (some ⟨wy, 0, none⟩))) :
    Calls Tryz.prog 104 #[.pointer (some ⟨d, 0, none⟩)] w fun e w' => e = .returned (.pointer (some ⟨wy, 0, none⟩)) ∧ w = w' := by
  go_enter Tryz.func104, Tryz.ntmps104
  go_wp2
  go_ret
  exact ⟨rfl, rfl⟩
theorem self_any (d : Nat) (s : Int) (w : World) (h0 : w.cell? ⟨d, 1, none⟩ = some (.int .i64 s)) :
    Calls Tryz.prog 307 #[.pointer (some ⟨d, 0, none⟩)] w fun e w' => e = .returned (.int .i64 s) ∧ w = w' := by
  go_enter Tryz.func307, Tryz.ntmps307
  go_wp2
  go_ret
  exact ⟨rfl, rfl⟩
theorem steps_any (d wy : Nat) (s : Int) (w : World) (h0 : w.cell? ⟨d, 0, none⟩ = some (.pointer (some ⟨wy, 0, none⟩))) (h1 : w.cell? ⟨wy, 1, none⟩ = some (.int .i64 s)) :
    Calls Tryz.prog 43 #[.pointer (some ⟨d, 0, none⟩)] w fun e w' => e = .returned (.int .i64 s) ∧ w = w' := by
  go_enter Tryz.func43, Tryz.ntmps43
  go_wp2_with (go_at_call 104; refine (way_any d wy _ h0).mono ?_; rintro e w' ⟨rfl, rfl⟩)
  go_ret
  exact ⟨rfl, rfl⟩
theorem k1_any (x : Int) (kd at_ A B : Int) (w : World) :
    Calls Tryz.prog 244 #[.int .u64 x, .agg #[.int .u8 kd, .int .i64 at_, .int .u64 A, .int .u64 B]] w fun e w' => e = .returned (.tuple #[.int .u64 x, .int .u64 x]) ∧ Below w.heap.size w w' := by
  go_enter Tryz.func244, Tryz.ntmps244
  go_wp2
  go_ret2
  exact ⟨rfl, by first | exact Below.refl _ _ | exact (Below.refl _ _).alloc (Nat.le_refl _) _⟩
theorem k2_any (x : Int) (kd at_ A B : Int) (w : World) :
    Calls Tryz.prog 245 #[.int .u64 x, .agg #[.int .u8 kd, .int .i64 at_, .int .u64 A, .int .u64 B]] w fun e w' => e = .returned (.tuple #[.int .u64 A, .int .u64 0]) ∧ Below w.heap.size w w' := by
  go_enter Tryz.func245, Tryz.ntmps245
  go_wp2
  go_ret2
  exact ⟨rfl, by first | exact Below.refl _ _ | exact (Below.refl _ _).alloc (Nat.le_refl _) _⟩
theorem k3_yes (x : Int) (kd at_ B : Int) (w : World) :
    Calls Tryz.prog 246 #[.int .u64 x, .agg #[.int .u8 kd, .int .i64 at_, .int .u64 x, .int .u64 B]] w fun e w' => e = .returned (.tuple #[.int .u64 B, .int .u64 1]) ∧ Below w.heap.size w w' := by
  go_enter Tryz.func246, Tryz.ntmps246
  go_wp2
  go_ret2
  exact ⟨rfl, by first | exact Below.refl _ _ | exact (Below.refl _ _).alloc (Nat.le_refl _) _⟩
theorem k3_no (x : Int) (kd at_ A B : Int) (w : World) (h : (x == A) = false) (h' : (x != A) = true) :
    Calls Tryz.prog 246 #[.int .u64 x, .agg #[.int .u8 kd, .int .i64 at_, .int .u64 A, .int .u64 B]] w fun e w' => e = .returned (.tuple #[.int .u64 x, .int .u64 0]) ∧ Below w.heap.size w w' := by
  go_enter Tryz.func246, Tryz.ntmps246
  go_wp2
  go_ret2
  exact ⟨rfl, by first | exact Below.refl _ _ | exact (Below.refl _ _).alloc (Nat.le_refl _) _⟩
theorem k4_any (x : Int) (kd at_ A B : Int) (w : World) :
    Calls Tryz.prog 247 #[.int .u64 x, .agg #[.int .u8 kd, .int .i64 at_, .int .u64 A, .int .u64 B]] w fun e w' => e = .returned (.tuple #[.int .u64 (IntKind.u64.wrap (x + A)), .int .u64 x]) ∧ Below w.heap.size w w' := by
  go_enter Tryz.func247, Tryz.ntmps247
  go_wp2
  go_ret2
  exact ⟨rfl, by first | exact Below.refl _ _ | exact (Below.refl _ _).alloc (Nat.le_refl _) _⟩
def kindsV : Value := .agg #[.nilFunc, .func (.func 244) #[] #[], .func (.func 245) #[] #[], .func (.func 246) #[] #[], .func (.func 247) #[] #[]]
theorem kinds_any (w : World) : Calls Tryz.prog 185 #[] w fun e w' => e = .returned (.agg #[.nilFunc, .func (.func 244) #[] #[], .func (.func 245) #[] #[], .func (.func 246) #[] #[], .func (.func 247) #[] #[]]) ∧ Below w.heap.size w w' :=
  Lx.calls_flat (m := inl Tryz.prog (fun _ => none) 1 Tryz.f185) (args := []) (vs := []) (x := (.agg [.nilf, .fn 244 [], .fn 245 [], .fn 246 [], .fn 247 []], []))
    (sound_inl (fun f m h => by cases h) mixed Tryz.func185 (by kernel_rfl) (by kernel_rfl) 1) rfl rfl (by kernel_rfl) rfl (fun e => by kernel_rfl) w
end Go.Proofs.YtaegelbaghaooaaGreat
