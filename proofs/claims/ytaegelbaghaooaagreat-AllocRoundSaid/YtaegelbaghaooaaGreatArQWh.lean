/- Summaries: is an arena whole? (trees printed by program, wip/auto.py) -/
import Derived.Test.YtaegelbaghaooaaGreatArQKz
import Derived.WalkKit
set_option linter.unusedSimpArgs false
set_option linter.unusedVariables false
namespace Go.Proofs.YtaegelbaghaooaaGreat.Lx
open Go
set_option maxRecDepth 1000000
set_option linter.unusedVariables false

def whoT_0B {β : Type} (b0 : Bool) (n2 : Nat) (n3 : Nat) (n4 : Nat) (n5 : Nat) (l6 : IntsL) (l7 : IntsL) (g8 : Geo) (κ0 : Unit → T β) (κ1 : Unit → T β) (i : Int) (k : Int → T β) : T β :=
 bif decide (i < g8.pages) then ((guardT (decide (n3 = n2 ∧ n5 = n4 ∧ List.length l6 = n2 ∧ List.length l7 = n4 ∧ n2 ≤ 1000000 ∧ n4 ≤ 1000000) && true)).bind fun r1 =>
 bif ofW IntKind.i64 (oz (atI l6 (atF g8 9 i))) 0 24 != 0 then (κ0 ()) else
 (guardT (decide (n3 = n2 ∧ n5 = n4 ∧ List.length l6 = n2 ∧ List.length l7 = n4 ∧ n2 ≤ 1000000 ∧ n4 ≤ 1000000) && true)).bind fun r3 =>
 bif decide (ofW IntKind.i64 (oz (atI l6 (atF g8 8 i))) 8 3 > 0) then (κ0 ()) else
 k (IntKind.wrap IntKind.i64 (i + 1))) else
 κ1 ()
def whoT_0L {β : Type} (b0 : Bool) (n2 : Nat) (n3 : Nat) (n4 : Nat) (n5 : Nat) (l6 : IntsL) (l7 : IntsL) (g8 : Geo) (a1 : Int) (κ0 : Unit → T β) (κ1 : Unit → T β) : T β := loopB fuelN (whoT_0B b0 n2 n3 n4 n5 l6 l7 g8 κ0 κ1) (a1)
theorem whoT_0L_bind {β γ : Type} (b0 : Bool) (n2 : Nat) (n3 : Nat) (n4 : Nat) (n5 : Nat) (l6 : IntsL) (l7 : IntsL) (g8 : Geo) (a1 : Int) (κ0 : Unit → T β) (κ1 : Unit → T β) (κ : β → T γ) : (whoT_0L b0 n2 n3 n4 n5 l6 l7 g8 a1 κ0 κ1).bind κ = whoT_0L b0 n2 n3 n4 n5 l6 l7 g8 a1 (fun u => (κ0 u).bind κ) (fun u => (κ1 u).bind κ) := by
  unfold whoT_0L
  refine loopB_bind κ (fun i k => ?_) _ _
  unfold whoT_0B
  first | rfl | (simp only [bind_cond, bind_ret_, bind_op, bind_fail, T.bind_assoc])
def whoT_0_p : Pat := ⟨slotsN 110 0 [(0, .c (.raw (.ptr 0 0))), (3, .c (.raw (.ptr 3 0))), (4, .c (.bool)), (5, .c (.int .i64))], [some ⟨[.sl 1 0, .sl 2 0], 188, false, none⟩, some ⟨[], 34, false, some (.col .u64)⟩, some ⟨[], 5, false, some (.col .u8)⟩, some ⟨[.geo], 24, false, none⟩]⟩
def whoT_0_e0 : Pat := ⟨slotsN 110 0 [(0, .c (.raw (.ptr 0 0))), (3, .c (.raw (.ptr 3 0))), (4, .c (.bool))], [some ⟨[.sl 1 0, .sl 2 0], 188, false, none⟩, some ⟨[], 34, false, some (.col .u64)⟩, some ⟨[], 5, false, some (.col .u8)⟩, some ⟨[.geo], 24, false, none⟩]⟩
def whoT_0_e1 : Pat := ⟨slotsN 110 0 [(0, .c (.raw (.ptr 0 0))), (3, .c (.raw (.ptr 3 0))), (4, .c (.bool))], [some ⟨[.sl 1 0, .sl 2 0], 188, false, none⟩, some ⟨[], 34, false, some (.col .u64)⟩, some ⟨[], 5, false, some (.col .u8)⟩, some ⟨[.geo], 24, false, none⟩]⟩
def whoT_0F : St → (Ex → St → T R) → Option (T R) := fun st K => match matchSt whoT_0_p st with
  | some [.b b0, .i a1, .n n2, .n n3, .n n4, .n n5, .l l6, .l l7, .g g8] => some (whoT_0L b0 n2 n3 n4 n5 l6 l7 g8 a1 (fun _ => K (.ret) (instSt whoT_0_e0 [.b (false), .n (n2), .n (n3), .n (n4), .n (n5), .l (l6), .l (l7), .g (g8)])) (fun _ => K (.exit 0) (instSt whoT_0_e1 [.b (b0), .n (n2), .n (n3), .n (n4), .n (n5), .l (l6), .l (l7), .g (g8)])))
  | _ => none
theorem whoT_0Ok : ∀ st K t, whoT_0F st K = some t → loopN fuelN (loopF2 Tryz.prog (lookK kz0m) fuelN 3 .no (loopC [1, 1, 0, 1, 0] Tryz.f29) (loopV [1, 1, 0, 1, 0] Tryz.f29) K) st = t := by
  intro st K t h
  unfold whoT_0F at h
  split at h
  · rename_i b0 a1 n2 n3 n4 n5 l6 l7 g8 hm
    cases h
    rw [matchSt_eq hm]
    exact cast (by kernel_rfl) (loop_eq (F := loopF2 Tryz.prog (lookK kz0m) fuelN 3 .no (loopC [1, 1, 0, 1, 0] Tryz.f29) (loopV [1, 1, 0, 1, 0] Tryz.f29) K) (S := fun i => instSt whoT_0_p [.b (b0), .i (i), .n (n2), .n (n3), .n (n4), .n (n5), .l (l6), .l (l7), .g (g8)]) (B := whoT_0B b0 n2 n3 n4 n5 l6 l7 g8 (fun _ => K (.ret) (instSt whoT_0_e0 [.b (false), .n (n2), .n (n3), .n (n4), .n (n5), .l (l6), .l (l7), .g (g8)])) (fun _ => K (.exit 0) (instSt whoT_0_e1 [.b (b0), .n (n2), .n (n3), .n (n4), .n (n5), .l (l6), .l (l7), .g (g8)]))) (fun i k => by kernel_rfl) fuelN (a1))
  · cases h
def whoT_4B {β : Type} (b0 : Bool) (a1 : Int) (a2 : Int) (a3 : Int) (a4 : Int) (n6 : Nat) (n7 : Nat) (n8 : Nat) (n9 : Nat) (l10 : IntsL) (l11 : IntsL) (g12 : Geo) (κ0 : Unit → T β) (κ1 : Unit → T β) (i : Int) (k : Int → T β) : T β :=
 bif decide (i < 8) then ((guardT (decide (n7 = n6 ∧ n9 = n8 ∧ List.length l10 = n6 ∧ List.length l11 = n8 ∧ n6 ≤ 1000000 ∧ n8 ≤ 1000000) && true)).bind fun r1 =>
 bif oz (atI l10 (atF g12 18 (inF (IntKind.wrap IntKind.i64 (a3 - 1)) i 8))) != 0 then (κ0 ()) else
 k (IntKind.wrap IntKind.i64 (i + 1))) else
 κ1 ()
def whoT_4L {β : Type} (b0 : Bool) (a1 : Int) (a2 : Int) (a3 : Int) (a4 : Int) (n6 : Nat) (n7 : Nat) (n8 : Nat) (n9 : Nat) (l10 : IntsL) (l11 : IntsL) (g12 : Geo) (a5 : Int) (κ0 : Unit → T β) (κ1 : Unit → T β) : T β := loopB fuelN (whoT_4B b0 a1 a2 a3 a4 n6 n7 n8 n9 l10 l11 g12 κ0 κ1) (a5)
theorem whoT_4L_bind {β γ : Type} (b0 : Bool) (a1 : Int) (a2 : Int) (a3 : Int) (a4 : Int) (n6 : Nat) (n7 : Nat) (n8 : Nat) (n9 : Nat) (l10 : IntsL) (l11 : IntsL) (g12 : Geo) (a5 : Int) (κ0 : Unit → T β) (κ1 : Unit → T β) (κ : β → T γ) : (whoT_4L b0 a1 a2 a3 a4 n6 n7 n8 n9 l10 l11 g12 a5 κ0 κ1).bind κ = whoT_4L b0 a1 a2 a3 a4 n6 n7 n8 n9 l10 l11 g12 a5 (fun u => (κ0 u).bind κ) (fun u => (κ1 u).bind κ) := by
  unfold whoT_4L
  refine loopB_bind κ (fun i k => ?_) _ _
  unfold whoT_4B
  first | rfl | (simp only [bind_cond, bind_ret_, bind_op, bind_fail, T.bind_assoc])
def whoT_4_p : Pat := ⟨slotsN 110 0 [(0, .c (.raw (.ptr 0 0))), (3, .c (.raw (.ptr 3 0))), (4, .c (.bool)), (6, .c (.int .i64)), (7, .c (.int .i64)), (8, .c (.int .i64)), (9, .c (.int .i64)), (10, .c (.int .i64))], [some ⟨[.sl 1 0, .sl 2 0], 188, false, none⟩, some ⟨[], 34, false, some (.col .u64)⟩, some ⟨[], 5, false, some (.col .u8)⟩, some ⟨[.geo], 24, false, none⟩]⟩
def whoT_4_e0 : Pat := ⟨slotsN 110 0 [(0, .c (.raw (.ptr 0 0))), (3, .c (.raw (.ptr 3 0))), (4, .c (.bool)), (6, .c (.int .i64)), (7, .c (.int .i64)), (8, .c (.int .i64)), (9, .c (.int .i64))], [some ⟨[.sl 1 0, .sl 2 0], 188, false, none⟩, some ⟨[], 34, false, some (.col .u64)⟩, some ⟨[], 5, false, some (.col .u8)⟩, some ⟨[.geo], 24, false, none⟩]⟩
def whoT_4_e1 : Pat := ⟨slotsN 110 0 [(0, .c (.raw (.ptr 0 0))), (3, .c (.raw (.ptr 3 0))), (4, .c (.bool)), (6, .c (.int .i64)), (7, .c (.int .i64)), (8, .c (.int .i64)), (9, .c (.int .i64))], [some ⟨[.sl 1 0, .sl 2 0], 188, false, none⟩, some ⟨[], 34, false, some (.col .u64)⟩, some ⟨[], 5, false, some (.col .u8)⟩, some ⟨[.geo], 24, false, none⟩]⟩
def whoT_4F : St → (Ex → St → T R) → Option (T R) := fun st K => match matchSt whoT_4_p st with
  | some [.b b0, .i a1, .i a2, .i a3, .i a4, .i a5, .n n6, .n n7, .n n8, .n n9, .l l10, .l l11, .g g12] => some (whoT_4L b0 a1 a2 a3 a4 n6 n7 n8 n9 l10 l11 g12 a5 (fun _ => K (.ret) (instSt whoT_4_e0 [.b (false), .i (a1), .i (a2), .i (a3), .i (a4), .n (n6), .n (n7), .n (n8), .n (n9), .l (l10), .l (l11), .g (g12)])) (fun _ => K (.exit 8) (instSt whoT_4_e1 [.b (b0), .i (a1), .i (a2), .i (a3), .i (a4), .n (n6), .n (n7), .n (n8), .n (n9), .l (l10), .l (l11), .g (g12)])))
  | _ => none
theorem whoT_4Ok : ∀ st K t, whoT_4F st K = some t → loopN fuelN (loopF2 Tryz.prog (lookK kz0m) fuelN 3 .no (loopC [1, 1, 1, 0, 1, 0, 0, 1, 0, 0, 1, 0, 0, 1, 0, 0, 1, 1, 1, 0, 0, 1, 0, 0, 0, 1, 0] Tryz.f29) (loopV [1, 1, 1, 0, 1, 0, 0, 1, 0, 0, 1, 0, 0, 1, 0, 0, 1, 1, 1, 0, 0, 1, 0, 0, 0, 1, 0] Tryz.f29) K) st = t := by
  intro st K t h
  unfold whoT_4F at h
  split at h
  · rename_i b0 a1 a2 a3 a4 a5 n6 n7 n8 n9 l10 l11 g12 hm
    cases h
    rw [matchSt_eq hm]
    exact cast (by kernel_rfl) (loop_eq (F := loopF2 Tryz.prog (lookK kz0m) fuelN 3 .no (loopC [1, 1, 1, 0, 1, 0, 0, 1, 0, 0, 1, 0, 0, 1, 0, 0, 1, 1, 1, 0, 0, 1, 0, 0, 0, 1, 0] Tryz.f29) (loopV [1, 1, 1, 0, 1, 0, 0, 1, 0, 0, 1, 0, 0, 1, 0, 0, 1, 1, 1, 0, 0, 1, 0, 0, 0, 1, 0] Tryz.f29) K) (S := fun i => instSt whoT_4_p [.b (b0), .i (a1), .i (a2), .i (a3), .i (a4), .i (i), .n (n6), .n (n7), .n (n8), .n (n9), .l (l10), .l (l11), .g (g12)]) (B := whoT_4B b0 a1 a2 a3 a4 n6 n7 n8 n9 l10 l11 g12 (fun _ => K (.ret) (instSt whoT_4_e0 [.b (false), .i (a1), .i (a2), .i (a3), .i (a4), .n (n6), .n (n7), .n (n8), .n (n9), .l (l10), .l (l11), .g (g12)])) (fun _ => K (.exit 8) (instSt whoT_4_e1 [.b (b0), .i (a1), .i (a2), .i (a3), .i (a4), .n (n6), .n (n7), .n (n8), .n (n9), .l (l10), .l (l11), .g (g12)]))) (fun i k => by kernel_rfl) fuelN (a5))
  · cases h
def whoT_3B {β : Type} (b0 : Bool) (a1 : Int) (a2 : Int) (n5 : Nat) (n6 : Nat) (n7 : Nat) (n8 : Nat) (l9 : IntsL) (l10 : IntsL) (g11 : Geo) (κ0 : Unit → T β) (κ1 : Unit → T β) (i : Int × Int) (k : Int × Int → T β) : T β :=
 bif i.1 != 0 then (whoT_4L (b0) (a1) (a2) (i.1) (i.2) (n5) (n6) (n7) (n8) (l9) (l10) (g11) (0) (fun y1_0 =>
 κ0 ()) (fun y1_0 =>
 bif decide (i.2 > nodesF g11) then (κ0 ()) else
 (guardT (decide (n6 = n5 ∧ n8 = n7 ∧ List.length l9 = n5 ∧ List.length l10 = n7 ∧ n5 ≤ 1000000 ∧ n7 ≤ 1000000) && true)).bind fun r3 =>
 k (ofW IntKind.i64 (oz (atI l9 (atF { pages := g11.pages, threads := g11.threads, b0 := g11.b0, b1 := g11.b1, b2 := g11.b2, b3 := g11.b3, b4 := g11.b4, b5 := g11.b5, b6 := g11.b6, b7 := g11.b7, b8 := g11.b8, b9 := g11.b9, b10 := g11.b10, b11 := g11.b11, b12 := g11.b12, b13 := g11.b13, b14 := g11.b14, b15 := g11.b15, b16 := g11.b16, b17 := g11.b17, b18 := g11.b18, b19 := g11.b19 } 17 (inF (IntKind.wrap IntKind.i64 (i.1 - 1)) 0 1)))) 0 24, IntKind.wrap IntKind.i64 (i.2 + 1)))) else
 κ1 ()
def whoT_3L {β : Type} (b0 : Bool) (a1 : Int) (a2 : Int) (n5 : Nat) (n6 : Nat) (n7 : Nat) (n8 : Nat) (l9 : IntsL) (l10 : IntsL) (g11 : Geo) (a3 : Int) (a4 : Int) (κ0 : Unit → T β) (κ1 : Unit → T β) : T β := loopB fuelN (whoT_3B b0 a1 a2 n5 n6 n7 n8 l9 l10 g11 κ0 κ1) (a3, a4)
theorem whoT_3L_bind {β γ : Type} (b0 : Bool) (a1 : Int) (a2 : Int) (n5 : Nat) (n6 : Nat) (n7 : Nat) (n8 : Nat) (l9 : IntsL) (l10 : IntsL) (g11 : Geo) (a3 : Int) (a4 : Int) (κ0 : Unit → T β) (κ1 : Unit → T β) (κ : β → T γ) : (whoT_3L b0 a1 a2 n5 n6 n7 n8 l9 l10 g11 a3 a4 κ0 κ1).bind κ = whoT_3L b0 a1 a2 n5 n6 n7 n8 l9 l10 g11 a3 a4 (fun u => (κ0 u).bind κ) (fun u => (κ1 u).bind κ) := by
  unfold whoT_3L
  refine loopB_bind κ (fun i k => ?_) _ _
  unfold whoT_3B
  first | rfl | (simp only [bind_cond, bind_ret_, bind_op, bind_fail, T.bind_assoc, whoT_4L_bind])
def whoT_3_p : Pat := ⟨slotsN 110 0 [(0, .c (.raw (.ptr 0 0))), (3, .c (.raw (.ptr 3 0))), (4, .c (.bool)), (6, .c (.int .i64)), (7, .c (.int .i64)), (8, .c (.int .i64)), (9, .c (.int .i64))], [some ⟨[.sl 1 0, .sl 2 0], 188, false, none⟩, some ⟨[], 34, false, some (.col .u64)⟩, some ⟨[], 5, false, some (.col .u8)⟩, some ⟨[.geo], 24, false, none⟩]⟩
def whoT_3_e0 : Pat := ⟨slotsN 110 0 [(0, .c (.raw (.ptr 0 0))), (3, .c (.raw (.ptr 3 0))), (4, .c (.bool)), (6, .c (.int .i64)), (7, .c (.int .i64))], [some ⟨[.sl 1 0, .sl 2 0], 188, false, none⟩, some ⟨[], 34, false, some (.col .u64)⟩, some ⟨[], 5, false, some (.col .u8)⟩, some ⟨[.geo], 24, false, none⟩]⟩
def whoT_3_e1 : Pat := ⟨slotsN 110 0 [(0, .c (.raw (.ptr 0 0))), (3, .c (.raw (.ptr 3 0))), (4, .c (.bool)), (6, .c (.int .i64)), (7, .c (.int .i64))], [some ⟨[.sl 1 0, .sl 2 0], 188, false, none⟩, some ⟨[], 34, false, some (.col .u64)⟩, some ⟨[], 5, false, some (.col .u8)⟩, some ⟨[.geo], 24, false, none⟩]⟩
def whoT_3F : St → (Ex → St → T R) → Option (T R) := fun st K => match matchSt whoT_3_p st with
  | some [.b b0, .i a1, .i a2, .i a3, .i a4, .n n5, .n n6, .n n7, .n n8, .l l9, .l l10, .g g11] => some (whoT_3L b0 a1 a2 n5 n6 n7 n8 l9 l10 g11 a3 a4 (fun _ => K (.ret) (instSt whoT_3_e0 [.b (false), .i (a1), .i (a2), .n (n5), .n (n6), .n (n7), .n (n8), .l (l9), .l (l10), .g (g11)])) (fun _ => K (.exit 6) (instSt whoT_3_e1 [.b (b0), .i (a1), .i (a2), .n (n5), .n (n6), .n (n7), .n (n8), .l (l9), .l (l10), .g (g11)])))
  | _ => none
theorem whoT_3Ok : ∀ st K t, whoT_3F st K = some t → loopN fuelN (loopF2 Tryz.prog (lookK kz0m) fuelN 3 (lsAt whoT_4F .no [1, 0, 0, 0, 1, 0]) (loopC [1, 1, 1, 0, 1, 0, 0, 1, 0, 0, 1, 0, 0, 1, 0, 0, 1, 1, 1, 0] Tryz.f29) (loopV [1, 1, 1, 0, 1, 0, 0, 1, 0, 0, 1, 0, 0, 1, 0, 0, 1, 1, 1, 0] Tryz.f29) K) st = t := by
  intro st K t h
  unfold whoT_3F at h
  split at h
  · rename_i b0 a1 a2 a3 a4 n5 n6 n7 n8 l9 l10 g11 hm
    cases h
    rw [matchSt_eq hm]
    exact cast (by kernel_rfl) (loop_eq (F := loopF2 Tryz.prog (lookK kz0m) fuelN 3 (lsAt whoT_4F .no [1, 0, 0, 0, 1, 0]) (loopC [1, 1, 1, 0, 1, 0, 0, 1, 0, 0, 1, 0, 0, 1, 0, 0, 1, 1, 1, 0] Tryz.f29) (loopV [1, 1, 1, 0, 1, 0, 0, 1, 0, 0, 1, 0, 0, 1, 0, 0, 1, 1, 1, 0] Tryz.f29) K) (S := fun i => instSt whoT_3_p [.b (b0), .i (a1), .i (a2), .i (i.1), .i (i.2), .n (n5), .n (n6), .n (n7), .n (n8), .l (l9), .l (l10), .g (g11)]) (B := whoT_3B b0 a1 a2 n5 n6 n7 n8 l9 l10 g11 (fun _ => K (.ret) (instSt whoT_3_e0 [.b (false), .i (a1), .i (a2), .n (n5), .n (n6), .n (n7), .n (n8), .l (l9), .l (l10), .g (g11)])) (fun _ => K (.exit 6) (instSt whoT_3_e1 [.b (b0), .i (a1), .i (a2), .n (n5), .n (n6), .n (n7), .n (n8), .l (l9), .l (l10), .g (g11)]))) (fun i k => by kernel_rfl) fuelN (a3, a4))
  · cases h
def whoT_2B {β : Type} (b0 : Bool) (a1 : Int) (n3 : Nat) (n4 : Nat) (n5 : Nat) (n6 : Nat) (l7 : IntsL) (l8 : IntsL) (g9 : Geo) (κ0 : Unit → T β) (κ1 : Unit → T β) (i : Int) (k : Int → T β) : T β :=
 bif decide (i < 4) then ((guardT (decide (n4 = n3 ∧ n6 = n5 ∧ List.length l7 = n3 ∧ List.length l8 = n5 ∧ n3 ≤ 1000000 ∧ n5 ≤ 1000000) && true)).bind fun r1 =>
 bif oz (atI l7 (atF g9 12 (inF (inF a1 i 4) 0 2))) != 0 then (κ0 ()) else
 (guardT (decide (n4 = n3 ∧ n6 = n5 ∧ List.length l7 = n3 ∧ List.length l8 = n5 ∧ n3 ≤ 1000000 ∧ n5 ≤ 1000000) && true)).bind fun r3 =>
 bif oz (atI l7 (atF g9 12 (inF (inF a1 i 4) 1 2))) != 0 then (κ0 ()) else
 (guardT (decide (n4 = n3 ∧ n6 = n5 ∧ List.length l7 = n3 ∧ List.length l8 = n5 ∧ n3 ≤ 1000000 ∧ n5 ≤ 1000000) && true)).bind fun r5 =>
 whoT_3L (b0) (a1) (i) (n3) (n4) (n5) (n6) (l7) (l8) (g9) (ofW IntKind.i64 (oz (atI l7 (atF g9 13 (inF a1 i 4)))) 0 24) (0) (fun y6_0 =>
 κ0 ()) (fun y6_0 =>
 k (IntKind.wrap IntKind.i64 (i + 1)))) else
 κ1 ()
def whoT_2L {β : Type} (b0 : Bool) (a1 : Int) (n3 : Nat) (n4 : Nat) (n5 : Nat) (n6 : Nat) (l7 : IntsL) (l8 : IntsL) (g9 : Geo) (a2 : Int) (κ0 : Unit → T β) (κ1 : Unit → T β) : T β := loopB fuelN (whoT_2B b0 a1 n3 n4 n5 n6 l7 l8 g9 κ0 κ1) (a2)
theorem whoT_2L_bind {β γ : Type} (b0 : Bool) (a1 : Int) (n3 : Nat) (n4 : Nat) (n5 : Nat) (n6 : Nat) (l7 : IntsL) (l8 : IntsL) (g9 : Geo) (a2 : Int) (κ0 : Unit → T β) (κ1 : Unit → T β) (κ : β → T γ) : (whoT_2L b0 a1 n3 n4 n5 n6 l7 l8 g9 a2 κ0 κ1).bind κ = whoT_2L b0 a1 n3 n4 n5 n6 l7 l8 g9 a2 (fun u => (κ0 u).bind κ) (fun u => (κ1 u).bind κ) := by
  unfold whoT_2L
  refine loopB_bind κ (fun i k => ?_) _ _
  unfold whoT_2B
  first | rfl | (simp only [bind_cond, bind_ret_, bind_op, bind_fail, T.bind_assoc, whoT_3L_bind])
def whoT_2_p : Pat := ⟨slotsN 110 0 [(0, .c (.raw (.ptr 0 0))), (3, .c (.raw (.ptr 3 0))), (4, .c (.bool)), (6, .c (.int .i64)), (7, .c (.int .i64))], [some ⟨[.sl 1 0, .sl 2 0], 188, false, none⟩, some ⟨[], 34, false, some (.col .u64)⟩, some ⟨[], 5, false, some (.col .u8)⟩, some ⟨[.geo], 24, false, none⟩]⟩
def whoT_2_e0 : Pat := ⟨slotsN 110 0 [(0, .c (.raw (.ptr 0 0))), (3, .c (.raw (.ptr 3 0))), (4, .c (.bool)), (6, .c (.int .i64))], [some ⟨[.sl 1 0, .sl 2 0], 188, false, none⟩, some ⟨[], 34, false, some (.col .u64)⟩, some ⟨[], 5, false, some (.col .u8)⟩, some ⟨[.geo], 24, false, none⟩]⟩
def whoT_2_e1 : Pat := ⟨slotsN 110 0 [(0, .c (.raw (.ptr 0 0))), (3, .c (.raw (.ptr 3 0))), (4, .c (.bool)), (6, .c (.int .i64))], [some ⟨[.sl 1 0, .sl 2 0], 188, false, none⟩, some ⟨[], 34, false, some (.col .u64)⟩, some ⟨[], 5, false, some (.col .u8)⟩, some ⟨[.geo], 24, false, none⟩]⟩
def whoT_2F : St → (Ex → St → T R) → Option (T R) := fun st K => match matchSt whoT_2_p st with
  | some [.b b0, .i a1, .i a2, .n n3, .n n4, .n n5, .n n6, .l l7, .l l8, .g g9] => some (whoT_2L b0 a1 n3 n4 n5 n6 l7 l8 g9 a2 (fun _ => K (.ret) (instSt whoT_2_e0 [.b (false), .i (a1), .n (n3), .n (n4), .n (n5), .n (n6), .l (l7), .l (l8), .g (g9)])) (fun _ => K (.exit 4) (instSt whoT_2_e1 [.b (b0), .i (a1), .n (n3), .n (n4), .n (n5), .n (n6), .l (l7), .l (l8), .g (g9)])))
  | _ => none
theorem whoT_2Ok : ∀ st K t, whoT_2F st K = some t → loopN fuelN (loopF2 Tryz.prog (lookK kz0m) fuelN 3 (lsAt whoT_3F (lsAt whoT_4F .no [1, 0, 0, 0, 1, 0]) [1, 0, 0, 1, 1, 1, 0]) (loopC [1, 1, 1, 0, 1, 0, 0, 1, 0, 0, 1, 0] Tryz.f29) (loopV [1, 1, 1, 0, 1, 0, 0, 1, 0, 0, 1, 0] Tryz.f29) K) st = t := by
  intro st K t h
  unfold whoT_2F at h
  split at h
  · rename_i b0 a1 a2 n3 n4 n5 n6 l7 l8 g9 hm
    cases h
    rw [matchSt_eq hm]
    exact cast (by kernel_rfl) (loop_eq (F := loopF2 Tryz.prog (lookK kz0m) fuelN 3 (lsAt whoT_3F (lsAt whoT_4F .no [1, 0, 0, 0, 1, 0]) [1, 0, 0, 1, 1, 1, 0]) (loopC [1, 1, 1, 0, 1, 0, 0, 1, 0, 0, 1, 0] Tryz.f29) (loopV [1, 1, 1, 0, 1, 0, 0, 1, 0, 0, 1, 0] Tryz.f29) K) (S := fun i => instSt whoT_2_p [.b (b0), .i (a1), .i (i), .n (n3), .n (n4), .n (n5), .n (n6), .l (l7), .l (l8), .g (g9)]) (B := whoT_2B b0 a1 n3 n4 n5 n6 l7 l8 g9 (fun _ => K (.ret) (instSt whoT_2_e0 [.b (false), .i (a1), .n (n3), .n (n4), .n (n5), .n (n6), .l (l7), .l (l8), .g (g9)])) (fun _ => K (.exit 4) (instSt whoT_2_e1 [.b (b0), .i (a1), .n (n3), .n (n4), .n (n5), .n (n6), .l (l7), .l (l8), .g (g9)]))) (fun i k => by kernel_rfl) fuelN (a2))
  · cases h
def whoT_1B {β : Type} (b0 : Bool) (n2 : Nat) (n3 : Nat) (n4 : Nat) (n5 : Nat) (l6 : IntsL) (l7 : IntsL) (g8 : Geo) (κ0 : Unit → T β) (κ1 : Unit → T β) (i : Int) (k : Int → T β) : T β :=
 bif decide (i < g8.threads) then (whoT_2L (b0) (i) (n2) (n3) (n4) (n5) (l6) (l7) (g8) (0) (fun y1_0 =>
 κ0 ()) (fun y1_0 =>
 k (IntKind.wrap IntKind.i64 (i + 1)))) else
 κ1 ()
def whoT_1L {β : Type} (b0 : Bool) (n2 : Nat) (n3 : Nat) (n4 : Nat) (n5 : Nat) (l6 : IntsL) (l7 : IntsL) (g8 : Geo) (a1 : Int) (κ0 : Unit → T β) (κ1 : Unit → T β) : T β := loopB fuelN (whoT_1B b0 n2 n3 n4 n5 l6 l7 g8 κ0 κ1) (a1)
theorem whoT_1L_bind {β γ : Type} (b0 : Bool) (n2 : Nat) (n3 : Nat) (n4 : Nat) (n5 : Nat) (l6 : IntsL) (l7 : IntsL) (g8 : Geo) (a1 : Int) (κ0 : Unit → T β) (κ1 : Unit → T β) (κ : β → T γ) : (whoT_1L b0 n2 n3 n4 n5 l6 l7 g8 a1 κ0 κ1).bind κ = whoT_1L b0 n2 n3 n4 n5 l6 l7 g8 a1 (fun u => (κ0 u).bind κ) (fun u => (κ1 u).bind κ) := by
  unfold whoT_1L
  refine loopB_bind κ (fun i k => ?_) _ _
  unfold whoT_1B
  first | rfl | (simp only [bind_cond, bind_ret_, bind_op, bind_fail, T.bind_assoc, whoT_2L_bind])
def whoT_1_p : Pat := ⟨slotsN 110 0 [(0, .c (.raw (.ptr 0 0))), (3, .c (.raw (.ptr 3 0))), (4, .c (.bool)), (6, .c (.int .i64))], [some ⟨[.sl 1 0, .sl 2 0], 188, false, none⟩, some ⟨[], 34, false, some (.col .u64)⟩, some ⟨[], 5, false, some (.col .u8)⟩, some ⟨[.geo], 24, false, none⟩]⟩
def whoT_1_e0 : Pat := ⟨slotsN 110 0 [(4, .c (.bool))], [some ⟨[.sl 1 0, .sl 2 0], 188, false, none⟩, some ⟨[], 34, false, some (.col .u64)⟩, some ⟨[], 5, false, some (.col .u8)⟩]⟩
def whoT_1_e1 : Pat := ⟨slotsN 110 0 [(4, .c (.bool))], [some ⟨[.sl 1 0, .sl 2 0], 188, false, none⟩, some ⟨[], 34, false, some (.col .u64)⟩, some ⟨[], 5, false, some (.col .u8)⟩]⟩
def whoT_1F : St → (Ex → St → T R) → Option (T R) := fun st K => match matchSt whoT_1_p st with
  | some [.b b0, .i a1, .n n2, .n n3, .n n4, .n n5, .l l6, .l l7, .g g8] => some (whoT_1L b0 n2 n3 n4 n5 l6 l7 g8 a1 (fun _ => K (.ret) (instSt whoT_1_e0 [.b (false), .n (n2), .n (n3), .n (n4), .n (n5), .l (l6), .l (l7)])) (fun _ => K (.exit 2) (instSt whoT_1_e1 [.b (b0), .n (n2), .n (n3), .n (n4), .n (n5), .l (l6), .l (l7)])))
  | _ => none
theorem whoT_1Ok : ∀ st K t, whoT_1F st K = some t → loopN fuelN (loopF2 Tryz.prog (lookK kz0m) fuelN 3 (lsAt whoT_2F (lsAt whoT_3F (lsAt whoT_4F .no [1, 0, 0, 0, 1, 0]) [1, 0, 0, 1, 1, 1, 0]) [1, 0, 0, 1, 0]) (loopC [1, 1, 1, 0, 1, 0] Tryz.f29) (loopV [1, 1, 1, 0, 1, 0] Tryz.f29) K) st = t := by
  intro st K t h
  unfold whoT_1F at h
  split at h
  · rename_i b0 a1 n2 n3 n4 n5 l6 l7 g8 hm
    cases h
    rw [matchSt_eq hm]
    exact cast (by kernel_rfl) (loop_eq (F := loopF2 Tryz.prog (lookK kz0m) fuelN 3 (lsAt whoT_2F (lsAt whoT_3F (lsAt whoT_4F .no [1, 0, 0, 0, 1, 0]) [1, 0, 0, 1, 1, 1, 0]) [1, 0, 0, 1, 0]) (loopC [1, 1, 1, 0, 1, 0] Tryz.f29) (loopV [1, 1, 1, 0, 1, 0] Tryz.f29) K) (S := fun i => instSt whoT_1_p [.b (b0), .i (i), .n (n2), .n (n3), .n (n4), .n (n5), .l (l6), .l (l7), .g (g8)]) (B := whoT_1B b0 n2 n3 n4 n5 l6 l7 g8 (fun _ => K (.ret) (instSt whoT_1_e0 [.b (false), .n (n2), .n (n3), .n (n4), .n (n5), .l (l6), .l (l7)])) (fun _ => K (.exit 2) (instSt whoT_1_e1 [.b (b0), .n (n2), .n (n3), .n (n4), .n (n5), .l (l6), .l (l7)]))) (fun i k => by kernel_rfl) fuelN (a1))
  · cases h
def whoTK {β : Type} (g : Geo) (x : Nat) (x2 : Nat) (y : Nat) (y2 : Nat) (W : IntsL) (B : IntsL) (κ : Bool → T β) : T β :=
 (guardT (decide (x2 = x ∧ y2 = y ∧ List.length W = x ∧ List.length B = y ∧ x ≤ 1000000 ∧ y ≤ 1000000) && true)).bind fun r0 =>
 bif !(ofW IntKind.i64 (oz (atI W (atF g 7 0))) 0 3 == 1 && (ofW IntKind.i64 (oz (atI W (atF g 7 0))) 3 10 == g.pages && (ofW IntKind.i64 (oz (atI W (atF g 7 0))) 13 2 == 0 && (ofW IntKind.i64 (oz (atI W (atF g 7 0))) 16 7 == 0 && true)))) then (κ (false)) else
 (guardT (decide (x2 = x ∧ y2 = y ∧ List.length W = x ∧ List.length B = y ∧ x ≤ 1000000 ∧ y ≤ 1000000) && true)).bind fun r2 =>
 bif oz (atI W (atF g 0 0)) != 0 then (κ (false)) else
 whoT_0L (false) (x) (x2) (y) (y2) (W) (B) (g) (0) (fun y4_0 =>
 κ (false)) (fun y4_0 =>
 whoT_1L (false) (x) (x2) (y) (y2) (W) (B) (g) (0) (fun y5_0 =>
 κ (false)) (fun y5_0 =>
 κ (true)))
def whoT (g : Geo) (x : Nat) (x2 : Nat) (y : Nat) (y2 : Nat) (W : IntsL) (B : IntsL) : T Bool := whoTK g x x2 y y2 W B .ret
theorem whoT_bind {β : Type} (g : Geo) (x : Nat) (x2 : Nat) (y : Nat) (y2 : Nat) (W : IntsL) (B : IntsL) (κ : Bool → T β) : (whoT g x x2 y y2 W B).bind κ = whoTK g x x2 y y2 W B κ := by
  unfold whoT whoTK
  first | rfl | (simp only [bind_cond, bind_ret_, bind_op, bind_fail, T.bind_assoc, whoT_0L_bind, whoT_1L_bind])
def m_whoT : Sm := fun args H => match args, H with
  | [.c (.ptr 0 0), .agg gc], [some ⟨[.sl 1 0 x x2, .sl 2 0 y y2], 188, false, none⟩, some ⟨[], 34, false, some (.col .u64 W)⟩, some ⟨[], 5, false, some (.col .u8 B)⟩] => (match geoOf gc with
      | some g => some (mkS (Bool) (whoT g x x2 y y2 W B) fun r => some (.c (.bool r), [some ⟨[.sl 1 0 x x2, .sl 2 0 y y2], 188, false, none⟩, some ⟨[], 34, false, some (.col .u64 W)⟩, some ⟨[], 5, false, some (.col .u8 B)⟩]))
      | _ => none)
  | _, _ => none
theorem whoT_good : Good Tryz.prog (lookK kz0m) fuelN 3 (mrg (lsAt whoT_0F .no [1, 1, 0, 1, 0]) (lsAt whoT_1F (lsAt whoT_2F (lsAt whoT_3F (lsAt whoT_4F .no [1, 0, 0, 0, 1, 0]) [1, 0, 0, 1, 1, 1, 0]) [1, 0, 0, 1, 0]) [1, 1, 1, 0, 1, 0])) (Tryz.f29.body.getD .skip) (resMask Tryz.f29.results.toList) := (good_mrg (good_fn (body_eq (by kernel_rfl)) good_no whoT_0Ok) (good_fn (body_eq (by kernel_rfl)) (good_in (p := [1, 1, 1, 0, 1, 0]) (q := [1, 0, 0, 1, 0]) (body_eq (fn := Tryz.f29) (by kernel_rfl)) (good_in (p := [1, 1, 1, 0, 1, 0, 0, 1, 0, 0, 1, 0]) (q := [1, 0, 0, 1, 1, 1, 0]) (body_eq (fn := Tryz.f29) (by kernel_rfl)) (good_in (p := [1, 1, 1, 0, 1, 0, 0, 1, 0, 0, 1, 0, 0, 1, 0, 0, 1, 1, 1, 0]) (q := [1, 0, 0, 0, 1, 0]) (body_eq (fn := Tryz.f29) (by kernel_rfl)) good_no whoT_4Ok (by kernel_rfl)) whoT_3Ok (by kernel_rfl)) whoT_2Ok (by kernel_rfl)) whoT_1Ok))
theorem s_m_whoT {σ : Type} {I : Port Tryz.prog σ} (hl : SoundL I kz0m) : SoundF I 29 m_whoT := by
  refine sound_eq hl fuelN Tryz.func29 (by kernel_rfl) (by kernel_rfl) fun args H t ht => ?_
  unfold m_whoT at ht
  split at ht
  · rename_i gc x x2 y y2 W B
    split at ht
    · rename_i g hg
      obtain rfl := geoOf_eq hg
      cases ht
      refine (evF2_eq (P := Tryz.prog) (n := fuelN) (x := (mrg (lsAt whoT_0F .no [1, 1, 0, 1, 0]) (lsAt whoT_1F (lsAt whoT_2F (lsAt whoT_3F (lsAt whoT_4F .no [1, 0, 0, 0, 1, 0]) [1, 0, 0, 1, 1, 1, 0]) [1, 0, 0, 1, 0]) [1, 1, 1, 0, 1, 0]))) (fn := Tryz.f29) (H := [some ⟨[.sl 1 0 x x2, .sl 2 0 y y2], 188, false, none⟩, some ⟨[], 34, false, some (.col .u64 W)⟩, some ⟨[], 5, false, some (.col .u8 B)⟩]) (c := Tryz.f29.body.getD .skip) (body_eq (by kernel_rfl)) whoT_good).symm.trans ?_
      refine Eq.trans ?_ (whoT_bind g x x2 y y2 W B _).symm
      kernel_rfl
    · cases ht
  · cases ht
noncomputable def kh1 : List (Nat × Sm) := (29, m_whoT) :: kz0m
theorem s_kh1 : SoundL NP kh1 := (.cons (s_m_whoT s_kz0m) s_kz0m)
end Go.Proofs.YtaegelbaghaooaaGreat.Lx
