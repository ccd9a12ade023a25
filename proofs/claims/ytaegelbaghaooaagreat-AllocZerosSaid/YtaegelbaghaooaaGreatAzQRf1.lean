/- Summaries: the document (13, 15), lists of blocks. (trees printed by program, wip/auto.py) -/
import Derived.Test.YtaegelbaghaooaaGreatAzQRf0
import Derived.WalkKit
set_option linter.unusedSimpArgs false
set_option linter.unusedVariables false
set_option linter.unusedSectionVars false
namespace Go.Proofs.YtaegelbaghaooaaGreat.Lx
open Go
set_option maxRecDepth 1000000

def wothT_0B {β : Type} (n0 : Nat) (a1 : Int) (n2 : Nat) (q5 : RowsL) (q6 : RowsL) (κ0 : Nat → RowsL → T β) (i : Nat × Int × RowsL) (k : Nat × Int × RowsL → T β) : T β :=
 bif decide (i.2.1 < ↑n0) then (bif i.2.1 != a1 then (bif decide (0 ≤ i.2.1 ∧ i.2.1 < ↑n0) then (bif inR (List.length q5) i.2.1 then (bif Nat.beq (List.length i.2.2) i.1 && Nat.ble i.1 1000 then (k (i.1 + 1, IntKind.wrap IntKind.i64 (i.2.1 + 1), i.2.2 ++   [[getI (getR q5 (Int.toNat i.2.1)) 0, getI (getR q5 (Int.toNat i.2.1)) 1,       getI (getR q5 (Int.toNat i.2.1)) 2]])) else
 .fail) else
 .fail) else
 .fail) else
 k (i.1, IntKind.wrap IntKind.i64 (i.2.1 + 1), i.2.2)) else
 κ0 (i.1) (i.2.2)
def wothT_0L {β : Type} (n0 : Nat) (a1 : Int) (n2 : Nat) (q5 : RowsL) (q6 : RowsL) (n3 : Nat) (a4 : Int) (q7 : RowsL) (κ0 : Nat → RowsL → T β) : T β := loopB fuelN (wothT_0B n0 a1 n2 q5 q6 κ0) (n3, a4, q7)
theorem wothT_0L_bind {β γ : Type} (n0 : Nat) (a1 : Int) (n2 : Nat) (q5 : RowsL) (q6 : RowsL) (n3 : Nat) (a4 : Int) (q7 : RowsL) (κ0 : Nat → RowsL → T β) (κ : β → T γ) : (wothT_0L n0 a1 n2 q5 q6 n3 a4 q7 κ0).bind κ = wothT_0L n0 a1 n2 q5 q6 n3 a4 q7 (fun ne1 qe4 => (κ0 ne1 qe4).bind κ) := by
  unfold wothT_0L
  refine loopB_bind κ (fun i k => ?_) _ _
  unfold wothT_0B
  first | rfl | (simp only [bind_cond, bind_ret_, bind_op, bind_fail, T.bind_assoc])
def wothT_0_p : Pat := ⟨slotsN 24 0 [(0, .c (.slr 0)), (1, .c (.int .i64)), (4, .c (.slr 1)), (5, .c (.slr 2)), (6, .c (.int .i64))], [some ⟨[], 55, true, some (.rows [.int .i64, .int .i64, .int .i64])⟩, some ⟨[], 55, true, some (.rows [.int .i64, .int .i64, .int .i64])⟩, some ⟨[], 55, true, some (.rows [.int .i64, .int .i64, .int .i64])⟩]⟩
def wothT_0_e0 : Pat := ⟨slotsN 24 0 [(4, .c (.slr 1)), (5, .c (.slr 2))], [some ⟨[], 55, true, some (.rows [.int .i64, .int .i64, .int .i64])⟩, some ⟨[], 55, true, some (.rows [.int .i64, .int .i64, .int .i64])⟩, some ⟨[], 55, true, some (.rows [.int .i64, .int .i64, .int .i64])⟩]⟩
def wothT_0F : St → (Ex → St → T R) → Option (T R) := fun st K => match matchSt wothT_0_p st with
  | some [.n n0, .i a1, .n n2, .n n3, .i a4, .r q5, .r q6, .r q7] => some (wothT_0L n0 a1 n2 q5 q6 n3 a4 q7 (fun ne1 qe4 => K (.exit 0) (instSt wothT_0_e0 [.n (n2), .n (ne1), .r (q5), .r (q6), .r (qe4)])))
  | _ => none
theorem wothT_0Ok : ∀ st K t, wothT_0F st K = some t → loopN fuelN (loopF2 Tryz.prog (lookK kr0) (⟨fuelN, [⟨4, 55, .rows [.int .i64, .int .i64, .int .i64]⟩, ⟨5, 55, .rows [.int .i64, .int .i64, .int .i64]⟩], true⟩ : Fu) 1 .no (loopC [1, 1, 0, 1, 0] Tryz.f33) (loopV [1, 1, 0, 1, 0] Tryz.f33) K) st = t := by
  intro st K t h
  unfold wothT_0F at h
  split at h
  · rename_i n0 a1 n2 n3 a4 q5 q6 q7 hm
    cases h
    rw [matchSt_eq hm]
    exact cast (by kernel_rfl) (loop_eq (F := loopF2 Tryz.prog (lookK kr0) (⟨fuelN, [⟨4, 55, .rows [.int .i64, .int .i64, .int .i64]⟩, ⟨5, 55, .rows [.int .i64, .int .i64, .int .i64]⟩], true⟩ : Fu) 1 .no (loopC [1, 1, 0, 1, 0] Tryz.f33) (loopV [1, 1, 0, 1, 0] Tryz.f33) K) (S := fun i => instSt wothT_0_p [.n (n0), .i (a1), .n (n2), .n (i.1), .i (i.2.1), .r (q5), .r (q6), .r (i.2.2)]) (B := wothT_0B n0 a1 n2 q5 q6 (fun ne1 qe4 => K (.exit 0) (instSt wothT_0_e0 [.n (n2), .n (ne1), .r (q5), .r (q6), .r (qe4)]))) (fun i k => by kernel_rfl) fuelN (n3, a4, q7))
  · cases h
def wothTK {β : Type} (n : Nat) (L : RowsL) (at_ : Int) (κ : (Nat × RowsL) → T β) : T β :=
 wothT_0L (n) (at_) (0) (L) ([]) (0) (0) ([]) (fun y0_0 y0_1 =>
 κ (y0_0, y0_1))
def wothT (n : Nat) (L : RowsL) (at_ : Int) : T (Nat × RowsL) := wothTK n L at_ .ret
theorem wothT_bind {β : Type} (n : Nat) (L : RowsL) (at_ : Int) (κ : (Nat × RowsL) → T β) : (wothT n L at_).bind κ = wothTK n L at_ κ := by
  unfold wothT wothTK
  first | rfl | (simp only [bind_cond, bind_ret_, bind_op, bind_fail, T.bind_assoc, wothT_0L_bind])
def m_wothT : Sm := fun args H => match args, H with
  | [.c (.slr 0 n), .c (.int .i64 at_)], [some ⟨[], 55, true, some (.rows [.int .i64, .int .i64, .int .i64] L)⟩] => some (mkS ((Nat × RowsL)) (wothT n L at_) fun r => some (.c (.slr 1 r.1), [some ⟨[], 55, true, some (.rows [.int .i64, .int .i64, .int .i64] L)⟩, some ⟨[], 55, true, some (.rows [.int .i64, .int .i64, .int .i64] r.2)⟩]))
  | _, _ => none
theorem wothT_good : Good Tryz.prog (lookK kr0) (⟨fuelN, [⟨4, 55, .rows [.int .i64, .int .i64, .int .i64]⟩, ⟨5, 55, .rows [.int .i64, .int .i64, .int .i64]⟩], true⟩ : Fu) 1 (lsAt wothT_0F .no [1, 1, 0, 1, 0]) (Tryz.f33.body.getD .skip) (resMask Tryz.f33.results.toList) := good_fn (body_eq (by kernel_rfl)) good_no wothT_0Ok
theorem s_m_wothT {σ : Type} {I : Port Tryz.prog σ} (hl : SoundL I kr0) : SoundF I 33 m_wothT := by
  refine sound_eq hl (⟨fuelN, [⟨4, 55, .rows [.int .i64, .int .i64, .int .i64]⟩, ⟨5, 55, .rows [.int .i64, .int .i64, .int .i64]⟩], true⟩ : Fu) Tryz.func33 (by kernel_rfl) (by kernel_rfl) fun args H t ht => ?_
  unfold m_wothT at ht
  split at ht
  · rename_i n at_ L
    cases ht
    refine (evF2_eq (P := Tryz.prog) (n := (⟨fuelN, [⟨4, 55, .rows [.int .i64, .int .i64, .int .i64]⟩, ⟨5, 55, .rows [.int .i64, .int .i64, .int .i64]⟩], true⟩ : Fu)) (x := (lsAt wothT_0F .no [1, 1, 0, 1, 0])) (fn := Tryz.f33) (H := [some ⟨[], 55, true, some (.rows [.int .i64, .int .i64, .int .i64] L)⟩]) (c := Tryz.f33.body.getD .skip) (body_eq (by kernel_rfl)) wothT_good).symm.trans ?_
    refine Eq.trans ?_ (wothT_bind n L at_ _).symm
    kernel_rfl
  · cases ht
noncomputable def kr1 : List (Nat × Sm) := (33, m_wothT) :: kr0
theorem s_kr1 {σ : Type} {I : Port Tryz.prog σ} : SoundL I kr1 := (.cons (s_m_wothT s_kr0) s_kr0)
end Go.Proofs.YtaegelbaghaooaaGreat.Lx
