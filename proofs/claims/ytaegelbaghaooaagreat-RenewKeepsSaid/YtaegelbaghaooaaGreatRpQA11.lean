/- Summaries: bag, central. (trees printed by program, wip/auto.py) -/
import Derived.Test.YtaegelbaghaooaaGreatRpQA10
import Derived.WalkKit
set_option linter.unusedSimpArgs false
set_option linter.unusedVariables false
set_option linter.unusedSectionVars false
namespace Go.Proofs.YtaegelbaghaooaaGreat.Lx
open Go
set_option maxRecDepth 1000000

def baddTK {β : Type} (g : Geo) (c it : Int) (κ : Bool → T β) : T β :=
 (bnoneT g c).bind fun r0 =>
 bif r0 then (κ (false)) else
 bif it == 0 then (κ (false)) else
 (putsT g c it).bind fun r3 =>
 bif !r3 then (κ (false)) else
 .op (.add (atF g 5 c) (1)) fun x5 =>
 κ (true)
def baddT (g : Geo) (c it : Int) : T Bool := baddTK g c it .ret
theorem baddT_bind {β : Type} (g : Geo) (c it : Int) (κ : Bool → T β) : (baddT g c it).bind κ = baddTK g c it κ := by
 unfold baddT baddTK
 first | rfl | (simp only [bind_cond, bind_ret_, bind_op, bind_fail, T.bind_assoc])
def baggedTK {β : Type} (g : Geo) (o c : Int) (κ : (Fnd × Int) → T β) : T β :=
 (btakeT g c).bind fun r0 =>
 κ (⟨(IntKind.i64.wrap (IntKind.i64.wrap r0.1 - 1)), (r0.2), (0)⟩, (o))
def baggedT (g : Geo) (o c : Int) : T (Fnd × Int) := baggedTK g o c .ret
theorem baggedT_bind {β : Type} (g : Geo) (o c : Int) (κ : (Fnd × Int) → T β) : (baggedT g o c).bind κ = baggedTK g o c κ := by
 unfold baggedT baggedTK
 first | rfl | (simp only [bind_cond, bind_ret_, bind_op, bind_fail, T.bind_assoc])
def bagsT_1B {β : Type} (a0 a3 : Int) (g4 : Geo) (κ0 : Int → T β) (i : Int × Bool × Int) (k : Int × Bool × Int → T β) : T β :=
 bif i.2.1 then ((homeT g4 i.2.2 (IntKind.i64.wrap (IntKind.i64.wrap i.1 - 1))).bind fun r1 =>
 (btakeT g4 a0).bind fun r2 =>
 k (r2.1, r2.2, r1.2)) else
 κ0 (i.2.2)
def bagsT_1L {β : Type} (a0 a3 : Int) (g4 : Geo) (a1 : Int) (b2 : Bool) (a5 : Int) (κ0 : Int → T β) : T β := loopB fuelN (bagsT_1B a0 a3 g4 κ0) (a1, b2, a5)
theorem bagsT_1L_bind {β γ : Type} (a0 a3 : Int) (g4 : Geo) (a1 : Int) (b2 : Bool) (a5 : Int) (κ0 : Int → T β) (κ : β → T γ) : (bagsT_1L a0 a3 g4 a1 b2 a5 κ0).bind κ = bagsT_1L a0 a3 g4 a1 b2 a5 (fun ae2 => (κ0 ae2).bind κ) := by
 unfold bagsT_1L
 refine loopB_bind κ (fun i k => ?_) _ _
 unfold bagsT_1B
 first | rfl | (simp only [bind_cond, bind_ret_, bind_op, bind_fail, T.bind_assoc])
def bagsT_1_p : Pat := ⟨slotsN 40 0 [(0, .c (.raw (.ptr 0 0))), (2, .c (.int .i64)), (3, .c (.int .u64)), (4, .c (.bool)), (5, .c (.int .i64))], [some ⟨[.raw (.port), .geo, .int .u64], 150, false, none⟩]⟩
def bagsT_1_e0 : Pat := ⟨slotsN 40 0 [(0, .c (.raw (.ptr 0 0))), (5, .c (.int .i64))], [some ⟨[.raw (.port), .geo, .int .u64], 150, false, none⟩]⟩
def bagsT_1F : St → (Ex → St → T R) → Option (T R) := fun st K => match matchSt bagsT_1_p st with
 | some [.i a0, .i a1, .b b2, .i a3, .g g4, .i a5] => some (bagsT_1L a0 a3 g4 a1 b2 a5 (fun ae2 => K (.exit 2) (instSt bagsT_1_e0 [.i a3, .g g4, .i ae2])))
 | _ => none
theorem bagsT_1Ok : ∀ st K t, bagsT_1F st K = some t → loopN fuelN (loopF2 Tryz.prog (lookK ka10) fuelN 1 .no (loopC [1, 0, 0, 1, 1, 0, 0, 1, 1, 0] Tryz.f241) (loopV [1, 0, 0, 1, 1, 0, 0, 1, 1, 0] Tryz.f241) K) st = t := by
 intro st K t h
 unfold bagsT_1F at h
 split at h
 ·rename_i a0 a1 b2 a3 g4 a5 hm
  cases h
  rw [matchSt_eq hm]
  exact cast (by kernel_rfl) (loop_eq (F := loopF2 Tryz.prog (lookK ka10) fuelN 1 .no (loopC [1, 0, 0, 1, 1, 0, 0, 1, 1, 0] Tryz.f241) (loopV [1, 0, 0, 1, 1, 0, 0, 1, 1, 0] Tryz.f241) K) (S := fun i => instSt bagsT_1_p [.i a0, .i (i.1), .b (i.2.1), .i a3, .g g4, .i (i.2.2)]) (B := bagsT_1B a0 a3 g4 (fun ae2 => K (.exit 2) (instSt bagsT_1_e0 [.i a3, .g g4, .i ae2]))) (fun i k => by kernel_rfl) fuelN (a1, b2, a5))
 ·cases h
def bagsT_0B {β : Type} (g1 : Geo) (κ0 : Int → T β) (i : Int × Int) (k : Int × Int → T β) : T β :=
 bif decide (i.1 < 4) then ((btakeT g1 i.1).bind fun r1 =>
 bagsT_1L (i.1) (i.1) (g1) (r1.1) (r1.2) (i.2) (fun y2_0 =>
 k (IntKind.i64.wrap (i.1 + 1), y2_0))) else
 κ0 (i.2)
def bagsT_0L {β : Type} (g1 : Geo) (a0 a2 : Int) (κ0 : Int → T β) : T β := loopB fuelN (bagsT_0B g1 κ0) (a0, a2)
theorem bagsT_0L_bind {β γ : Type} (g1 : Geo) (a0 a2 : Int) (κ0 : Int → T β) (κ : β → T γ) : (bagsT_0L g1 a0 a2 κ0).bind κ = bagsT_0L g1 a0 a2 (fun ae1 => (κ0 ae1).bind κ) := by
 unfold bagsT_0L
 refine loopB_bind κ (fun i k => ?_) _ _
 unfold bagsT_0B
 first | rfl | (simp only [bind_cond, bind_ret_, bind_op, bind_fail, T.bind_assoc, bagsT_1L_bind])
def bagsT_0_e0 : Pat := ⟨slotsN 40 0 [], [some ⟨[.raw (.port), .geo, .int .u64], 150, false, none⟩]⟩
def bagsT_0F : St → (Ex → St → T R) → Option (T R) := fun st K => match matchSt bagsT_1_e0 st with
 | some [.i a0, .g g1, .i a2] => some (bagsT_0L g1 a0 a2 (fun ae1 => K (.exit 0) (instSt bagsT_0_e0 [.g g1, .i ae1])))
 | _ => none
theorem bagsT_0Ok : ∀ st K t, bagsT_0F st K = some t → loopN fuelN (loopF2 Tryz.prog (lookK ka10) fuelN 1 (lsAt bagsT_1F .no [1, 1, 0, 0, 1, 1, 0]) (loopC [1, 0] Tryz.f241) (loopV [1, 0] Tryz.f241) K) st = t := by
 intro st K t h
 unfold bagsT_0F at h
 split at h
 ·rename_i a0 g1 a2 hm
  cases h
  rw [matchSt_eq hm]
  exact cast (by kernel_rfl) (loop_eq (F := loopF2 Tryz.prog (lookK ka10) fuelN 1 (lsAt bagsT_1F .no [1, 1, 0, 0, 1, 1, 0]) (loopC [1, 0] Tryz.f241) (loopV [1, 0] Tryz.f241) K) (S := fun i => instSt bagsT_1_e0 [.i (i.1), .g g1, .i (i.2)]) (B := bagsT_0B g1 (fun ae1 => K (.exit 0) (instSt bagsT_0_e0 [.g g1, .i ae1]))) (fun i k => by kernel_rfl) fuelN (a0, a2))
 ·cases h
def bagsTK {β : Type} (g : Geo) (o : Int) (κ : (Unit × Int) → T β) : T β :=
 bagsT_0L (g) (0) (o) (fun y0_0 =>
 κ ((), (y0_0)))
def bagsT (g : Geo) (o : Int) : T (Unit × Int) := bagsTK g o .ret
theorem bagsT_bind {β : Type} (g : Geo) (o : Int) (κ : (Unit × Int) → T β) : (bagsT g o).bind κ = bagsTK g o κ := by
 unfold bagsT bagsTK
 first | rfl | (simp only [bind_cond, bind_ret_, bind_op, bind_fail, T.bind_assoc, bagsT_0L_bind])
def m_baddT : Sm := fun args H => match args, H with
 | [.c .port, .agg gc, .c (.int .i64 c), .c (.int .u64 it)], [] => (match geoOf gc with
   | some g => some (mkS (Bool) (baddT g c it) fun r => some (.c (.bool r), []))
   | _ => none)
 | _, _ => none
variable {σ : Type} {I : Port Tryz.prog σ}
theorem s_m_baddT (hl : SoundL I ka10) : SoundF I 90 m_baddT := by
 refine sq hl 1 Tryz.func90 fun args H t ht => ?_
 unfold m_baddT at ht
 split at ht
 ·rename_i gc c it
  split at ht
  ·rename_i g hg
   obtain rfl := geoOf_eq hg
   cases ht
   refine Eq.trans ?_ (baddT_bind g c it _).symm
   kernel_rfl
  ·cases ht
 ·cases ht
def m_baggedT : Sm := fun args H => match args, H with
 | [.c (.ptr 0 0), .c (.int .i64 c)], [some ⟨.port :: gc, 150, false, none⟩] => (match hdOf gc with
   | some (g, o) => some (mkS ((Fnd × Int)) (baggedT g o c) fun r => some (.agg r.1.cells, [some ⟨.port :: (g.cells ++ [.int .u64 r.2]), 150, false, none⟩]))
   | _ => none)
 | _, _ => none
theorem s_m_baggedT (hl : SoundL I ka10) : SoundF I 225 m_baggedT := by
 refine sq hl 1 Tryz.func225 fun args H t ht => ?_
 unfold m_baggedT at ht
 split at ht
 ·rename_i c gc
  split at ht
  ·rename_i g o hg
   obtain rfl := hdOf_eq hg
   cases ht
   refine Eq.trans ?_ (baggedT_bind g o c _).symm
   kernel_rfl
  ·cases ht
 ·cases ht
def m_bagsT : Sm := fun args H => match args, H with
 | [.c (.ptr 0 0)], [some ⟨.port :: gc, 150, false, none⟩] => (match hdOf gc with
   | some (g, o) => some (mkS ((Unit × Int)) (bagsT g o) fun r => some (.tup [], [some ⟨.port :: (g.cells ++ [.int .u64 r.2]), 150, false, none⟩]))
   | _ => none)
 | _, _ => none
theorem bagsT_good : Good Tryz.prog (lookK ka10) fuelN 1 (lsAt bagsT_0F (lsAt bagsT_1F .no [1, 1, 0, 0, 1, 1, 0]) [1, 0]) (Tryz.f241.body.getD .skip) (resMask Tryz.f241.results.toList) := good_fn (body_eq (by kernel_rfl)) (good_in (p := [1, 0]) (q := [1, 1, 0, 0, 1, 1, 0]) (body_eq (fn := Tryz.f241) (by kernel_rfl)) good_no bagsT_1Ok (by kernel_rfl)) bagsT_0Ok
theorem s_m_bagsT (hl : SoundL I ka10) : SoundF I 241 m_bagsT := by
 refine sq hl fuelN Tryz.func241 fun args H t ht => ?_
 unfold m_bagsT at ht
 split at ht
 ·rename_i gc
  split at ht
  ·rename_i g o hg
   obtain rfl := hdOf_eq hg
   cases ht
   refine (evF2_eq (P := Tryz.prog) (n := fuelN) (x := (lsAt bagsT_0F (lsAt bagsT_1F .no [1, 1, 0, 0, 1, 1, 0]) [1, 0])) (fn := Tryz.f241) (H := [some ⟨.port :: (g.cells ++ [.int .u64 o]), 150, false, none⟩]) (c := Tryz.f241.body.getD .skip) (body_eq (by kernel_rfl)) bagsT_good).symm.trans ?_
   refine Eq.trans ?_ (bagsT_bind g o _).symm
   kernel_rfl
  ·cases ht
 ·cases ht
def ka11 : List (Nat × Sm) := (90, m_baddT) :: (225, m_baggedT) :: (241, m_bagsT) :: ka10
theorem s_ka11 : SoundL I ka11 := (.cons (s_m_baddT s_ka10) (.cons (s_m_baggedT s_ka10) (.cons (s_m_bagsT s_ka10) s_ka10)))
end Go.Proofs.YtaegelbaghaooaaGreat.Lx
