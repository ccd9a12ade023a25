/- Summaries: bag. (trees printed by program, wip/auto.py) -/
import Derived.Test.YtaegelbaghaooaaGreatRpQA9
import Derived.WalkKit
set_option linter.unusedSimpArgs false
set_option linter.unusedVariables false
set_option linter.unusedSectionVars false
namespace Go.Proofs.YtaegelbaghaooaaGreat.Lx
open Go
set_option maxRecDepth 1000000

def putsT_0B {β : Type} (a0 a1 : Int) (b2 : Bool) (a3 : Int) (g5 : Geo) (κ0 : Unit → T β) (κ1 : Unit → T β) (i : Int) (k : Int → T β) : T β :=
 bif i != 0 then ((fillsT g5 i a1).bind fun r1 =>
 bif r1 then (κ0 ()) else
 .op (.load (atF g5 17 (inF (IntKind.i64.wrap (i - 1)) 0 1))) fun x3 =>
 k (ofW IntKind.i64 x3 0 24)) else
 κ1 ()
def putsT_0L {β : Type} (a0 a1 : Int) (b2 : Bool) (a3 : Int) (g5 : Geo) (a4 : Int) (κ0 : Unit → T β) (κ1 : Unit → T β) : T β := loopB fuelN (putsT_0B a0 a1 b2 a3 g5 κ0 κ1) (a4)
theorem putsT_0L_bind {β γ : Type} (a0 a1 : Int) (b2 : Bool) (a3 : Int) (g5 : Geo) (a4 : Int) (κ0 : Unit → T β) (κ1 : Unit → T β) (κ : β → T γ) : (putsT_0L a0 a1 b2 a3 g5 a4 κ0 κ1).bind κ = putsT_0L a0 a1 b2 a3 g5 a4 (fun u => (κ0 u).bind κ) (fun u => (κ1 u).bind κ) := by
 unfold putsT_0L
 refine loopB_bind κ (fun i k => ?_) _ _
 unfold putsT_0B
 first | rfl | (simp only [bind_cond, bind_ret_, bind_op, bind_fail, T.bind_assoc])
def putsT_0_p : Pat := ⟨slotsN 47 0 [(0, .c (.raw (.port))), (2, .c (.int .i64)), (3, .c (.int .u64)), (5, .c (.raw (.ptr 0 0))), (8, .c (.bool)), (9, .c (.int .i64)), (10, .c (.int .i64))], [some ⟨[.geo], 24, false, none⟩]⟩
def putsT_0_e0 : Pat := ⟨slotsN 47 0 [(0, .c (.raw (.port))), (2, .c (.int .i64)), (3, .c (.int .u64)), (5, .c (.raw (.ptr 0 0))), (8, .c (.bool)), (9, .c (.int .i64))], [some ⟨[.geo], 24, false, none⟩]⟩
def putsT_0F : St → (Ex → St → T R) → Option (T R) := fun st K => match matchSt putsT_0_p st with
 | some [.i a0, .i a1, .b b2, .i a3, .i a4, .g g5] => some (putsT_0L a0 a1 b2 a3 g5 a4 (fun _ => K (.ret) (instSt putsT_0_e0 [.i a0, .i a1, .b true, .i a3, .g g5])) (fun _ => K (.exit 0) (instSt putsT_0_e0 [.i a0, .i a1, .b b2, .i a3, .g g5])))
 | _ => none
theorem putsT_0Ok : ∀ st K t, putsT_0F st K = some t → loopN fuelN (loopF2 Tryz.prog (lookK ka9) fuelN 0 .no (loopC [1, 1, 0, 1, 0] Tryz.f174) (loopV [1, 1, 0, 1, 0] Tryz.f174) K) st = t := by
 intro st K t h
 unfold putsT_0F at h
 split at h
 ·rename_i a0 a1 b2 a3 a4 g5 hm
  cases h
  rw [matchSt_eq hm]
  exact cast (by kernel_rfl) (loop_eq (F := loopF2 Tryz.prog (lookK ka9) fuelN 0 .no (loopC [1, 1, 0, 1, 0] Tryz.f174) (loopV [1, 1, 0, 1, 0] Tryz.f174) K) (S := fun i => instSt putsT_0_p [.i a0, .i a1, .b b2, .i a3, .i i, .g g5]) (B := putsT_0B a0 a1 b2 a3 g5 (fun _ => K (.ret) (instSt putsT_0_e0 [.i a0, .i a1, .b true, .i a3, .g g5])) (fun _ => K (.exit 0) (instSt putsT_0_e0 [.i a0, .i a1, .b b2, .i a3, .g g5]))) (fun i k => by kernel_rfl) fuelN (a4))
 ·cases h
def putsTK {β : Type} (g : Geo) (c it : Int) (κ : Bool → T β) : T β :=
 .op (.self ) fun x0 =>
 .op (.load (atF g 13 (inF x0 c 4))) fun x1 =>
 putsT_0L (c) (it) (false) (ofW IntKind.i64 x1 0 24) (g) (ofW IntKind.i64 x1 0 24) (fun y2_0 =>
 κ (true)) (fun y2_0 =>
 (growsT g c it (ofW IntKind.i64 x1 0 24)).bind fun r3 =>
 κ (r3))
def putsT (g : Geo) (c it : Int) : T Bool := putsTK g c it .ret
theorem putsT_bind {β : Type} (g : Geo) (c it : Int) (κ : Bool → T β) : (putsT g c it).bind κ = putsTK g c it κ := by
 unfold putsT putsTK
 first | rfl | (simp only [bind_cond, bind_ret_, bind_op, bind_fail, T.bind_assoc, putsT_0L_bind])
def btakeT_1B {β : Type} (a0 a1 : Int) (b2 : Bool) (a3 a4 : Int) (g6 : Geo) (κ0 : Int → T β) (κ1 : Unit → T β) (i : Int) (k : Int → T β) : T β :=
 bif decide (i < a4) then (.op (.self ) fun x1 =>
 bif bif g6.threads == 0 then false else true then ((fromT g6 a0 (Int.tmod (IntKind.i64.wrap (x1 + i)) g6.threads)).bind fun r3 =>
 bif r3.2 then ((clearsT g6).bind fun r5 =>
 κ0 (r3.1)) else
 k (IntKind.i64.wrap (i + 1))) else
 .fail) else
 κ1 ()
def btakeT_1L {β : Type} (a0 a1 : Int) (b2 : Bool) (a3 a4 : Int) (g6 : Geo) (a5 : Int) (κ0 : Int → T β) (κ1 : Unit → T β) : T β := loopB fuelN (btakeT_1B a0 a1 b2 a3 a4 g6 κ0 κ1) (a5)
theorem btakeT_1L_bind {β γ : Type} (a0 a1 : Int) (b2 : Bool) (a3 a4 : Int) (g6 : Geo) (a5 : Int) (κ0 : Int → T β) (κ1 : Unit → T β) (κ : β → T γ) : (btakeT_1L a0 a1 b2 a3 a4 g6 a5 κ0 κ1).bind κ = btakeT_1L a0 a1 b2 a3 a4 g6 a5 (fun ae1 => (κ0 ae1).bind κ) (fun u => (κ1 u).bind κ) := by
 unfold btakeT_1L
 refine loopB_bind κ (fun i k => ?_) _ _
 unfold btakeT_1B
 first | rfl | (simp only [bind_cond, bind_ret_, bind_op, bind_fail, T.bind_assoc])
def btakeT_1_p : Pat := ⟨slotsN 62 0 [(0, .c (.raw (.port))), (2, .c (.int .i64)), (4, .c (.raw (.ptr 0 0))), (6, .c (.int .u64)), (7, .c (.bool)), (8, .c (.int .u64)), (25, .c (.int .i64)), (26, .c (.int .i64))], [some ⟨[.geo], 24, false, none⟩]⟩
def btakeT_1_e0 : Pat := ⟨slotsN 62 0 [(0, .c (.raw (.port))), (2, .c (.int .i64)), (4, .c (.raw (.ptr 0 0))), (6, .c (.int .u64)), (7, .c (.bool)), (8, .c (.int .u64))], [some ⟨[.geo], 24, false, none⟩]⟩
def btakeT_1F : St → (Ex → St → T R) → Option (T R) := fun st K => match matchSt btakeT_1_p st with
 | some [.i a0, .i a1, .b b2, .i a3, .i a4, .i a5, .g g6] => some (btakeT_1L a0 a1 b2 a3 a4 g6 a5 (fun ae1 => K (.ret) (instSt btakeT_1_e0 [.i a0, .i ae1, .b true, .i a3, .g g6])) (fun _ => K (.exit 2) (instSt btakeT_1_e0 [.i a0, .i a1, .b b2, .i a3, .g g6])))
 | _ => none
theorem btakeT_1Ok : ∀ st K t, btakeT_1F st K = some t → loopN fuelN (loopF2 Tryz.prog (lookK ka9) fuelN 0 .no (loopC [1, 1, 0, 0, 0, 1, 0, 1, 0] Tryz.f258) (loopV [1, 1, 0, 0, 0, 1, 0, 1, 0] Tryz.f258) K) st = t := by
 intro st K t h
 unfold btakeT_1F at h
 split at h
 ·rename_i a0 a1 b2 a3 a4 a5 g6 hm
  cases h
  rw [matchSt_eq hm]
  exact cast (by kernel_rfl) (loop_eq (F := loopF2 Tryz.prog (lookK ka9) fuelN 0 .no (loopC [1, 1, 0, 0, 0, 1, 0, 1, 0] Tryz.f258) (loopV [1, 1, 0, 0, 0, 1, 0, 1, 0] Tryz.f258) K) (S := fun i => instSt btakeT_1_p [.i a0, .i a1, .b b2, .i a3, .i a4, .i i, .g g6]) (B := btakeT_1B a0 a1 b2 a3 a4 g6 (fun ae1 => K (.ret) (instSt btakeT_1_e0 [.i a0, .i ae1, .b true, .i a3, .g g6])) (fun _ => K (.exit 2) (instSt btakeT_1_e0 [.i a0, .i a1, .b b2, .i a3, .g g6]))) (fun i k => by kernel_rfl) fuelN (a5))
 ·cases h
def btakeT_0B {β : Type} (a0 a1 : Int) (b2 : Bool) (g3 : Geo) (κ0 : Int → T β) (κ1 : Unit → T β) (i : Unit) (k : Unit → T β) : T β :=
 .op (.load (atF g3 5 a0)) fun x0 =>
 btakeT_1L (a0) (a1) (b2) (x0) (g3.threads) (g3) (0) (fun y1_0 =>
 κ0 (y1_0)) (fun y1_0 =>
 .op (.load (atF g3 5 a0)) fun x2 =>
 bif x2 == x0 then ((clearsT g3).bind fun r4 =>
 κ1 ()) else
 k ())
def btakeT_0L {β : Type} (a0 a1 : Int) (b2 : Bool) (g3 : Geo)  (κ0 : Int → T β) (κ1 : Unit → T β) : T β := loopB fuelN (btakeT_0B a0 a1 b2 g3 κ0 κ1) ()
theorem btakeT_0L_bind {β γ : Type} (a0 a1 : Int) (b2 : Bool) (g3 : Geo)  (κ0 : Int → T β) (κ1 : Unit → T β) (κ : β → T γ) : (btakeT_0L a0 a1 b2 g3  κ0 κ1).bind κ = btakeT_0L a0 a1 b2 g3  (fun ae0 => (κ0 ae0).bind κ) (fun u => (κ1 u).bind κ) := by
 unfold btakeT_0L
 refine loopB_bind κ (fun i k => ?_) _ _
 unfold btakeT_0B
 first | rfl | (simp only [bind_cond, bind_ret_, bind_op, bind_fail, T.bind_assoc, btakeT_1L_bind])
def btakeT_0_p : Pat := ⟨slotsN 62 0 [(0, .c (.raw (.port))), (2, .c (.int .i64)), (4, .c (.raw (.ptr 0 0))), (6, .c (.int .u64)), (7, .c (.bool))], [some ⟨[.geo], 24, false, none⟩]⟩
def btakeT_0_e0 : Pat := ⟨slotsN 62 0 [(6, .c (.int .u64)), (7, .c (.bool))], []⟩
def btakeT_0F : St → (Ex → St → T R) → Option (T R) := fun st K => match matchSt btakeT_0_p st with
 | some [.i a0, .i a1, .b b2, .g g3] => some (btakeT_0L a0 a1 b2 g3  (fun ae0 => K (.ret) (instSt btakeT_0_e0 [.i ae0, .b true])) (fun _ => K (.ret) (instSt btakeT_0_e0 [.i 0, .b false])))
 | _ => none
theorem btakeT_0Ok : ∀ st K t, btakeT_0F st K = some t → loopN fuelN (loopF2 Tryz.prog (lookK ka9) fuelN 0 (lsAt btakeT_1F .no [0, 1, 0, 1, 0]) (loopC [1, 1, 0] Tryz.f258) (loopV [1, 1, 0] Tryz.f258) K) st = t := by
 intro st K t h
 unfold btakeT_0F at h
 split at h
 ·rename_i a0 a1 b2 g3 hm
  cases h
  rw [matchSt_eq hm]
  exact cast (by kernel_rfl) (loop_eq (F := loopF2 Tryz.prog (lookK ka9) fuelN 0 (lsAt btakeT_1F .no [0, 1, 0, 1, 0]) (loopC [1, 1, 0] Tryz.f258) (loopV [1, 1, 0] Tryz.f258) K) (S := fun i => instSt btakeT_0_p [.i a0, .i a1, .b b2, .g g3]) (B := btakeT_0B a0 a1 b2 g3 (fun ae0 => K (.ret) (instSt btakeT_0_e0 [.i ae0, .b true])) (fun _ => K (.ret) (instSt btakeT_0_e0 [.i 0, .b false]))) (fun i k => by kernel_rfl) fuelN ())
 ·cases h
def btakeTK {β : Type} (g : Geo) (c : Int) (κ : (Int × Bool) → T β) : T β :=
 (bnoneT g c).bind fun r0 =>
 bif r0 then (κ ((0), (false))) else
 btakeT_0L (c) (0) (false) (g) (fun y2_0 =>
 κ ((y2_0), (true))) (fun y2_0 =>
 κ ((0), (false)))
def btakeT (g : Geo) (c : Int) : T (Int × Bool) := btakeTK g c .ret
theorem btakeT_bind {β : Type} (g : Geo) (c : Int) (κ : (Int × Bool) → T β) : (btakeT g c).bind κ = btakeTK g c κ := by
 unfold btakeT btakeTK
 first | rfl | (simp only [bind_cond, bind_ret_, bind_op, bind_fail, T.bind_assoc, btakeT_0L_bind])
def m_putsT : Sm := fun args H => match args, H with
 | [.c .port, .agg gc, .c (.int .i64 c), .c (.int .u64 it)], [] => (match geoOf gc with
   | some g => some (mkS (Bool) (putsT g c it) fun r => some (.c (.bool r), []))
   | _ => none)
 | _, _ => none
theorem putsT_good : Good Tryz.prog (lookK ka9) fuelN 0 (lsAt putsT_0F .no [1, 1, 0, 1, 0]) (Tryz.f174.body.getD .skip) (resMask Tryz.f174.results.toList) := good_fn (body_eq (by kernel_rfl)) good_no putsT_0Ok
variable {σ : Type} {I : Port Tryz.prog σ}
theorem s_m_putsT (hl : SoundL I ka9) : SoundF I 174 m_putsT := by
 refine sq hl fuelN Tryz.func174 fun args H t ht => ?_
 unfold m_putsT at ht
 split at ht
 ·rename_i gc c it
  split at ht
  ·rename_i g hg
   obtain rfl := geoOf_eq hg
   cases ht
   refine (evF2_eq (P := Tryz.prog) (n := fuelN) (x := (lsAt putsT_0F .no [1, 1, 0, 1, 0])) (fn := Tryz.f174) (H := []) (c := Tryz.f174.body.getD .skip) (body_eq (by kernel_rfl)) putsT_good).symm.trans ?_
   refine Eq.trans ?_ (putsT_bind g c it _).symm
   kernel_rfl
  ·cases ht
 ·cases ht
def m_btakeT : Sm := fun args H => match args, H with
 | [.c .port, .agg gc, .c (.int .i64 c)], [] => (match geoOf gc with
   | some g => some (mkS ((Int × Bool)) (btakeT g c) fun r => some (.tup [.c (.int .u64 r.1), .c (.bool r.2)], []))
   | _ => none)
 | _, _ => none
theorem btakeT_good : Good Tryz.prog (lookK ka9) fuelN 0 (lsAt btakeT_0F (lsAt btakeT_1F .no [0, 1, 0, 1, 0]) [1, 1, 0]) (Tryz.f258.body.getD .skip) (resMask Tryz.f258.results.toList) := good_fn (body_eq (by kernel_rfl)) (good_in (p := [1, 1, 0]) (q := [0, 1, 0, 1, 0]) (body_eq (fn := Tryz.f258) (by kernel_rfl)) good_no btakeT_1Ok (by kernel_rfl)) btakeT_0Ok
theorem s_m_btakeT (hl : SoundL I ka9) : SoundF I 258 m_btakeT := by
 refine sq hl fuelN Tryz.func258 fun args H t ht => ?_
 unfold m_btakeT at ht
 split at ht
 ·rename_i gc c
  split at ht
  ·rename_i g hg
   obtain rfl := geoOf_eq hg
   cases ht
   refine (evF2_eq (P := Tryz.prog) (n := fuelN) (x := (lsAt btakeT_0F (lsAt btakeT_1F .no [0, 1, 0, 1, 0]) [1, 1, 0])) (fn := Tryz.f258) (H := []) (c := Tryz.f258.body.getD .skip) (body_eq (by kernel_rfl)) btakeT_good).symm.trans ?_
   refine Eq.trans ?_ (btakeT_bind g c _).symm
   kernel_rfl
  ·cases ht
 ·cases ht
def ka10 : List (Nat × Sm) := (174, m_putsT) :: (258, m_btakeT) :: ka9
theorem s_ka10 : SoundL I ka10 := (.cons (s_m_putsT s_ka9) (.cons (s_m_btakeT s_ka9) s_ka9))
end Go.Proofs.YtaegelbaghaooaaGreat.Lx
