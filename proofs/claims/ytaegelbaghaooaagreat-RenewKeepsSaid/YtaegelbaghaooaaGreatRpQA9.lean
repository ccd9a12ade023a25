/- Summaries: bag. (trees printed by program, wip/auto.py) -/
import Derived.Test.YtaegelbaghaooaaGreatRpQA8
import Derived.WalkKit
set_option linter.unusedSimpArgs false
set_option linter.unusedVariables false
set_option linter.unusedSectionVars false
namespace Go.Proofs.YtaegelbaghaooaaGreat.Lx
open Go
set_option maxRecDepth 1000000

def growsTK {β : Type} (g : Geo) (c it fi : Int) (κ : Bool → T β) : T β :=
 (acqT g).bind fun r0 =>
 bif r0 == 0 then (κ (false)) else
 .op (.store (atF g 18 (inF (IntKind.i64.wrap (r0 - 1)) 0 8)) (it)) fun _ =>
 .op (.store (atF g 18 (inF (IntKind.i64.wrap (r0 - 1)) 1 8)) (0)) fun _ =>
 .op (.store (atF g 18 (inF (IntKind.i64.wrap (r0 - 1)) 2 8)) (0)) fun _ =>
 .op (.store (atF g 18 (inF (IntKind.i64.wrap (r0 - 1)) 3 8)) (0)) fun _ =>
 .op (.store (atF g 18 (inF (IntKind.i64.wrap (r0 - 1)) 4 8)) (0)) fun _ =>
 .op (.store (atF g 18 (inF (IntKind.i64.wrap (r0 - 1)) 5 8)) (0)) fun _ =>
 .op (.store (atF g 18 (inF (IntKind.i64.wrap (r0 - 1)) 6 8)) (0)) fun _ =>
 .op (.store (atF g 18 (inF (IntKind.i64.wrap (r0 - 1)) 7 8)) (0)) fun _ =>
 .op (.store (atF g 17 (inF (IntKind.i64.wrap (r0 - 1)) 0 1)) (Ref.word (Ref.mk fi false 0))) fun _ =>
 .op (.self ) fun x11 =>
 .op (.store (atF g 13 (inF x11 c 4)) (Ref.word (Ref.mk r0 false 0))) fun _ =>
 κ (true)
def growsT (g : Geo) (c it fi : Int) : T Bool := growsTK g c it fi .ret
theorem growsT_bind {β : Type} (g : Geo) (c it fi : Int) (κ : Bool → T β) : (growsT g c it fi).bind κ = growsTK g c it fi κ := by
 unfold growsT growsTK
 first | rfl | (simp only [bind_cond, bind_ret_, bind_op, bind_fail, T.bind_assoc])
def fromT_1B {β : Type} (a0 a1 a2 : Int) (b3 : Bool) (g5 : Geo) (κ0 : Int → T β) (κ1 : Unit → T β) (κ2 : Unit → T β) (i : Int × Int × Bool × Int) (k : Int × Int × Bool × Int → T β) : T β :=
 bif i.2.1 != 0 then ((emptiesT g5 i.2.1).bind fun r1 =>
 bif r1.2 then (κ0 (r1.1)) else
 (protT g5 (IntKind.i64.wrap (1 - i.1))   (atF g5 17 (inF (IntKind.i64.wrap (i.2.1 - 1)) 0 1))).bind fun r3 =>
 bif r3.mark then (κ1 ()) else
 k (IntKind.i64.wrap (1 - i.1), r3.1, r3.mark, r3.ver)) else
 κ2 ()
def fromT_1L {β : Type} (a0 a1 a2 : Int) (b3 : Bool) (g5 : Geo) (a4 a6 : Int) (b7 : Bool) (a8 : Int) (κ0 : Int → T β) (κ1 : Unit → T β) (κ2 : Unit → T β) : T β := loopB fuelN (fromT_1B a0 a1 a2 b3 g5 κ0 κ1 κ2) (a4, a6, b7, a8)
theorem fromT_1L_bind {β γ : Type} (a0 a1 a2 : Int) (b3 : Bool) (g5 : Geo) (a4 a6 : Int) (b7 : Bool) (a8 : Int) (κ0 : Int → T β) (κ1 : Unit → T β) (κ2 : Unit → T β) (κ : β → T γ) : (fromT_1L a0 a1 a2 b3 g5 a4 a6 b7 a8 κ0 κ1 κ2).bind κ = fromT_1L a0 a1 a2 b3 g5 a4 a6 b7 a8 (fun ae2 => (κ0 ae2).bind κ) (fun u => (κ1 u).bind κ) (fun u => (κ2 u).bind κ) := by
 unfold fromT_1L
 refine loopB_bind κ (fun i k => ?_) _ _
 unfold fromT_1B
 first | rfl | (simp only [bind_cond, bind_ret_, bind_op, bind_fail, T.bind_assoc])
def fromT_1_p : Pat := ⟨slotsN 47 0 [(0, .c (.raw (.port))), (2, .c (.int .i64)), (3, .c (.int .i64)), (5, .c (.raw (.ptr 0 0))), (8, .c (.int .u64)), (9, .c (.bool)), (10, .c (.int .i64)), (11, .c (.raw (.ptr 1 0)))], [some ⟨[.geo], 24, false, none⟩, some ⟨[.int .i64, .bool, .int .u32], 162, false, none⟩]⟩
def fromT_1_e0 : Pat := ⟨slotsN 47 0 [(0, .c (.raw (.port))), (2, .c (.int .i64)), (3, .c (.int .i64)), (5, .c (.raw (.ptr 0 0))), (8, .c (.int .u64)), (9, .c (.bool))], [some ⟨[.geo], 24, false, none⟩]⟩
def fromT_1F : St → (Ex → St → T R) → Option (T R) := fun st K => match matchSt fromT_1_p st with
 | some [.i a0, .i a1, .i a2, .b b3, .i a4, .g g5, .i a6, .b b7, .i a8] => some (fromT_1L a0 a1 a2 b3 g5 a4 a6 b7 a8 (fun ae2 => K (.ret) (instSt fromT_1_e0 [.i a0, .i a1, .i ae2, .b true, .g g5])) (fun _ => K (.exit 1) (instSt fromT_1_e0 [.i a0, .i a1, .i a2, .b b3, .g g5])) (fun _ => K (.exit 2) (instSt fromT_1_e0 [.i a0, .i a1, .i a2, .b b3, .g g5])))
 | _ => none
theorem fromT_1Ok : ∀ st K t, fromT_1F st K = some t → loopN fuelN (loopF2 Tryz.prog (lookK ka8) fuelN 0 .no (loopC [1, 0, 1, 0, 0, 0, 1, 1, 0, 0] Tryz.f275) (loopV [1, 0, 1, 0, 0, 0, 1, 1, 0, 0] Tryz.f275) K) st = t := by
 intro st K t h
 unfold fromT_1F at h
 split at h
 ·rename_i a0 a1 a2 b3 a4 g5 a6 b7 a8 hm
  cases h
  rw [matchSt_eq hm]
  exact cast (by kernel_rfl) (loop_eq (F := loopF2 Tryz.prog (lookK ka8) fuelN 0 .no (loopC [1, 0, 1, 0, 0, 0, 1, 1, 0, 0] Tryz.f275) (loopV [1, 0, 1, 0, 0, 0, 1, 1, 0, 0] Tryz.f275) K) (S := fun i => instSt fromT_1_p [.i a0, .i a1, .i a2, .b b3, .i (i.1), .g g5, .i (i.2.1), .b (i.2.2.1), .i (i.2.2.2)]) (B := fromT_1B a0 a1 a2 b3 g5 (fun ae2 => K (.ret) (instSt fromT_1_e0 [.i a0, .i a1, .i ae2, .b true, .g g5])) (fun _ => K (.exit 1) (instSt fromT_1_e0 [.i a0, .i a1, .i a2, .b b3, .g g5])) (fun _ => K (.exit 2) (instSt fromT_1_e0 [.i a0, .i a1, .i a2, .b b3, .g g5]))) (fun i k => by kernel_rfl) fuelN (a4, a6, b7, a8))
 ·cases h
def fromT_0B {β : Type} (a0 a1 a2 : Int) (b3 : Bool) (g4 : Geo) (κ0 : Int → T β) (κ1 : Unit → T β) (i : Unit) (k : Unit → T β) : T β :=
 (protT g4 0 (atF g4 13 (inF a1 a0 4))).bind fun r0 =>
 fromT_1L (a0) (a1) (a2) (b3) (g4) (0) (r0.1) (r0.mark) (r0.ver) (fun y1_0 =>
 κ0 (y1_0)) (fun y1_0 =>
 k ()) (fun y1_0 =>
 κ1 ())
def fromT_0L {β : Type} (a0 a1 a2 : Int) (b3 : Bool) (g4 : Geo)  (κ0 : Int → T β) (κ1 : Unit → T β) : T β := loopB fuelN (fromT_0B a0 a1 a2 b3 g4 κ0 κ1) ()
theorem fromT_0L_bind {β γ : Type} (a0 a1 a2 : Int) (b3 : Bool) (g4 : Geo)  (κ0 : Int → T β) (κ1 : Unit → T β) (κ : β → T γ) : (fromT_0L a0 a1 a2 b3 g4  κ0 κ1).bind κ = fromT_0L a0 a1 a2 b3 g4  (fun ae0 => (κ0 ae0).bind κ) (fun u => (κ1 u).bind κ) := by
 unfold fromT_0L
 refine loopB_bind κ (fun i k => ?_) _ _
 unfold fromT_0B
 first | rfl | (simp only [bind_cond, bind_ret_, bind_op, bind_fail, T.bind_assoc, fromT_1L_bind])
def fromT_0_e0 : Pat := ⟨slotsN 47 0 [(8, .c (.int .u64)), (9, .c (.bool))], []⟩
def fromT_0F : St → (Ex → St → T R) → Option (T R) := fun st K => match matchSt fromT_1_e0 st with
 | some [.i a0, .i a1, .i a2, .b b3, .g g4] => some (fromT_0L a0 a1 a2 b3 g4  (fun ae0 => K (.ret) (instSt fromT_0_e0 [.i ae0, .b true])) (fun _ => K (.ret) (instSt fromT_0_e0 [.i 0, .b false])))
 | _ => none
theorem fromT_0Ok : ∀ st K t, fromT_0F st K = some t → loopN fuelN (loopF2 Tryz.prog (lookK ka8) fuelN 0 (lsAt fromT_1F .no [0, 1, 1, 0, 0]) (loopC [1, 0, 1, 0] Tryz.f275) (loopV [1, 0, 1, 0] Tryz.f275) K) st = t := by
 intro st K t h
 unfold fromT_0F at h
 split at h
 ·rename_i a0 a1 a2 b3 g4 hm
  cases h
  rw [matchSt_eq hm]
  exact cast (by kernel_rfl) (loop_eq (F := loopF2 Tryz.prog (lookK ka8) fuelN 0 (lsAt fromT_1F .no [0, 1, 1, 0, 0]) (loopC [1, 0, 1, 0] Tryz.f275) (loopV [1, 0, 1, 0] Tryz.f275) K) (S := fun i => instSt fromT_1_e0 [.i a0, .i a1, .i a2, .b b3, .g g4]) (B := fromT_0B a0 a1 a2 b3 g4 (fun ae0 => K (.ret) (instSt fromT_0_e0 [.i ae0, .b true])) (fun _ => K (.ret) (instSt fromT_0_e0 [.i 0, .b false]))) (fun i k => by kernel_rfl) fuelN ())
 ·cases h
def fromTK {β : Type} (g : Geo) (c t : Int) (κ : (Int × Bool) → T β) : T β :=
 fromT_0L (c) (t) (0) (false) (g) (fun y0_0 =>
 κ ((y0_0), (true))) (fun y0_0 =>
 κ ((0), (false)))
def fromT (g : Geo) (c t : Int) : T (Int × Bool) := fromTK g c t .ret
theorem fromT_bind {β : Type} (g : Geo) (c t : Int) (κ : (Int × Bool) → T β) : (fromT g c t).bind κ = fromTK g c t κ := by
 unfold fromT fromTK
 first | rfl | (simp only [bind_cond, bind_ret_, bind_op, bind_fail, T.bind_assoc, fromT_0L_bind])
def clearsTK {β : Type} (g : Geo) (κ : Unit → T β) : T β :=
 (clearT g 0).bind fun r0 =>
 (clearT g 1).bind fun r1 =>
 κ ()
def clearsT (g : Geo) : T Unit := clearsTK g .ret
theorem clearsT_bind {β : Type} (g : Geo) (κ : Unit → T β) : (clearsT g).bind κ = clearsTK g κ := by
 unfold clearsT clearsTK
 first | rfl | (simp only [bind_cond, bind_ret_, bind_op, bind_fail, T.bind_assoc])
def m_growsT : Sm := fun args H => match args, H with
 | [.c .port, .agg gc, .c (.int .i64 c), .c (.int .u64 it), .c (.int .i64 fi)], [] => (match geoOf gc with
   | some g => some (mkS (Bool) (growsT g c it fi) fun r => some (.c (.bool r), []))
   | _ => none)
 | _, _ => none
variable {σ : Type} {I : Port Tryz.prog σ}
theorem s_m_growsT (hl : SoundL I ka8) : SoundF I 238 m_growsT := by
 refine sq hl 10 Tryz.func238 fun args H t ht => ?_
 unfold m_growsT at ht
 split at ht
 ·rename_i gc c it fi
  split at ht
  ·rename_i g hg
   obtain rfl := geoOf_eq hg
   cases ht
   refine Eq.trans ?_ (growsT_bind g c it fi _).symm
   kernel_rfl
  ·cases ht
 ·cases ht
def m_fromT : Sm := fun args H => match args, H with
 | [.c .port, .agg gc, .c (.int .i64 c), .c (.int .i64 t)], [] => (match geoOf gc with
   | some g => some (mkS ((Int × Bool)) (fromT g c t) fun r => some (.tup [.c (.int .u64 r.1), .c (.bool r.2)], []))
   | _ => none)
 | _, _ => none
theorem fromT_good : Good Tryz.prog (lookK ka8) fuelN 0 (lsAt fromT_0F (lsAt fromT_1F .no [0, 1, 1, 0, 0]) [1, 0, 1, 0]) (Tryz.f275.body.getD .skip) (resMask Tryz.f275.results.toList) := good_fn (body_eq (by kernel_rfl)) (good_in (p := [1, 0, 1, 0]) (q := [0, 1, 1, 0, 0]) (body_eq (fn := Tryz.f275) (by kernel_rfl)) good_no fromT_1Ok (by kernel_rfl)) fromT_0Ok
theorem s_m_fromT (hl : SoundL I ka8) : SoundF I 275 m_fromT := by
 refine sq hl fuelN Tryz.func275 fun args H t ht => ?_
 unfold m_fromT at ht
 split at ht
 ·rename_i gc c t
  split at ht
  ·rename_i g hg
   obtain rfl := geoOf_eq hg
   cases ht
   refine (evF2_eq (P := Tryz.prog) (n := fuelN) (x := (lsAt fromT_0F (lsAt fromT_1F .no [0, 1, 1, 0, 0]) [1, 0, 1, 0])) (fn := Tryz.f275) (H := []) (c := Tryz.f275.body.getD .skip) (body_eq (by kernel_rfl)) fromT_good).symm.trans ?_
   refine Eq.trans ?_ (fromT_bind g c t _).symm
   kernel_rfl
  ·cases ht
 ·cases ht
def m_clearsT : Sm := fun args H => match args, H with
 | [.c .port, .agg gc], [] => (match geoOf gc with
   | some g => some (mkS (Unit) (clearsT g) fun r => some (.tup [], []))
   | _ => none)
 | _, _ => none
theorem s_m_clearsT (hl : SoundL I ka8) : SoundF I 276 m_clearsT := by
 refine sq hl 1 Tryz.func276 fun args H t ht => ?_
 unfold m_clearsT at ht
 split at ht
 ·rename_i gc
  split at ht
  ·rename_i g hg
   obtain rfl := geoOf_eq hg
   cases ht
   refine Eq.trans ?_ (clearsT_bind g _).symm
   kernel_rfl
  ·cases ht
 ·cases ht
def ka9 : List (Nat × Sm) := (238, m_growsT) :: (275, m_fromT) :: (276, m_clearsT) :: ka8
theorem s_ka9 : SoundL I ka9 := (.cons (s_m_growsT s_ka8) (.cons (s_m_fromT s_ka8) (.cons (s_m_clearsT s_ka8) s_ka8)))
end Go.Proofs.YtaegelbaghaooaaGreat.Lx
