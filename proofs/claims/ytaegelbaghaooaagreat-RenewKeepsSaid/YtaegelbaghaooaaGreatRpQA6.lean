/- Summaries: runs, small functions. (trees printed by program, wip/auto.py) -/
import Derived.Test.YtaegelbaghaooaaGreatRpQA5
import Derived.WalkKit
set_option linter.unusedSimpArgs false
set_option linter.unusedVariables false
set_option linter.unusedSectionVars false
namespace Go.Proofs.YtaegelbaghaooaaGreat.Lx
open Go
set_option maxRecDepth 1000000

def cont0TK {β : Type} (x : Int) (κ : Bool → T β) : T β :=
 κ (decide (-1 ≥ 0))
def cont0T (x : Int) : T Bool := cont0TK x .ret
theorem cont0T_bind {β : Type} (x : Int) (κ : Bool → T β) : (cont0T x).bind κ = cont0TK x κ := by
 unfold cont0T cont0TK
 first | rfl | (simp only [bind_cond, bind_ret_, bind_op, bind_fail, T.bind_assoc])
def cont1TK {β : Type} (x k : Int) (κ : Bool → T β) : T β :=
 (index1bT x k).bind fun r0 =>
 κ (decide (r0 ≥ 0))
def cont1T (x k : Int) : T Bool := cont1TK x k .ret
theorem cont1T_bind {β : Type} (x k : Int) (κ : Bool → T β) : (cont1T x k).bind κ = cont1TK x k κ := by
 unfold cont1T cont1TK
 first | rfl | (simp only [bind_cond, bind_ret_, bind_op, bind_fail, T.bind_assoc])
def cont2TK {β : Type} (x k j : Int) (κ : Bool → T β) : T β :=
 (index2T x k j).bind fun r0 =>
 κ (decide (r0 ≥ 0))
def cont2T (x k j : Int) : T Bool := cont2TK x k j .ret
theorem cont2T_bind {β : Type} (x k j : Int) (κ : Bool → T β) : (cont2T x k j).bind κ = cont2TK x k j κ := by
 unfold cont2T cont2TK
 first | rfl | (simp only [bind_cond, bind_ret_, bind_op, bind_fail, T.bind_assoc])
def rallocT_0B {β : Type} (a0 a1 : Int) (b2 : Bool) (g4 : Geo) (a5 a6 a7 : Int) (κ0 : Unit → T β) (i : Int) (k : Int → T β) : T β :=
 bif decide (i < IntKind.i64.wrap (a7 + a0)) then ((dputT g4 i 0 0).bind fun r1 =>
 k (IntKind.i64.wrap (i + 1))) else
 κ0 ()
def rallocT_0L {β : Type} (a0 a1 : Int) (b2 : Bool) (g4 : Geo) (a5 a6 a7 a3 : Int) (κ0 : Unit → T β) : T β := loopB fuelN (rallocT_0B a0 a1 b2 g4 a5 a6 a7 κ0) (a3)
theorem rallocT_0L_bind {β γ : Type} (a0 a1 : Int) (b2 : Bool) (g4 : Geo) (a5 a6 a7 a3 : Int) (κ0 : Unit → T β) (κ : β → T γ) : (rallocT_0L a0 a1 b2 g4 a5 a6 a7 a3 κ0).bind κ = rallocT_0L a0 a1 b2 g4 a5 a6 a7 a3 (fun u => (κ0 u).bind κ) := by
 unfold rallocT_0L
 refine loopB_bind κ (fun i k => ?_) _ _
 unfold rallocT_0B
 first | rfl | (simp only [bind_cond, bind_ret_, bind_op, bind_fail, T.bind_assoc])
def rallocT_0_p : Pat := ⟨slotsN 86 0 [(2, .c (.int .i64)), (8, .c (.int .i64)), (9, .c (.bool)), (10, .c (.raw (.ptr 1 0))), (11, .c (.raw (.ptr 2 0))), (12, .c (.int .i64))], [none, some ⟨[.raw (.port), .geo], 212, false, none⟩, some ⟨[.int .i64, .int .i64, .int .i64], 296, false, none⟩]⟩
def rallocT_0_e0 : Pat := ⟨slotsN 86 0 [(2, .c (.int .i64)), (8, .c (.int .i64)), (9, .c (.bool)), (10, .c (.raw (.ptr 1 0))), (11, .c (.raw (.ptr 2 0)))], [none, some ⟨[.raw (.port), .geo], 212, false, none⟩, some ⟨[.int .i64, .int .i64, .int .i64], 296, false, none⟩]⟩
def rallocT_0F : St → (Ex → St → T R) → Option (T R) := fun st K => match matchSt rallocT_0_p st with
 | some [.i a0, .i a1, .b b2, .i a3, .g g4, .i a5, .i a6, .i a7] => some (rallocT_0L a0 a1 b2 g4 a5 a6 a7 a3 (fun _ => K (.exit 0) (instSt rallocT_0_e0 [.i a0, .i a1, .b b2, .g g4, .i a5, .i a6, .i a7])))
 | _ => none
theorem rallocT_0Ok : ∀ st K t, rallocT_0F st K = some t → loopN fuelN (loopF2 Tryz.prog (lookK ka5) fuelN 0 .no (loopC [1, 1, 1, 1, 1, 1, 0, 1, 0] Tryz.f229) (loopV [1, 1, 1, 1, 1, 1, 0, 1, 0] Tryz.f229) K) st = t := by
 intro st K t h
 unfold rallocT_0F at h
 split at h
 ·rename_i a0 a1 b2 a3 g4 a5 a6 a7 hm
  cases h
  rw [matchSt_eq hm]
  exact cast (by kernel_rfl) (loop_eq (F := loopF2 Tryz.prog (lookK ka5) fuelN 0 .no (loopC [1, 1, 1, 1, 1, 1, 0, 1, 0] Tryz.f229) (loopV [1, 1, 1, 1, 1, 1, 0, 1, 0] Tryz.f229) K) (S := fun i => instSt rallocT_0_p [.i a0, .i a1, .b b2, .i i, .g g4, .i a5, .i a6, .i a7]) (B := rallocT_0B a0 a1 b2 g4 a5 a6 a7 (fun _ => K (.exit 0) (instSt rallocT_0_e0 [.i a0, .i a1, .b b2, .g g4, .i a5, .i a6, .i a7]))) (fun i k => by kernel_rfl) fuelN (a3))
 ·cases h
def rallocTK {β : Type} (g : Geo) (k a : Int) (κ : (Int × Bool) → T β) : T β :=
 bif decide (k < 1) then (κ ((0), (false))) else
 bif decide (a < 1) then (κ ((0), (false))) else
 bif decide (k > g.pages) then (κ ((0), (false))) else
 (bestT g k (if 256 < a then (256 : Int) else a)).bind fun r3 =>
 bif r3.n == 0 then (κ ((0), (false))) else
 (countsT g r3.n true).bind fun r5 =>
 rallocT_0L (k) (0) (false) (g) (r3.page) (r3.n) (r3.at_) (IntKind.i64.wrap (r3.at_ + 1)) (fun y6_0 =>
 (dputT g r3.at_ 4 k).bind fun r7 =>
 (layT g r3.page (IntKind.i64.wrap (r3.at_ - r3.page))).bind fun r8 =>
 (layT g (IntKind.i64.wrap (r3.at_ + k)) (IntKind.i64.wrap (IntKind.i64.wrap (IntKind.i64.wrap (r3.page + r3.n) - r3.at_) - k))).bind fun r9 =>
 κ ((r3.at_), (true)))
def rallocT (g : Geo) (k a : Int) : T (Int × Bool) := rallocTK g k a .ret
theorem rallocT_bind {β : Type} (g : Geo) (k a : Int) (κ : (Int × Bool) → T β) : (rallocT g k a).bind κ = rallocTK g k a κ := by
 unfold rallocT rallocTK
 first | rfl | (simp only [bind_cond, bind_ret_, bind_op, bind_fail, T.bind_assoc, rallocT_0L_bind])
def rfreeTK {β : Type} (g : Geo) (p k : Int) (κ : Bool → T β) : T β :=
 bif decide (p < 0) then (κ (false)) else
 bif decide (k < 1) then (κ (false)) else
 bif decide (p ≥ g.pages) then (κ (false)) else
 (getT_ g p).bind fun r3 =>
 (usedT (Pg.mk r3.kind r3.len r3.cls r3.owner) k).bind fun r4 =>
 bif !r4 then (κ (false)) else
 (aheadT g p).bind fun r6 =>
 (behindT g (IntKind.i64.wrap (p + k))).bind fun r7 =>
 (dputT g p 0 0).bind fun r8 =>
 bif decide (r6 > 0) then ((countsT g r6 true).bind fun r10 =>
 (dputT g (IntKind.i64.wrap (p - 1)) 0 0).bind fun r11 =>
 bif decide (r7 > 0) then ((countsT g r7 true).bind fun r13 =>
 (dputT g (IntKind.i64.wrap (p + k)) 0 0).bind fun r14 =>
 (layT g (IntKind.i64.wrap (p - r6)) (IntKind.i64.wrap (IntKind.i64.wrap (r6 + k) + r7))).bind fun r15 =>
 κ (true)) else
 (layT g (IntKind.i64.wrap (p - r6)) (IntKind.i64.wrap (IntKind.i64.wrap (r6 + k) + r7))).bind fun r13 =>
 κ (true)) else
 bif decide (r7 > 0) then ((countsT g r7 true).bind fun r11 =>
 (dputT g (IntKind.i64.wrap (p + k)) 0 0).bind fun r12 =>
 (layT g (IntKind.i64.wrap (p - r6)) (IntKind.i64.wrap (IntKind.i64.wrap (r6 + k) + r7))).bind fun r13 =>
 κ (true)) else
 (layT g (IntKind.i64.wrap (p - r6)) (IntKind.i64.wrap (IntKind.i64.wrap (r6 + k) + r7))).bind fun r11 =>
 κ (true)
def rfreeT (g : Geo) (p k : Int) : T Bool := rfreeTK g p k .ret
theorem rfreeT_bind {β : Type} (g : Geo) (p k : Int) (κ : Bool → T β) : (rfreeT g p k).bind κ = rfreeTK g p k κ := by
 unfold rfreeT rfreeTK
 first | rfl | (simp only [bind_cond, bind_ret_, bind_op, bind_fail, T.bind_assoc])
def rinitTK {β : Type} (g : Geo) (κ : Unit → T β) : T β :=
 (layT g 0 g.pages).bind fun r0 =>
 κ ()
def rinitT (g : Geo) : T Unit := rinitTK g .ret
theorem rinitT_bind {β : Type} (g : Geo) (κ : Unit → T β) : (rinitT g).bind κ = rinitTK g κ := by
 unfold rinitT rinitTK
 first | rfl | (simp only [bind_cond, bind_ret_, bind_op, bind_fail, T.bind_assoc])
def movedTK {β : Type} (g : Geo) (o n : Int) (κ : (Unit × Int) → T β) : T β :=
 bif decide (n > 0) then (.op (.add (atF g 1 0) (IntKind.u64.wrap n)) fun x1 =>
 κ ((), (IntKind.u64.wrap (o + IntKind.u64.wrap n)))) else
 κ ((), (o))
def movedT (g : Geo) (o n : Int) : T (Unit × Int) := movedTK g o n .ret
theorem movedT_bind {β : Type} (g : Geo) (o n : Int) (κ : (Unit × Int) → T β) : (movedT g o n).bind κ = movedTK g o n κ := by
 unfold movedT movedTK
 first | rfl | (simp only [bind_cond, bind_ret_, bind_op, bind_fail, T.bind_assoc])
def hofTK {β : Type} (g : Geo) (o p c : Int) (κ : (Bool × Int) → T β) : T β :=
 .op (.load (atF g 8 p)) fun x0 =>
 bif if ofW IntKind.i64 x0 8 3 > 0 then true else false then (κ (((bif decide (ofW IntKind.i64 x0 8 3 > 0) then IntKind.i64.wrap (ofW IntKind.i64 x0 8 3 - 1) else (0 : Int)) == c), (o))) else
 κ ((false), (o))
def hofT (g : Geo) (o p c : Int) : T (Bool × Int) := hofTK g o p c .ret
theorem hofT_bind {β : Type} (g : Geo) (o p c : Int) (κ : (Bool × Int) → T β) : (hofT g o p c).bind κ = hofTK g o p c κ := by
 unfold hofT hofTK
 first | rfl | (simp only [bind_cond, bind_ret_, bind_op, bind_fail, T.bind_assoc])
def cachedTK {β : Type} (g : Geo) (o c : Int) (κ : (Fnd × Int) → T β) : T β :=
 (ctakeT g c).bind fun r0 =>
 κ (⟨(IntKind.i64.wrap (IntKind.i64.wrap r0.1 - 1)), (r0.2), (0)⟩, (o))
def cachedT (g : Geo) (o c : Int) : T (Fnd × Int) := cachedTK g o c .ret
theorem cachedT_bind {β : Type} (g : Geo) (o c : Int) (κ : (Fnd × Int) → T β) : (cachedT g o c).bind κ = cachedTK g o c κ := by
 unfold cachedT cachedTK
 first | rfl | (simp only [bind_cond, bind_ret_, bind_op, bind_fail, T.bind_assoc])
def failsTK {β : Type} (e l : Int) (κ : Res → T β) : T β :=
 .op (.tell [.int .i64 (0), .int .i64 (0), .int .u8 (0), .int .u64 (0), .int .u64 (0), .int .u64 (0), .int .u64 (0), .int .u64 (0), .int .i64 (e), .int .i64 (l), .int .i64 (0)]) fun _ =>
 κ ⟨(0), (0), (0), (0), (0), (0), (0), (0), (e), (l), (0)⟩
def failsT (e l : Int) : T Res := failsTK e l .ret
theorem failsT_bind {β : Type} (e l : Int) (κ : Res → T β) : (failsT e l).bind κ = failsTK e l κ := by
 unfold failsT failsTK
 first | rfl | (simp only [bind_cond, bind_ret_, bind_op, bind_fail, T.bind_assoc])
def bornTK {β : Type} (g : Geo) (k u z : Int) (κ : Res → T β) : T β :=
 (birthT g k z).bind fun r0 =>
 .op (.steps ) fun x1 =>
 .op (.tell [.int .i64 (IntKind.i64.wrap (k * 8)), .int .i64 (u), .int .u8 (0), .int .u64 (0), .int .u64 (0), .int .u64 (0), .int .u64 (0), .int .u64 (0), .int .i64 (0), .int .i64 (x1), .int .i64 (0)]) fun _ =>
 κ ⟨(IntKind.i64.wrap (k * 8)), (u), (0), (0), (0), (0), (0), (0), (0), (x1), (0)⟩
def bornT (g : Geo) (k u z : Int) : T Res := bornTK g k u z .ret
theorem bornT_bind {β : Type} (g : Geo) (k u z : Int) (κ : Res → T β) : (bornT g k u z).bind κ = bornTK g k u z κ := by
 unfold bornT bornTK
 first | rfl | (simp only [bind_cond, bind_ret_, bind_op, bind_fail, T.bind_assoc])
def m_cont0T : Sm := fun args H => match args, H with
 | [.c .nils, .c (.int .i64 x)], [] => some (mkS (Bool) (cont0T x) fun r => some (.c (.bool r), []))
 | _, _ => none
variable {σ : Type} {I : Port Tryz.prog σ}
theorem s_m_cont0T (hl : SoundL I ka5) : SoundF I 251 m_cont0T := by
 refine sq hl 5 Tryz.func251 fun args H t ht => ?_
 unfold m_cont0T at ht
 split at ht
 ·rename_i x
  cases ht
  refine Eq.trans ?_ (cont0T_bind x _).symm
  kernel_rfl
 ·cases ht
def m_cont1T : Sm := fun args H => match args, H with
 | [.c (.sl 0 0 1 1), .c (.int .i64 x)], [some ⟨[.int .i64 k], 3, false, none⟩] => some (mkS (Bool) (cont1T x k) fun r => some (.c (.bool r), [some ⟨[.int .i64 k], 3, false, none⟩]))
 | _, _ => none
theorem s_m_cont1T (hl : SoundL I ka5) : SoundF I 251 m_cont1T := by
 refine sq hl 5 Tryz.func251 fun args H t ht => ?_
 unfold m_cont1T at ht
 split at ht
 ·rename_i x k
  cases ht
  refine Eq.trans ?_ (cont1T_bind x k _).symm
  kernel_rfl
 ·cases ht
def m_cont2T : Sm := fun args H => match args, H with
 | [.c (.sl 0 0 2 2), .c (.int .i64 x)], [some ⟨[.int .i64 k, .int .i64 j], 3, false, none⟩] => some (mkS (Bool) (cont2T x k j) fun r => some (.c (.bool r), [some ⟨[.int .i64 k, .int .i64 j], 3, false, none⟩]))
 | _, _ => none
theorem s_m_cont2T (hl : SoundL I ka5) : SoundF I 251 m_cont2T := by
 refine sq hl 5 Tryz.func251 fun args H t ht => ?_
 unfold m_cont2T at ht
 split at ht
 ·rename_i x k j
  cases ht
  refine Eq.trans ?_ (cont2T_bind x k j _).symm
  kernel_rfl
 ·cases ht
def m_rallocT : Sm := fun args H => match args, H with
 | [.c .port, .agg gc, .c (.int .i64 k), .c (.int .i64 a)], [] => (match geoOf gc with
   | some g => some (mkS ((Int × Bool)) (rallocT g k a) fun r => some (.tup [.c (.int .i64 r.1), .c (.bool r.2)], []))
   | _ => none)
 | _, _ => none
theorem rallocT_good : Good Tryz.prog (lookK ka5) fuelN 0 (lsAt rallocT_0F .no [1, 1, 1, 1, 1, 1, 0, 1, 0]) (Tryz.f229.body.getD .skip) (resMask Tryz.f229.results.toList) := good_fn (body_eq (by kernel_rfl)) good_no rallocT_0Ok
theorem s_m_rallocT (hl : SoundL I ka5) : SoundF I 229 m_rallocT := by
 refine sq hl fuelN Tryz.func229 fun args H t ht => ?_
 unfold m_rallocT at ht
 split at ht
 ·rename_i gc k a
  split at ht
  ·rename_i g hg
   obtain rfl := geoOf_eq hg
   cases ht
   refine (evF2_eq (P := Tryz.prog) (n := fuelN) (x := (lsAt rallocT_0F .no [1, 1, 1, 1, 1, 1, 0, 1, 0])) (fn := Tryz.f229) (H := []) (c := Tryz.f229.body.getD .skip) (body_eq (by kernel_rfl)) rallocT_good).symm.trans ?_
   refine Eq.trans ?_ (rallocT_bind g k a _).symm
   kernel_rfl
  ·cases ht
 ·cases ht
def m_rfreeT : Sm := fun args H => match args, H with
 | [.c .port, .agg gc, .c (.int .i64 p), .c (.int .i64 k)], [] => (match geoOf gc with
   | some g => some (mkS (Bool) (rfreeT g p k) fun r => some (.c (.bool r), []))
   | _ => none)
 | _, _ => none
theorem s_m_rfreeT (hl : SoundL I ka5) : SoundF I 235 m_rfreeT := by
 refine sq hl 1 Tryz.func235 fun args H t ht => ?_
 unfold m_rfreeT at ht
 split at ht
 ·rename_i gc p k
  split at ht
  ·rename_i g hg
   obtain rfl := geoOf_eq hg
   cases ht
   refine Eq.trans ?_ (rfreeT_bind g p k _).symm
   kernel_rfl
  ·cases ht
 ·cases ht
def m_rinitT : Sm := fun args H => match args, H with
 | [.c .port, .agg gc], [] => (match geoOf gc with
   | some g => some (mkS (Unit) (rinitT g) fun r => some (.tup [], []))
   | _ => none)
 | _, _ => none
theorem s_m_rinitT (hl : SoundL I ka5) : SoundF I 72 m_rinitT := by
 refine sq hl 1 Tryz.func72 fun args H t ht => ?_
 unfold m_rinitT at ht
 split at ht
 ·rename_i gc
  split at ht
  ·rename_i g hg
   obtain rfl := geoOf_eq hg
   cases ht
   refine Eq.trans ?_ (rinitT_bind g _).symm
   kernel_rfl
  ·cases ht
 ·cases ht
def m_movedT : Sm := fun args H => match args, H with
 | [.c (.ptr 0 0), .c (.int .i64 n)], [some ⟨.port :: gc, 150, false, none⟩] => (match hdOf gc with
   | some (g, o) => some (mkS ((Unit × Int)) (movedT g o n) fun r => some (.tup [], [some ⟨.port :: (g.cells ++ [.int .u64 r.2]), 150, false, none⟩]))
   | _ => none)
 | _, _ => none
theorem s_m_movedT (hl : SoundL I ka5) : SoundF I 86 m_movedT := by
 refine sq hl 1 Tryz.func86 fun args H t ht => ?_
 unfold m_movedT at ht
 split at ht
 ·rename_i n gc
  split at ht
  ·rename_i g o hg
   obtain rfl := hdOf_eq hg
   cases ht
   refine Eq.trans ?_ (movedT_bind g o n _).symm
   kernel_rfl
  ·cases ht
 ·cases ht
def m_hofT : Sm := fun args H => match args, H with
 | [.c (.ptr 0 0), .c (.int .i64 p), .c (.int .i64 c)], [some ⟨.port :: gc, 150, false, none⟩] => (match hdOf gc with
   | some (g, o) => some (mkS ((Bool × Int)) (hofT g o p c) fun r => some (.c (.bool r.1), [some ⟨.port :: (g.cells ++ [.int .u64 r.2]), 150, false, none⟩]))
   | _ => none)
 | _, _ => none
theorem s_m_hofT (hl : SoundL I ka5) : SoundF I 259 m_hofT := by
 refine sq hl 1 Tryz.func259 fun args H t ht => ?_
 unfold m_hofT at ht
 split at ht
 ·rename_i p c gc
  split at ht
  ·rename_i g o hg
   obtain rfl := hdOf_eq hg
   cases ht
   refine Eq.trans ?_ (hofT_bind g o p c _).symm
   kernel_rfl
  ·cases ht
 ·cases ht
def m_cachedT : Sm := fun args H => match args, H with
 | [.c (.ptr 0 0), .c (.int .i64 c)], [some ⟨.port :: gc, 150, false, none⟩] => (match hdOf gc with
   | some (g, o) => some (mkS ((Fnd × Int)) (cachedT g o c) fun r => some (.agg r.1.cells, [some ⟨.port :: (g.cells ++ [.int .u64 r.2]), 150, false, none⟩]))
   | _ => none)
 | _, _ => none
theorem s_m_cachedT (hl : SoundL I ka5) : SoundF I 224 m_cachedT := by
 refine sq hl 1 Tryz.func224 fun args H t ht => ?_
 unfold m_cachedT at ht
 split at ht
 ·rename_i c gc
  split at ht
  ·rename_i g o hg
   obtain rfl := hdOf_eq hg
   cases ht
   refine Eq.trans ?_ (cachedT_bind g o c _).symm
   kernel_rfl
  ·cases ht
 ·cases ht
def m_failsT : Sm := fun args H => match args, H with
 | [.c .port, .c (.int .i64 e), .c (.int .i64 l)], [] => some (mkS (Res) (failsT e l) fun r => some (.agg r.cells, []))
 | _, _ => none
theorem s_m_failsT (hl : SoundL I ka5) : SoundF I 80 m_failsT := by
 refine sq hl 1 Tryz.func80 fun args H t ht => ?_
 unfold m_failsT at ht
 split at ht
 ·rename_i e l
  cases ht
  refine Eq.trans ?_ (failsT_bind e l _).symm
  kernel_rfl
 ·cases ht
def m_bornT : Sm := fun args H => match args, H with
 | [.c .port, .agg gc, .c (.int .i64 k), .c (.int .i64 u), .c (.int .i64 z)], [] => (match geoOf gc with
   | some g => some (mkS (Res) (bornT g k u z) fun r => some (.agg r.cells, []))
   | _ => none)
 | _, _ => none
theorem s_m_bornT (hl : SoundL I ka5) : SoundF I 81 m_bornT := by
 refine sq hl 1 Tryz.func81 fun args H t ht => ?_
 unfold m_bornT at ht
 split at ht
 ·rename_i gc k u z
  split at ht
  ·rename_i g hg
   obtain rfl := geoOf_eq hg
   cases ht
   refine Eq.trans ?_ (bornT_bind g k u z _).symm
   kernel_rfl
  ·cases ht
 ·cases ht
def ka6 : List (Nat × Sm) := (251, (orSm m_cont0T (orSm m_cont1T m_cont2T))) :: (229, m_rallocT) :: (235, m_rfreeT) :: (72, m_rinitT) :: (86, m_movedT) :: (259, m_hofT) :: (224, m_cachedT) :: (80, m_failsT) :: (81, m_bornT) :: ka5
theorem s_ka6 : SoundL I ka6 := (.cons (SoundF.or (s_m_cont0T s_ka5) (SoundF.or (s_m_cont1T s_ka5) (s_m_cont2T s_ka5))) (.cons (s_m_rallocT s_ka5) (.cons (s_m_rfreeT s_ka5) (.cons (s_m_rinitT s_ka5) (.cons (s_m_movedT s_ka5) (.cons (s_m_hofT s_ka5) (.cons (s_m_cachedT s_ka5) (.cons (s_m_failsT s_ka5) (.cons (s_m_bornT s_ka5) s_ka5)))))))))
end Go.Proofs.YtaegelbaghaooaaGreat.Lx
