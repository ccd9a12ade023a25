/- Summaries: alloc, renew, data, call. (trees printed by program, wip/auto.py) -/
import Derived.Test.YtaegelbaghaooaaGreatRpQA15
import Derived.WalkKit
set_option linter.unusedSimpArgs false
set_option linter.unusedVariables false
set_option linter.unusedSectionVars false
namespace Go.Proofs.YtaegelbaghaooaaGreat.Lx
open Go
set_option maxRecDepth 1000000

def mallocTK {β : Type} (g : Geo) (s : Int) (κ : Res → T β) : T β :=
 (alignedT g 1 s).bind fun r0 =>
 κ ⟨(r0.at_), (r0.n), (r0.byte), (r0.c1), (r0.c2), (r0.c3), (r0.c4), (r0.c5), (r0.e), (r0.lin), (r0.touch)⟩
def mallocT (g : Geo) (s : Int) : T Res := mallocTK g s .ret
theorem mallocT_bind {β : Type} (g : Geo) (s : Int) (κ : Res → T β) : (mallocT g s).bind κ = mallocTK g s κ := by
 unfold mallocT mallocTK
 first | rfl | (simp only [bind_cond, bind_ret_, bind_op, bind_fail, T.bind_assoc])
def reallocT_0B {β : Type} (a0 : Int) (g2 g14 : Geo) (κ0 : Int → Int → Int → Int → Int → Int → Int → Int → Int → Int → Int → T β) (κ1 : Int → Int → Int → Int → Int → Int → Int → Int → Int → Int → Int → Int → T β) (i : Int × Int × Int × Int × Int × Int × Int × Int × Int × Int × Int × Int × Int × Int × Int × Int × Bool) (k : Int × Int × Int × Int × Int × Int × Int × Int × Int × Int × Int × Int × Int × Int × Int × Int × Bool → T β) : T β :=
 (lookT g2 i.2.2.2.2.2.2.2.2.2.2.2.2.1).bind fun r0 =>
 bif !r0.live then ((dropsT g14 { grain := i.2.2.2.2.2.2.2.2.2.2.2.2.1, size := i.2.2.2.2.2.2.2.2.2.2.2.2.2.1, to := i.2.2.2.2.2.2.2.2.2.2.2.2.2.2.1, usable := i.2.2.2.2.2.2.2.2.2.2.2.2.2.2.2.1, has := i.2.2.2.2.2.2.2.2.2.2.2.2.2.2.2.2 }).bind fun r2 =>
 (rtoldT g14 { grain := r2.2.grain, size := r2.2.size, to := r2.2.to, usable := r2.2.usable, has := r2.2.has }   { at_ := 0, n := 0, byte := 0, c1 := 0, c2 := 0, c3 := 0,     c4 := 0, c5 := 0, e := 13, lin := r0.lin, touch := 0 }).bind fun r3 =>
 κ0 (r3.1.at_) (r3.1.n) (r3.1.byte) (r3.1.c1) (r3.1.c2) (r3.1.c3) (r3.1.c4) (r3.1.c5) (r3.1.e) (r3.1.lin) (r3.1.touch)) else
 (rroomT g14 { grain := i.2.2.2.2.2.2.2.2.2.2.2.2.1, size := i.2.2.2.2.2.2.2.2.2.2.2.2.2.1, to := i.2.2.2.2.2.2.2.2.2.2.2.2.2.2.1, usable := i.2.2.2.2.2.2.2.2.2.2.2.2.2.2.2.1, has := i.2.2.2.2.2.2.2.2.2.2.2.2.2.2.2.2 }).bind fun r2 =>
 bif decide (a0 ≤ r2.1) then ((staysT g14 { grain := r2.2.grain, size := r2.2.size, to := r2.2.to, usable := r2.2.usable, has := r2.2.has }   { kind := r0.kind, size := r0.size, other := r0.other, ver := r0.ver, live := r0.live, lin := r0.lin } r2.1).bind fun r4 =>
 bif r4.fst.2 then (bif r4.fst.1.e == 0 then (bif r4.fst.2 then (κ1 (r0.size) (r4.fst.1.at_) (r4.fst.1.n) (r4.fst.1.byte) (r4.fst.1.c1) (r4.fst.1.c2) (r4.fst.1.c3) (r4.fst.1.c4) (r4.fst.1.c5) (r4.fst.1.e) (r4.fst.1.lin) (r4.fst.1.touch)) else
 k (r0.size, r4.fst.1.at_, r4.fst.1.n, r4.fst.1.byte, r4.fst.1.c1, r4.fst.1.c2, r4.fst.1.c3, r4.fst.1.c4, r4.fst.1.c5, r4.fst.1.e, r4.fst.1.lin, r4.fst.1.touch, r4.2.grain, r4.2.size, r4.2.to, r4.2.usable, r4.2.has)) else
 bif r4.fst.2 then (κ1 (i.1) (r4.fst.1.at_) (r4.fst.1.n) (r4.fst.1.byte) (r4.fst.1.c1) (r4.fst.1.c2) (r4.fst.1.c3) (r4.fst.1.c4) (r4.fst.1.c5) (r4.fst.1.e) (r4.fst.1.lin) (r4.fst.1.touch)) else
 k (i.1, r4.fst.1.at_, r4.fst.1.n, r4.fst.1.byte, r4.fst.1.c1, r4.fst.1.c2, r4.fst.1.c3, r4.fst.1.c4, r4.fst.1.c5, r4.fst.1.e, r4.fst.1.lin, r4.fst.1.touch, r4.2.grain, r4.2.size, r4.2.to, r4.2.usable, r4.2.has)) else
 bif r4.fst.2 then (κ1 (i.1) (r4.fst.1.at_) (r4.fst.1.n) (r4.fst.1.byte) (r4.fst.1.c1) (r4.fst.1.c2) (r4.fst.1.c3) (r4.fst.1.c4) (r4.fst.1.c5) (r4.fst.1.e) (r4.fst.1.lin) (r4.fst.1.touch)) else
 k (i.1, r4.fst.1.at_, r4.fst.1.n, r4.fst.1.byte, r4.fst.1.c1, r4.fst.1.c2, r4.fst.1.c3, r4.fst.1.c4, r4.fst.1.c5, r4.fst.1.e, r4.fst.1.lin, r4.fst.1.touch, r4.2.grain, r4.2.size, r4.2.to, r4.2.usable, r4.2.has)) else
 (goesT g14 { grain := r2.2.grain, size := r2.2.size, to := r2.2.to, usable := r2.2.usable, has := r2.2.has }   { kind := r0.kind, size := r0.size, other := r0.other, ver := r0.ver, live := r0.live, lin := r0.lin }).bind fun r4 =>
 bif r4.fst.2 then (bif r4.fst.1.e == 0 then (bif r4.fst.2 then (κ1 (r0.size) (r4.fst.1.at_) (r4.fst.1.n) (r4.fst.1.byte) (r4.fst.1.c1) (r4.fst.1.c2) (r4.fst.1.c3) (r4.fst.1.c4) (r4.fst.1.c5) (r4.fst.1.e) (r4.fst.1.lin) (r4.fst.1.touch)) else
 k (r0.size, r4.fst.1.at_, r4.fst.1.n, r4.fst.1.byte, r4.fst.1.c1, r4.fst.1.c2, r4.fst.1.c3, r4.fst.1.c4, r4.fst.1.c5, r4.fst.1.e, r4.fst.1.lin, r4.fst.1.touch, r4.2.grain, r4.2.size, r4.2.to, r4.2.usable, r4.2.has)) else
 bif r4.fst.2 then (κ1 (i.1) (r4.fst.1.at_) (r4.fst.1.n) (r4.fst.1.byte) (r4.fst.1.c1) (r4.fst.1.c2) (r4.fst.1.c3) (r4.fst.1.c4) (r4.fst.1.c5) (r4.fst.1.e) (r4.fst.1.lin) (r4.fst.1.touch)) else
 k (i.1, r4.fst.1.at_, r4.fst.1.n, r4.fst.1.byte, r4.fst.1.c1, r4.fst.1.c2, r4.fst.1.c3, r4.fst.1.c4, r4.fst.1.c5, r4.fst.1.e, r4.fst.1.lin, r4.fst.1.touch, r4.2.grain, r4.2.size, r4.2.to, r4.2.usable, r4.2.has)) else
 bif r4.fst.2 then (κ1 (i.1) (r4.fst.1.at_) (r4.fst.1.n) (r4.fst.1.byte) (r4.fst.1.c1) (r4.fst.1.c2) (r4.fst.1.c3) (r4.fst.1.c4) (r4.fst.1.c5) (r4.fst.1.e) (r4.fst.1.lin) (r4.fst.1.touch)) else
 k (i.1, r4.fst.1.at_, r4.fst.1.n, r4.fst.1.byte, r4.fst.1.c1, r4.fst.1.c2, r4.fst.1.c3, r4.fst.1.c4, r4.fst.1.c5, r4.fst.1.e, r4.fst.1.lin, r4.fst.1.touch, r4.2.grain, r4.2.size, r4.2.to, r4.2.usable, r4.2.has)
def reallocT_0L {β : Type} (a0 : Int) (g2 g14 : Geo) (a1 a3 a4 a5 a6 a7 a8 a9 a10 a11 a12 a13 a15 a16 a17 a18 : Int) (b19 : Bool) (κ0 : Int → Int → Int → Int → Int → Int → Int → Int → Int → Int → Int → T β) (κ1 : Int → Int → Int → Int → Int → Int → Int → Int → Int → Int → Int → Int → T β) : T β := loopB fuelN (reallocT_0B a0 g2 g14 κ0 κ1) (a1, a3, a4, a5, a6, a7, a8, a9, a10, a11, a12, a13, a15, a16, a17, a18, b19)
theorem reallocT_0L_bind {β γ : Type} (a0 : Int) (g2 g14 : Geo) (a1 a3 a4 a5 a6 a7 a8 a9 a10 a11 a12 a13 a15 a16 a17 a18 : Int) (b19 : Bool) (κ0 : Int → Int → Int → Int → Int → Int → Int → Int → Int → Int → Int → T β) (κ1 : Int → Int → Int → Int → Int → Int → Int → Int → Int → Int → Int → Int → T β) (κ : β → T γ) : (reallocT_0L a0 g2 g14 a1 a3 a4 a5 a6 a7 a8 a9 a10 a11 a12 a13 a15 a16 a17 a18 b19 κ0 κ1).bind κ = reallocT_0L a0 g2 g14 a1 a3 a4 a5 a6 a7 a8 a9 a10 a11 a12 a13 a15 a16 a17 a18 b19 (fun ae1 ae2 ae3 ae4 ae5 ae6 ae7 ae8 ae9 ae10 ae11 => (κ0 ae1 ae2 ae3 ae4 ae5 ae6 ae7 ae8 ae9 ae10 ae11).bind κ) (fun ae0 ae1 ae2 ae3 ae4 ae5 ae6 ae7 ae8 ae9 ae10 ae11 => (κ1 ae0 ae1 ae2 ae3 ae4 ae5 ae6 ae7 ae8 ae9 ae10 ae11).bind κ) := by
 unfold reallocT_0L
 refine loopB_bind κ (fun i k => ?_) _ _
 unfold reallocT_0B
 first | rfl | (simp only [bind_cond, bind_ret_, bind_op, bind_fail, T.bind_assoc])
def reallocT_0_p : Pat := ⟨slotsN 89 0 [(0, .c (.raw (.port))), (3, .c (.int .i64)), (5, .c (.raw (.ptr 0 0))), (8, .c (.raw (.ptr 1 0))), (9, .c (.int .i64)), (10, .c (.raw (.ptr 2 0)))], [some ⟨[.geo], 24, false, none⟩, some ⟨[.int .i64, .int .i64, .int .u8, .int .u64, .int .u64, .int .u64, .int .u64, .int .u64, .int .i64, .int .i64, .int .i64], 38, false, none⟩, some ⟨[.raw (.port), .geo, .int .i64, .int .i64, .int .i64, .int .i64, .bool], 179, false, none⟩]⟩
def reallocT_0_e0 : Pat := ⟨slotsN 89 0 [(8, .c (.raw (.ptr 1 0))), (9, .c (.int .i64))], [none, some ⟨[.int .i64, .int .i64, .int .u8, .int .u64, .int .u64, .int .u64, .int .u64, .int .u64, .int .i64, .int .i64, .int .i64], 38, false, none⟩]⟩
def reallocT_0F : St → (Ex → St → T R) → Option (T R) := fun st K => match matchSt reallocT_0_p st with
 | some [.i a0, .i a1, .g g2, .i a3, .i a4, .i a5, .i a6, .i a7, .i a8, .i a9, .i a10, .i a11, .i a12, .i a13, .g g14, .i a15, .i a16, .i a17, .i a18, .b b19] => some (reallocT_0L a0 g2 g14 a1 a3 a4 a5 a6 a7 a8 a9 a10 a11 a12 a13 a15 a16 a17 a18 b19 (fun ae1 ae2 ae3 ae4 ae5 ae6 ae7 ae8 ae9 ae10 ae11 => K (.ret) (instSt reallocT_0_e0 [.i 0, .i ae1, .i ae2, .i ae3, .i ae4, .i ae5, .i ae6, .i ae7, .i ae8, .i ae9, .i ae10, .i ae11])) (fun ae0 ae1 ae2 ae3 ae4 ae5 ae6 ae7 ae8 ae9 ae10 ae11 => K (.ret) (instSt reallocT_0_e0 [.i ae0, .i ae1, .i ae2, .i ae3, .i ae4, .i ae5, .i ae6, .i ae7, .i ae8, .i ae9, .i ae10, .i ae11])))
 | _ => none
theorem reallocT_0Ok : ∀ st K t, reallocT_0F st K = some t → loopN fuelN (loopF2 Tryz.prog (lookK ka15) fuelN 0 .no (loopC [1, 1, 1, 1, 0] Tryz.f44) (loopV [1, 1, 1, 1, 0] Tryz.f44) K) st = t := by
 intro st K t h
 unfold reallocT_0F at h
 split at h
 ·rename_i a0 a1 g2 a3 a4 a5 a6 a7 a8 a9 a10 a11 a12 a13 g14 a15 a16 a17 a18 b19 hm
  cases h
  rw [matchSt_eq hm]
  exact cast (by kernel_rfl) (loop_eq (F := loopF2 Tryz.prog (lookK ka15) fuelN 0 .no (loopC [1, 1, 1, 1, 0] Tryz.f44) (loopV [1, 1, 1, 1, 0] Tryz.f44) K) (S := fun i => instSt reallocT_0_p [.i a0, .i (i.1), .g g2, .i (i.2.1), .i (i.2.2.1), .i (i.2.2.2.1), .i (i.2.2.2.2.1), .i (i.2.2.2.2.2.1), .i (i.2.2.2.2.2.2.1), .i (i.2.2.2.2.2.2.2.1), .i (i.2.2.2.2.2.2.2.2.1), .i (i.2.2.2.2.2.2.2.2.2.1), .i (i.2.2.2.2.2.2.2.2.2.2.1), .i (i.2.2.2.2.2.2.2.2.2.2.2.1), .g g14, .i (i.2.2.2.2.2.2.2.2.2.2.2.2.1), .i (i.2.2.2.2.2.2.2.2.2.2.2.2.2.1), .i (i.2.2.2.2.2.2.2.2.2.2.2.2.2.2.1), .i (i.2.2.2.2.2.2.2.2.2.2.2.2.2.2.2.1), .b (i.2.2.2.2.2.2.2.2.2.2.2.2.2.2.2.2)]) (B := reallocT_0B a0 g2 g14 (fun ae1 ae2 ae3 ae4 ae5 ae6 ae7 ae8 ae9 ae10 ae11 => K (.ret) (instSt reallocT_0_e0 [.i 0, .i ae1, .i ae2, .i ae3, .i ae4, .i ae5, .i ae6, .i ae7, .i ae8, .i ae9, .i ae10, .i ae11])) (fun ae0 ae1 ae2 ae3 ae4 ae5 ae6 ae7 ae8 ae9 ae10 ae11 => K (.ret) (instSt reallocT_0_e0 [.i ae0, .i ae1, .i ae2, .i ae3, .i ae4, .i ae5, .i ae6, .i ae7, .i ae8, .i ae9, .i ae10, .i ae11]))) (fun i k => by kernel_rfl) fuelN (a1, a3, a4, a5, a6, a7, a8, a9, a10, a11, a12, a13, a15, a16, a17, a18, b19))
 ·cases h
def reallocTK {β : Type} (g : Geo) (a s : Int) (κ : (Res × Int) → T β) : T β :=
 bif g.pages == 0 then (κ (⟨(0), (0), (0), (0), (0), (0), (0), (0), (15), (0), (0)⟩, (0))) else
 (wrong2T g a s).bind fun r1 =>
 bif r1 != 0 then (.op (.steps ) fun x3 =>
 (rtoldT g (Rn.mk (IntKind.i64.wrap (Int.tdiv a 8)) s 0 0 false) (Res.mk 0 0 0 0 0 0 0 0 r1 x3 0)).bind fun r4 =>
 κ (⟨(r4.1.at_), (r4.1.n), (r4.1.byte), (r4.1.c1), (r4.1.c2), (r4.1.c3), (r4.1.c4), (r4.1.c5), (r4.1.e), (r4.1.lin), (r4.1.touch)⟩, (0))) else
 reallocT_0L (s) (g) (g) (0) (0) (0) (0) (0) (0) (0) (0) (0) (0) (0) (0) (IntKind.i64.wrap (Int.tdiv a 8)) (s) (0) (0) (false) (fun y3_0 y3_1 y3_2 y3_3 y3_4 y3_5 y3_6 y3_7 y3_8 y3_9 y3_10 =>
 κ (⟨(y3_0), (y3_1), (y3_2), (y3_3), (y3_4), (y3_5), (y3_6), (y3_7), (y3_8), (y3_9), (y3_10)⟩, (0))) (fun y3_0 y3_1 y3_2 y3_3 y3_4 y3_5 y3_6 y3_7 y3_8 y3_9 y3_10 y3_11 =>
 κ (⟨(y3_1), (y3_2), (y3_3), (y3_4), (y3_5), (y3_6), (y3_7), (y3_8), (y3_9), (y3_10), (y3_11)⟩, (y3_0)))
def reallocT (g : Geo) (a s : Int) : T (Res × Int) := reallocTK g a s .ret
theorem reallocT_bind {β : Type} (g : Geo) (a s : Int) (κ : (Res × Int) → T β) : (reallocT g a s).bind κ = reallocTK g a s κ := by
 unfold reallocT reallocTK
 first | rfl | (simp only [bind_cond, bind_ret_, bind_op, bind_fail, T.bind_assoc, reallocT_0L_bind])
def m_mallocT : Sm := fun args H => match args, H with
 | [.c .port, .agg gc, .c (.int .i64 s)], [] => (match geoOf gc with
   | some g => some (mkS (Res) (mallocT g s) fun r => some (.agg r.cells, []))
   | _ => none)
 | _, _ => none
variable {σ : Type} {I : Port Tryz.prog σ}
theorem s_m_mallocT (hl : SoundL I ka15) : SoundF I 26 m_mallocT := by
 refine sq hl 1 Tryz.func26 fun args H t ht => ?_
 unfold m_mallocT at ht
 split at ht
 ·rename_i gc s
  split at ht
  ·rename_i g hg
   obtain rfl := geoOf_eq hg
   cases ht
   refine Eq.trans ?_ (mallocT_bind g s _).symm
   kernel_rfl
  ·cases ht
 ·cases ht
def m_reallocT : Sm := fun args H => match args, H with
 | [.c .port, .agg gc, .c (.int .i64 a), .c (.int .i64 s)], [] => (match geoOf gc with
   | some g => some (mkS ((Res × Int)) (reallocT g a s) fun r => some (.tup [.agg r.1.cells, .c (.int .i64 r.2)], []))
   | _ => none)
 | _, _ => none
theorem reallocT_good : Good Tryz.prog (lookK ka15) fuelN 0 (lsAt reallocT_0F .no [1, 1, 1, 1, 0]) (Tryz.f44.body.getD .skip) (resMask Tryz.f44.results.toList) := good_fn (body_eq (by kernel_rfl)) good_no reallocT_0Ok
theorem s_m_reallocT (hl : SoundL I ka15) : SoundF I 44 m_reallocT := by
 refine sq hl fuelN Tryz.func44 fun args H t ht => ?_
 unfold m_reallocT at ht
 split at ht
 ·rename_i gc a s
  split at ht
  ·rename_i g hg
   obtain rfl := geoOf_eq hg
   cases ht
   refine (evF2_eq (P := Tryz.prog) (n := fuelN) (x := (lsAt reallocT_0F .no [1, 1, 1, 1, 0])) (fn := Tryz.f44) (H := []) (c := Tryz.f44.body.getD .skip) (body_eq (by kernel_rfl)) reallocT_good).symm.trans ?_
   refine Eq.trans ?_ (reallocT_bind g a s _).symm
   kernel_rfl
  ·cases ht
 ·cases ht
noncomputable def ka16 : List (Nat × Sm) := (26, m_mallocT) :: (44, m_reallocT) :: ka15
theorem s_ka16 : SoundL I ka16 := (.cons (s_m_mallocT s_ka15) (.cons (s_m_reallocT s_ka15) s_ka15))
end Go.Proofs.YtaegelbaghaooaaGreat.Lx
