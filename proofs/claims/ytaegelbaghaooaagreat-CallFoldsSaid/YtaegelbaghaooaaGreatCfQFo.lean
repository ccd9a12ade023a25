/- Part. -/
import Derived.Test.YtaegelbaghaooaaGreatCfQSo
set_option linter.all false
open Go.IntKind (i64 u64 u32 u8)
namespace Go.Proofs.YtaegelbaghaooaaGreat.Lx
open Go
noncomputable section
set_option maxRecDepth 1000000
def xlc {β : Type} (n0 : Nat) (z1 : xcg) (n2 n3 : Nat) (b4 : Bool) (n7 : Nat) (q8 : RowsL) (g9 : Geo) (κ0 : Unit -> T β) (κ1 : Unit -> T β) (i : Nat × Int × Nat × Nat × Nat × Nat × IntsL × IntsL × Int × Int × Int × Int × Int × RowsL) (k : Nat × Int × Nat × Nat × Nat × Nat × IntsL × IntsL × Int × Int × Int × Int × Int × RowsL -> T β) : T β :=
 bif decide (i.2.1 < ↑n2) then (bif decide ((0 : Int) <= i.2.1 /\ i.2.1 < ↑n2) then (bif Nat.beq n7 n0 && inR (List.length q8) i.2.1 then ((xgc i.1 i.2.2.2.2.2.2.2.2.2.2.2.2.2 (getI (getR q8 (Int.toNat i.2.1)) 0) (getI (getR q8 (Int.toNat i.2.1)) 1) (getI (getR q8 (Int.toNat i.2.1)) 2) (getI (getR q8 (Int.toNat i.2.1)) 3) (getI (getR q8 (Int.toNat i.2.1)) 4) (getI (getR q8 (Int.toNat i.2.1)) 5) (getI (getR q8 (Int.toNat i.2.1)) 6) (getI (getR q8 (Int.toNat i.2.1)) 7) (getI (getR q8 (Int.toNat i.2.1)) 8)).bind fun r3 =>
 bif r3.op == 4 then (k (i.1, i64.wrap (i.2.1 + 1), i.2.2.1, i.2.2.2.1, i.2.2.2.2.1, i.2.2.2.2.2.1, i.2.2.2.2.2.2.1, i.2.2.2.2.2.2.2.1, i.2.2.2.2.2.2.2.2.1, i.2.2.2.2.2.2.2.2.2.1, i.2.2.2.2.2.2.2.2.2.2.1, i.2.2.2.2.2.2.2.2.2.2.2.1, i.2.2.2.2.2.2.2.2.2.2.2.2.1, i.2.2.2.2.2.2.2.2.2.2.2.2.2)) else
 (seoT g9 i.2.2.1 i.2.2.2.1 i.2.2.2.2.1 i.2.2.2.2.2.1 i.2.2.2.2.2.2.1 i.2.2.2.2.2.2.2.1 (getI (getR q8 (Int.toNat i.2.1)) 0) 0 r3.op r3.size r3.n r3.align r3.at_ r3.off r3.byte).bind fun r5 =>
 bif !r5.ok then (κ0 ()) else
 bif ↑r5.n != (1 : Int) then (κ0 ()) else
 bif decide ((0 : Int) <= (0 : Int) /\ (0 : Int) < ↑r5.n) then (bif inR (List.length r5.2) 0 then (bif Nat.beq (List.length i.2.2.2.2.2.2.2.2.2.2.2.2.2) i.1 && Nat.ble i.1 1000 then (bif decide ((0 : Int) <= (0 : Int) /\ (0 : Int) < ↑r5.n) then (bif inR (List.length r5.2) 0 then ((qq (Cts.mk i.2.2.2.2.2.2.2.2.1 i.2.2.2.2.2.2.2.2.2.1 i.2.2.2.2.2.2.2.2.2.2.1 i.2.2.2.2.2.2.2.2.2.2.2.1 i.2.2.2.2.2.2.2.2.2.2.2.2.1) (getI (getR r5.2 0) 0) (getI (getR r5.2 0) 1) (getI (getR r5.2 0) 2) (getI (getR r5.2 0) 3) (getI (getR r5.2 0) 4) (getI (getR r5.2 0) 5) (getI (getR r5.2 0) 6) (getI (getR r5.2 0) 7) (getI (getR r5.2 0) 8) (getI (getR r5.2 0) 9) (getI (getR r5.2 0) 10) (getI (getR r5.2 0) 11) (getI (getR r5.2 0) 12 != 0) (getI (getR r5.2 0) 13) (getI (getR r5.2 0) 14) (getI (getR r5.2 0) 15) (getI (getR r5.2 0) 16) (getI (getR r5.2 0) 17) (getI (getR r5.2 0) 18) (getI (getR r5.2 0) 19) (getI (getR r5.2 0) 20) (getI (getR r5.2 0) 21) (getI (getR r5.2 0) 22) (getI (getR r5.2 0) 23)).bind fun r13 =>
 (vR (okS r5.x2 r5.x r5.y2 r5.y r5.W r5.B) (doT g9 (Cal.mk 11 0 0 0 0 0 0)) (DS.mk (Mem.mk r5.W r5.B) 0 0 none)).bind fun r14 =>
 bif !(r14.fst.c1 == r13.allocs && (r14.fst.c2 == r13.frees && (r14.fst.c3 == r13.failures && (r14.fst.c4 == r13.live && (r14.fst.c5 == r13.bytes && true))))) then (κ0 ()) else
 k (i.1 + 1, i64.wrap (i.2.1 + 1), List.length r14.snd.snd.m.1, List.length r14.snd.snd.m.1, List.length r14.snd.snd.m.2, List.length r14.snd.snd.m.2, r14.snd.snd.m.1, r14.snd.snd.m.2, r13.allocs, r13.frees, r13.failures, r13.live, r13.bytes, i.2.2.2.2.2.2.2.2.2.2.2.2.2 ++ [[getI (getR r5.2 0) 0, getI (getR r5.2 0) 1, getI (getR r5.2 0) 2, getI (getR r5.2 0) 3, getI (getR r5.2 0) 4, getI (getR r5.2 0) 5, getI (getR r5.2 0) 6, getI (getR r5.2 0) 7, getI (getR r5.2 0) 8, getI (getR r5.2 0) 9, getI (getR r5.2 0) 10, getI (getR r5.2 0) 11, bif getI (getR r5.2 0) 12 != 0 then (1 : Int) else (0 : Int), getI (getR r5.2 0) 13, getI (getR r5.2 0) 14, getI (getR r5.2 0) 15, getI (getR r5.2 0) 16, getI (getR r5.2 0) 17, getI (getR r5.2 0) 18, getI (getR r5.2 0) 19, getI (getR r5.2 0) 20, getI (getR r5.2 0) 21, getI (getR r5.2 0) 22, getI (getR r5.2 0) 23]])) else
 .fail) else
 .fail) else
 .fail) else
 .fail) else
 .fail) else
 .fail) else
 .fail) else
 κ1 ()
def Vq {β : Type} (n0 : Nat) (z1 : xcg) (n2 n3 : Nat) (b4 : Bool) (n7 : Nat) (q8 : RowsL) (g9 : Geo) (n5 : Nat) (a6 : Int) (n10 n11 n12 n13 : Nat) (l14 l15 : IntsL) (a16 a17 a18 a19 a20 : Int) (q21 : RowsL) (κ0 : Unit -> T β) (κ1 : Unit -> T β) : T β := xr xa (xlc n0 z1 n2 n3 b4 n7 q8 g9 κ0 κ1) (n5, a6, n10, n11, n12, n13, l14, l15, a16, a17, a18, a19, a20, q21)
theorem xos {β γ : Type} (n0 : Nat) (z1 : xcg) (n2 n3 : Nat) (b4 : Bool) (n7 : Nat) (q8 : RowsL) (g9 : Geo) (n5 : Nat) (a6 : Int) (n10 n11 n12 n13 : Nat) (l14 l15 : IntsL) (a16 a17 a18 a19 a20 : Int) (q21 : RowsL) (κ0 : Unit -> T β) (κ1 : Unit -> T β) (κ : β -> T γ) : (Vq n0 z1 n2 n3 b4 n7 q8 g9 n5 a6 n10 n11 n12 n13 l14 l15 a16 a17 a18 a19 a20 q21 κ0 κ1).bind κ = Vq n0 z1 n2 n3 b4 n7 q8 g9 n5 a6 n10 n11 n12 n13 l14 l15 a16 a17 a18 a19 a20 q21 (fun u => (κ0 u).bind κ) (fun u => (κ1 u).bind κ) := by
 unfold Vq
 refine xj κ (fun i k => ?_) _ _
 unfold xlc
 first | rfl | simp only [bz]
def xsw : Pat := ⟨xm 86 0 [(2, .c (.slw 0)), (6, .c (.bool)), (8, .c (.raw (.ptr 1 0))), (9, .c (.raw (.ptr 2 0))), (10, .c (.raw (.ptr 5 0))), (11, .c (.slr 6)), (12, .c (.int .i64))], [some ⟨[], 116, false, some (.wrows [.int .u8, .int .u8, .int .u8, .int .i64, .int .i64, .int .i64, .int .i64, .int .i64, .int .u8])⟩, some ⟨[.geo], 24, false, none⟩, some ⟨[.sl 3 0, .sl 4 0], 188, false, none⟩, some ⟨[], 34, false, some (.col .u64)⟩, some ⟨[], 5, false, some (.col .u8)⟩, some ⟨[.int .u64, .int .u64, .int .u64, .int .u64, .int .u64], 36, false, none⟩, some ⟨[], 108, true, some (.rows [.int .i64, .int .u8, .int .i64, .int .i64, .int .i64, .int .i64, .int .i64, .int .u8, .int .i64, .int .i64, .int .i64, .int .i64, .bool, .int .i64, .int .i64, .int .u8, .int .u64, .int .u64, .int .u64, .int .u64, .int .u64, .int .i64, .int .i64, .int .i64])⟩]⟩
def xaA : Pat := ⟨xm 86 0 [(6, .c (.bool))], [some ⟨[], 116, false, some (.wrows [.int .u8, .int .u8, .int .u8, .int .i64, .int .i64, .int .i64, .int .i64, .int .i64, .int .u8])⟩]⟩
def xld : LF := fun st K => match xt xsw st with
 | some [.n n0, .z z1, .n n2, .n n3, .b b4, .n n5, .i a6, .n n7, .r q8, .g g9, .n n10, .n n11, .n n12, .n n13, .l l14, .l l15, .i a16, .i a17, .i a18, .i a19, .i a20, .r q21] => some (Vq n0 z1 n2 n3 b4 n7 q8 g9 n5 a6 n10 n11 n12 n13 l14 l15 a16 a17 a18 a19 a20 q21 (fun _ => K (.ret) (xc xaA [.b false, .n n7, .r q8])) (fun _ => K (.exit 0) (xc xaA [.b b4, .n n7, .r q8])))
 | _ => none
theorem foT_0Ok : ∀ st K t, xld st K = some t -> xz xa (lf ke10 (⟨xa, [⟨11, 108, .rows [.int .i64, .int .u8, .int .i64, .int .i64, .int .i64, .int .i64, .int .i64, .int .u8, .int .i64, .int .i64, .int .i64, .int .i64, .bool, .int .i64, .int .i64, .int .u8, .int .u64, .int .u64, .int .u64, .int .u64, .int .u64, .int .i64, .int .i64, .int .i64]⟩], true⟩ : Fu) 1 .no [1, 1, 1, 1, 1, 1, 1, 0, 1, 0] Tryz.f16 K) st = t := by
 intro st K t h
 unfold xld at h
 split at h
 ·rename_i n0 z1 n2 n3 b4 n5 a6 n7 q8 g9 n10 n11 n12 n13 l14 l15 a16 a17 a18 a19 a20 q21 hm
  cases h
  rw [xk hm]
  exact cast (by kernel_rfl) (xv (F := lf ke10 (⟨xa, [⟨11, 108, .rows [.int .i64, .int .u8, .int .i64, .int .i64, .int .i64, .int .i64, .int .i64, .int .u8, .int .i64, .int .i64, .int .i64, .int .i64, .bool, .int .i64, .int .i64, .int .u8, .int .u64, .int .u64, .int .u64, .int .u64, .int .u64, .int .i64, .int .i64, .int .i64]⟩], true⟩ : Fu) 1 .no [1, 1, 1, 1, 1, 1, 1, 0, 1, 0] Tryz.f16 K) (S := fun i => xc xsw [.n n0, .z z1, .n n2, .n n3, .b b4, .n (i.1), .i (i.2.1), .n n7, .r q8, .g g9, .n (i.2.2.1), .n (i.2.2.2.1), .n (i.2.2.2.2.1), .n (i.2.2.2.2.2.1), .l (i.2.2.2.2.2.2.1), .l (i.2.2.2.2.2.2.2.1), .i (i.2.2.2.2.2.2.2.2.1), .i (i.2.2.2.2.2.2.2.2.2.1), .i (i.2.2.2.2.2.2.2.2.2.2.1), .i (i.2.2.2.2.2.2.2.2.2.2.2.1), .i (i.2.2.2.2.2.2.2.2.2.2.2.2.1), .r (i.2.2.2.2.2.2.2.2.2.2.2.2.2)]) (B := xlc n0 z1 n2 n3 b4 n7 q8 g9 (fun _ => K (.ret) (xc xaA [.b false, .n n7, .r q8])) (fun _ => K (.exit 0) (xc xaA [.b b4, .n n7, .r q8]))) (fun i k => by kernel_rfl) xa (n5, a6, n10, n11, n12, n13, l14, l15, a16, a17, a18, a19, a20, q21))
 ·cases h
def foTK {β : Type} (pages threads : Int) (o : Nat) (z : xcg) (n c q : Nat) (L : RowsL) (κ : Bool -> T β) : T β :=
 bif decide (↑n > (30 : Int)) then (κ (true)) else
 (newT (i64.wrap (i64.wrap (Int.tmod pages 10) + 1)) (i64.wrap (i64.wrap (Int.tmod threads 4) + 1))).bind fun r1 =>
 (yu (decide (0 <= r1.1.b19 /\ r1.1.b19 <= 1000000 /\ 0 <= i64.wrap (64 * r1.1.pages) /\ i64.wrap (64 * r1.1.pages) <= 1000000))).bind fun r2 =>
 (vN (okS (Int.toNat r1.1.b19) (Int.toNat r1.1.b19) (Int.toNat (i64.wrap (64 * r1.1.pages))) (Int.toNat (i64.wrap (64 * r1.1.pages))) (List.replicate (Int.toNat r1.1.b19) 0) (List.replicate (Int.toNat (i64.wrap (64 * r1.1.pages))) 0)) (Xp r1.1) (DS.mk (Mem.mk (List.replicate (Int.toNat r1.1.b19) 0) (List.replicate (Int.toNat (i64.wrap (64 * r1.1.pages))) 0)) 0 0 none)).bind fun r3 =>
 (vN (okS (List.length r3.snd.m.words) (List.length r3.snd.m.words) (List.length r3.snd.m.bytes) (List.length r3.snd.m.bytes) r3.snd.m.words r3.snd.m.bytes) (Xs r1.1) (DS.mk (Mem.mk r3.snd.m.words r3.snd.m.bytes) r3.snd.self r3.snd.steps none)).bind fun r4 =>
 Vq (o) (z) (n) (c) (false) (q) (L) (r1.1) (0) (0) (List.length r4.snd.m.1) (List.length r4.snd.m.1) (List.length r4.snd.m.2) (List.length r4.snd.m.2) (r4.snd.m.1) (r4.snd.m.2) (0) (0) (0) (0) (0) ([]) (fun y5_0 =>
 κ (false)) (fun y5_0 =>
 κ (true))
def foT (pages threads : Int) (o : Nat) (z : xcg) (n c q : Nat) (L : RowsL) : T Bool := foTK pages threads o z n c q L .ret
theorem xwx {β : Type} (pages threads : Int) (o : Nat) (z : xcg) (n c q : Nat) (L : RowsL) (κ : Bool -> T β) : (foT pages threads o z n c q L).bind κ = foTK pages threads o z n c q L κ := by
 unfold foT foTK
 first | rfl | simp only [bz, xos]
def m_foT : Sm := fun
 | [.c (.int .u8 pages), .c (.int .u8 threads), .c (.slw 0 o z n c)], [some ⟨[], 116, false, some (.wrows q [.int .u8, .int .u8, .int .u8, .int .i64, .int .i64, .int .i64, .int .i64, .int .i64, .int .u8] L)⟩] => some (mkS (Bool) (foT pages threads o z n c q L) fun r => some (.c (.bool r), [some ⟨[], 116, false, some (.wrows q [.int .u8, .int .u8, .int .u8, .int .i64, .int .i64, .int .i64, .int .i64, .int .i64, .int .u8] L)⟩]))
 | _, _ => none
theorem xwy : Good Tryz.prog (xo ke10) (⟨xa, [⟨11, 108, .rows [.int .i64, .int .u8, .int .i64, .int .i64, .int .i64, .int .i64, .int .i64, .int .u8, .int .i64, .int .i64, .int .i64, .int .i64, .bool, .int .i64, .int .i64, .int .u8, .int .u64, .int .u64, .int .u64, .int .u64, .int .u64, .int .i64, .int .i64, .int .i64]⟩], true⟩ : Fu) 1 (lsAt xld .no [1, 1, 1, 1, 1, 1, 1, 0, 1, 0]) (Tryz.f16.body.getD .skip) (xq Tryz.f16.results.toList) := (xB (xi (by kernel_rfl)) xA foT_0Ok)
variable {σ : Type} {I : Port Tryz.prog σ}
theorem s_m_foT (hl : SoundL I ke10) : SoundF I 16 m_foT := by
 refine ZY hl (⟨xa, [⟨11, 108, .rows [.int .i64, .int .u8, .int .i64, .int .i64, .int .i64, .int .i64, .int .i64, .int .u8, .int .i64, .int .i64, .int .i64, .int .i64, .bool, .int .i64, .int .i64, .int .u8, .int .u64, .int .u64, .int .u64, .int .u64, .int .u64, .int .i64, .int .i64, .int .i64]⟩], true⟩ : Fu) Tryz.func16 (by kernel_rfl) (by kernel_rfl) fun args H t ht => ?_
 unfold m_foT at ht
 split at ht
 ·rename_i pages threads o z n c q L
  cases ht
  refine (xE (P := Tryz.prog) (n := (⟨xa, [⟨11, 108, .rows [.int .i64, .int .u8, .int .i64, .int .i64, .int .i64, .int .i64, .int .i64, .int .u8, .int .i64, .int .i64, .int .i64, .int .i64, .bool, .int .i64, .int .i64, .int .u8, .int .u64, .int .u64, .int .u64, .int .u64, .int .u64, .int .i64, .int .i64, .int .i64]⟩], true⟩ : Fu)) (x := (lsAt xld .no [1, 1, 1, 1, 1, 1, 1, 0, 1, 0])) (fn := Tryz.f16) (H := [some ⟨[], 116, false, some (.wrows q [.int .u8, .int .u8, .int .u8, .int .i64, .int .i64, .int .i64, .int .i64, .int .i64, .int .u8] L)⟩]) (c := Tryz.f16.body.getD .skip) (xi (by kernel_rfl)) xwy).symm.trans ?_
  refine Eq.trans ?_ (xwx pages threads o z n c q L _).symm
  kernel_rfl
 ·cases ht
end
end Go.Proofs.YtaegelbaghaooaaGreat.Lx
