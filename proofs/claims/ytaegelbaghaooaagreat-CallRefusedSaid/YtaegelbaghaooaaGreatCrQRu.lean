/- Part. -/
import Derived.Test.YtaegelbaghaooaaGreatCrQKg
set_option linter.all false
open Go.IntKind (i64 u64 u32 u8)
namespace Go.Proofs.YtaegelbaghaooaaGreat.Lx
variable {β : Type} (g : Geo)
open Go
noncomputable section
set_option maxRecDepth 1000000
def xr7 (a0 a1 a2 : Int) (b3 : Bool) (a4 : Int) (n5 n7 : Nat) (q8 : RowsL) (g9 : Geo) (n10 n11 n12 n13 : Nat) (l14 l15 : IntsL) (q16 : RowsL) (κ0 : Unit -> T β) (κ1 : Unit -> T β) (i : Int) (k : Int -> T β) : T β :=
 bif decide (i < ↑n5) then (bif decide ((0 : Int) <= i /\ i < ↑n5) then (bif inR (List.length q16) i then (bif getI (getR q16 (Int.toNat i)) 21 == 0 then (bif decide ((0 : Int) <= i /\ i < ↑n5) then (bif inR (List.length q16) i then (bif getI (getR q16 (Int.toNat i)) 13 == a0 then (bif decide ((0 : Int) <= i /\ i < ↑n5) then (bif inR (List.length q16) i then (bif decide (getI (getR q16 (Int.toNat i)) 1 <= 4) then (κ0 ()) else
 k (i64.wrap (i + 1))) else
 .fail) else
 .fail) else
 k (i64.wrap (i + 1))) else
 .fail) else
 .fail) else
 k (i64.wrap (i + 1))) else
 .fail) else
 .fail) else
 κ1 ()
def Xc (a0 a1 a2 : Int) (b3 : Bool) (a4 : Int) (n5 n7 : Nat) (q8 : RowsL) (g9 : Geo) (n10 n11 n12 n13 : Nat) (l14 l15 : IntsL) (q16 : RowsL) (a6 : Int) (κ0 : Unit -> T β) (κ1 : Unit -> T β) : T β := xq xa (xr7 a0 a1 a2 b3 a4 n5 n7 q8 g9 n10 n11 n12 n13 l14 l15 q16 κ0 κ1) a6
theorem xoO {β γ : Type} (a0 a1 a2 : Int) (b3 : Bool) (a4 : Int) (n5 n7 : Nat) (q8 : RowsL) (g9 : Geo) (n10 n11 n12 n13 : Nat) (l14 l15 : IntsL) (q16 : RowsL) (a6 : Int) (κ0 : Unit -> T β) (κ1 : Unit -> T β) (κ : β -> T γ) : (Xc a0 a1 a2 b3 a4 n5 n7 q8 g9 n10 n11 n12 n13 l14 l15 q16 a6 κ0 κ1).bind κ = Xc a0 a1 a2 b3 a4 n5 n7 q8 g9 n10 n11 n12 n13 l14 l15 q16 a6 (fun u => (κ0 u).bind κ) (fun u => (κ1 u).bind κ) := by
 unfold Xc
 refine xj κ (fun i k => ?_) _ _
 unfold xr7
 simp only [bz]
def xs7 : Pat := ⟨xm 139 0 [(2, .c (.int .i64)), (3, .c (.int .i64)), (4, .c (.int .u8)), (10, .c (.bool)), (11, .c (.int .i64)), (12, .c (.raw (.ptr 1 0))), (13, .c (.raw (.ptr 2 0))), (14, .c (.slr 5)), (16, .c (.int .i64))], [some ⟨[], 116, false, some (.wrows [.int .u8, .int .u8, .int .u8, .int .i64, .int .i64, .int .i64, .int .i64, .int .i64, .int .u8])⟩, some ⟨[.geo], 24, false, none⟩, some ⟨[.sl 3 0, .sl 4 0], 188, false, none⟩, some ⟨[], 34, false, some (.col .u64)⟩, some ⟨[], 5, false, some (.col .u8)⟩, some ⟨[], 108, true, some (.rows ek)⟩]⟩
def xoP : Pat := ⟨xm 139 0 [(2, .c (.int .i64)), (3, .c (.int .i64)), (4, .c (.int .u8)), (10, .c (.bool)), (11, .c (.int .i64)), (12, .c (.raw (.ptr 1 0))), (13, .c (.raw (.ptr 2 0)))], [some ⟨[], 116, false, some (.wrows [.int .u8, .int .u8, .int .u8, .int .i64, .int .i64, .int .i64, .int .i64, .int .i64, .int .u8])⟩, some ⟨[.geo], 24, false, none⟩, some ⟨[.sl 3 0, .sl 4 0], 188, false, none⟩, some ⟨[], 34, false, some (.col .u64)⟩, some ⟨[], 5, false, some (.col .u8)⟩]⟩
def xld : LF := fun st K => match xt xs7 st with
 | some [.i a0, .i a1, .i a2, .b b3, .i a4, .n n5, .i a6, .n n7, .r q8, .g g9, .n n10, .n n11, .n n12, .n n13, .l l14, .l l15, .r q16] => some (Xc a0 a1 a2 b3 a4 n5 n7 q8 g9 n10 n11 n12 n13 l14 l15 q16 a6 (fun _ => K (.ret) (xd xoP [.i a0, .i a1, .i a2, .b true, .i a4, .n n7, .r q8, .g g9, .n n10, .n n11, .n n12, .n n13, .l l14, .l l15])) (fun _ => K (.exit 0) (xd xoP [.i a0, .i a1, .i a2, .b b3, .i a4, .n n7, .r q8, .g g9, .n n10, .n n11, .n n12, .n n13, .l l14, .l l15])))
 | _ => none
theorem ruT_0Ok : ∀ st K t, xld st K = some t -> xB xa (lf kx0 (⟨xa, [], true⟩ : Fu) 1 .no [1, 1, 1, 1, 1, 1, 0, 1, 0] Tryz.f17 K) st = t := by
 intro st K t h
 unfold xld at h
 split at h
 ·rename_i a0 a1 a2 b3 a4 n5 a6 n7 q8 g9 n10 n11 n12 n13 l14 l15 q16 hm
  cases h
  rw [xk hm]
  unfold Xc
  exact xu (S := fun (i : Int) => xd xs7 [.i a0, .i a1, .i a2, .b b3, .i a4, .n n5, .i i, .n n7, .r q8, .g g9, .n n10, .n n11, .n n12, .n n13, .l l14, .l l15, .r q16]) (fun i k => by kernel_rfl) xa a6
 ·cases h
def xr8 (b0 : Bool) (a1 : Int) (n3 : Nat) (q4 : RowsL) (g5 : Geo) (n6 n7 n8 n9 : Nat) (l10 l11 : IntsL) (a12 a13 a14 a15 a16 : Int) (n17 n18 : Nat) (l19 l20 : IntsL) (κ0 : Unit -> T β) (κ1 : Unit -> T β) (i : Int) (k : Int -> T β) : T β :=
 bif decide (i < i64.wrap (64 * a1)) then ((xN (decide (n7 = n6 /\ n9 = n8 /\ List.length l10 = n6 /\ List.length l11 = n8 /\ n6 <= 1000000 /\ n8 <= 1000000) && decide (0 <= Option.getD (atI l11 i) 0 /\ Option.getD (atI l11 i) 0 <= 255))).bind fun r1 =>
 (xN (decide (List.length l19 = n17 /\ List.length l20 = n18 /\ 0 < n17 /\ 0 < n18 /\ n17 <= 1000000 /\ n18 <= 1000000) && decide (0 <= Option.getD (atI l20 i) 0 /\ Option.getD (atI l20 i) 0 <= 255))).bind fun r2 =>
 bif oz (atI l11 i) != oz (atI l20 i) then (κ0 ()) else
 k (i64.wrap (i + 1))) else
 κ1 ()
def Xd (b0 : Bool) (a1 : Int) (n3 : Nat) (q4 : RowsL) (g5 : Geo) (n6 n7 n8 n9 : Nat) (l10 l11 : IntsL) (a12 a13 a14 a15 a16 : Int) (n17 n18 : Nat) (l19 l20 : IntsL) (a2 : Int) (κ0 : Unit -> T β) (κ1 : Unit -> T β) : T β := xq xa (xr8 b0 a1 n3 q4 g5 n6 n7 n8 n9 l10 l11 a12 a13 a14 a15 a16 n17 n18 l19 l20 κ0 κ1) a2
theorem xoQ {β γ : Type} (b0 : Bool) (a1 : Int) (n3 : Nat) (q4 : RowsL) (g5 : Geo) (n6 n7 n8 n9 : Nat) (l10 l11 : IntsL) (a12 a13 a14 a15 a16 : Int) (n17 n18 : Nat) (l19 l20 : IntsL) (a2 : Int) (κ0 : Unit -> T β) (κ1 : Unit -> T β) (κ : β -> T γ) : (Xd b0 a1 n3 q4 g5 n6 n7 n8 n9 l10 l11 a12 a13 a14 a15 a16 n17 n18 l19 l20 a2 κ0 κ1).bind κ = Xd b0 a1 n3 q4 g5 n6 n7 n8 n9 l10 l11 a12 a13 a14 a15 a16 n17 n18 l19 l20 a2 (fun u => (κ0 u).bind κ) (fun u => (κ1 u).bind κ) := by
 unfold Xd
 refine xj κ (fun i k => ?_) _ _
 unfold xr8
 simp only [bz]
def xs8 : Pat := ⟨xm 139 0 [(10, .c (.bool)), (11, .c (.int .i64)), (12, .c (.raw (.ptr 1 0))), (13, .c (.raw (.ptr 2 0))), (17, .c (.raw (.ptr 5 0))), (18, .c (.raw (.ptr 6 0))), (22, .c (.int .i64))], [some ⟨[], 116, false, some (.wrows [.int .u8, .int .u8, .int .u8, .int .i64, .int .i64, .int .i64, .int .i64, .int .i64, .int .u8])⟩, some ⟨[.geo], 24, false, none⟩, some ⟨[.sl 3 0, .sl 4 0], 188, false, none⟩, some ⟨[], 34, false, some (.col .u64)⟩, some ⟨[], 5, false, some (.col .u8)⟩, some ⟨[.int .u64, .int .u64, .int .u64, .int .u64, .int .u64], 36, false, none⟩, some ⟨[.slr 7, .slr 8], 188, false, none⟩, some ⟨[], 34, true, some (.col .u64)⟩, some ⟨[], 5, true, some (.col .u8)⟩]⟩
def xoR : Pat := ⟨xm 139 0 [(10, .c (.bool)), (12, .c (.raw (.ptr 1 0))), (13, .c (.raw (.ptr 2 0))), (17, .c (.raw (.ptr 5 0)))], [some ⟨[], 116, false, some (.wrows [.int .u8, .int .u8, .int .u8, .int .i64, .int .i64, .int .i64, .int .i64, .int .i64, .int .u8])⟩, some ⟨[.geo], 24, false, none⟩, some ⟨[.sl 3 0, .sl 4 0], 188, false, none⟩, some ⟨[], 34, false, some (.col .u64)⟩, some ⟨[], 5, false, some (.col .u8)⟩, some ⟨[.int .u64, .int .u64, .int .u64, .int .u64, .int .u64], 36, false, none⟩]⟩
def xle : LF := fun st K => match xt xs8 st with
 | some [.b b0, .i a1, .i a2, .n n3, .r q4, .g g5, .n n6, .n n7, .n n8, .n n9, .l l10, .l l11, .i a12, .i a13, .i a14, .i a15, .i a16, .n n17, .n n18, .l l19, .l l20] => some (Xd b0 a1 n3 q4 g5 n6 n7 n8 n9 l10 l11 a12 a13 a14 a15 a16 n17 n18 l19 l20 a2 (fun _ => K (.ret) (xd xoR [.b false, .n n3, .r q4, .g g5, .n n6, .n n7, .n n8, .n n9, .l l10, .l l11, .i a12, .i a13, .i a14, .i a15, .i a16])) (fun _ => K (.exit 4) (xd xoR [.b b0, .n n3, .r q4, .g g5, .n n6, .n n7, .n n8, .n n9, .l l10, .l l11, .i a12, .i a13, .i a14, .i a15, .i a16])))
 | _ => none
theorem ruT_1Ok : ∀ st K t, xle st K = some t -> xB xa (lf kx0 (⟨xa, [], true⟩ : Fu) 1 .no [1, 1, 1, 1, 1, 1, 1, 1, 1, 1, 0, 1, 0] Tryz.f17 K) st = t := by
 intro st K t h
 unfold xle at h
 split at h
 ·rename_i b0 a1 a2 n3 q4 g5 n6 n7 n8 n9 l10 l11 a12 a13 a14 a15 a16 n17 n18 l19 l20 hm
  cases h
  rw [xk hm]
  unfold Xd
  exact xu (S := fun (i : Int) => xd xs8 [.b b0, .i a1, .i i, .n n3, .r q4, .g g5, .n n6, .n n7, .n n8, .n n9, .l l10, .l l11, .i a12, .i a13, .i a14, .i a15, .i a16, .n n17, .n n18, .l l19, .l l20]) (fun i k => by kernel_rfl) xa a2
 ·cases h
def ruTK (pages : Int) (o : Nat) (z : ZS) (n c q : Nat) (L : RowsL) (at_ off by_ : Int) (κ : Bool -> T β) : T β :=
 bif decide (↑n > (20 : Int)) then (κ (true)) else
 (newT (i64.wrap (i64.wrap (Int.tmod pages 8) + 1)) 2).bind fun r1 =>
 (xN (decide (0 <= r1.1.b19 /\ r1.1.b19 <= 1000000 /\ 0 <= i64.wrap (64 * r1.1.pages) /\ i64.wrap (64 * r1.1.pages) <= 1000000))).bind fun r2 =>
 (vN (okS (Int.toNat r1.1.b19) (Int.toNat r1.1.b19) (Int.toNat (i64.wrap (64 * r1.1.pages))) (Int.toNat (i64.wrap (64 * r1.1.pages))) (List.replicate (Int.toNat r1.1.b19) 0) (List.replicate (Int.toNat (i64.wrap (64 * r1.1.pages))) 0)) (Zo r1.1) (DS.mk (Mem.mk (List.replicate (Int.toNat r1.1.b19) 0) (List.replicate (Int.toNat (i64.wrap (64 * r1.1.pages))) 0)) 0 0 none)).bind fun r3 =>
 (vN (okM r3.snd.m) (Zq r1.1) (DS.mk r3.snd.m r3.snd.self r3.snd.steps none)).bind fun r4 =>
 (serT r1.1 (List.length r4.snd.m.1) (List.length r4.snd.m.1) (List.length r4.snd.m.2) (List.length r4.snd.m.2) r4.snd.m.1 r4.snd.m.2 o z n c q L).bind fun r5 =>
 Xc (at_) (off) (by_) (false) (i64.wrap (i64.wrap (Int.tmod pages 8) + 1)) (r5.n) (q) (L) (r1.1) (r5.x) (r5.x2) (r5.y) (r5.y2) (r5.8) (r5.9) (r5.2) (0) (fun y6_0 =>
 κ (true)) (fun y6_0 =>
 (vR (okS r5.x2 r5.x r5.y2 r5.y r5.W r5.B) (doT r1.1 (Cal.mk 11 0 0 0 0 0 0)) (DS.mk (Mem.mk r5.W r5.B) 0 0 none)).bind fun r7 =>
 (xN (decide (List.length r7.snd.snd.m.words = List.length r7.snd.snd.m.words /\ List.length r7.snd.snd.m.words = List.length r7.snd.snd.m.words /\ 0 < List.length r7.snd.snd.m.words /\ List.length r7.snd.snd.m.words <= 1000000))).bind fun r8 =>
 (xN (decide (List.length r7.snd.snd.m.bytes = List.length r7.snd.snd.m.bytes /\ List.length r7.snd.snd.m.bytes = List.length r7.snd.snd.m.bytes /\ 0 < List.length r7.snd.snd.m.bytes /\ List.length r7.snd.snd.m.bytes <= 1000000))).bind fun r9 =>
 (vR (okM r7.snd.snd.m) (doT r1.1 (Cal.mk 5 8 0 0 at_ off by_)) (DS.mk r7.snd.snd.m 1 0 none)).bind fun r10 =>
 bif r10.fst.e != 13 then (κ (false)) else
 bif r10.fst.at_ != 0 then (κ (false)) else
 bif r10.fst.n != 0 then (κ (false)) else
 bif r10.fst.byte != 0 then (κ (false)) else
 (vR (okM r10.snd.snd.m) (doT r1.1 (Cal.mk 6 8 0 0 at_ off by_)) (DS.mk r10.snd.snd.m 1 0 none)).bind fun r15 =>
 bif r15.fst.e != 13 then (κ (false)) else
 bif r15.fst.at_ != 0 then (κ (false)) else
 bif r15.fst.n != 0 then (κ (false)) else
 bif r15.fst.byte != 0 then (κ (false)) else
 (vR (okM r15.snd.snd.m) (doT r1.1 (Cal.mk 7 8 0 0 at_ off by_)) (DS.mk r15.snd.snd.m 1 0 none)).bind fun r20 =>
 bif r20.fst.e != 13 then (κ (false)) else
 bif r20.fst.at_ != 0 then (κ (false)) else
 bif r20.fst.n != 0 then (κ (false)) else
 bif r20.fst.byte != 0 then (κ (false)) else
 (vR (okM r20.snd.snd.m) (doT r1.1 (Cal.mk 8 8 0 0 at_ off by_)) (DS.mk r20.snd.snd.m 1 0 none)).bind fun r25 =>
 bif r25.fst.e != 13 then (κ (false)) else
 bif r25.fst.at_ != 0 then (κ (false)) else
 bif r25.fst.n != 0 then (κ (false)) else
 bif r25.fst.byte != 0 then (κ (false)) else
 (vR (okM r25.snd.snd.m) (doT r1.1 (Cal.mk 4 8 0 0 at_ off by_)) (DS.mk r25.snd.snd.m 1 0 none)).bind fun r30 =>
 bif r30.fst.e != 13 then (κ (false)) else
 bif r30.fst.at_ != 0 then (κ (false)) else
 bif r30.fst.n != 0 then (κ (false)) else
 bif r30.fst.byte != 0 then (κ (false)) else
 Xd (false) (i64.wrap (i64.wrap (Int.tmod pages 8) + 1)) (q) (L) (r1.1) (List.length r30.snd.snd.m.1) (List.length r30.snd.snd.m.1) (List.length r30.snd.snd.m.2) (List.length r30.snd.snd.m.2) (r30.snd.snd.m.1) (r30.snd.snd.m.2) (r7.fst.c1) (r7.fst.c2) (r7.fst.c3) (r7.fst.c4) (r7.fst.c5) (List.length r7.snd.snd.m.1) (List.length r7.snd.snd.m.2) (r7.snd.snd.m.1) (r7.snd.snd.m.2) (0) (fun y35_0 =>
 κ (false)) (fun y35_0 =>
 (vR (okM r30.snd.snd.m) (doT r1.1 (Cal.mk 11 0 0 0 0 0 0)) (DS.mk r30.snd.snd.m 0 0 none)).bind fun r36 =>
 bif r36.fst.c1 == r7.fst.c1 && (r36.fst.c2 == r7.fst.c2 && (r36.fst.c3 == r7.fst.c3 && (r36.fst.c4 == r7.fst.c4 && (r36.fst.c5 == r7.fst.c5 && true)))) then (κ (true)) else
 κ (false)))
def ruT (pages : Int) (o : Nat) (z : ZS) (n c q : Nat) (L : RowsL) (at_ off by_ : Int) : T Bool := ruTK pages o z n c q L at_ off by_ .ret
theorem xxh (pages : Int) (o : Nat) (z : ZS) (n c q : Nat) (L : RowsL) (at_ off by_ : Int) (κ : Bool -> T β) : (ruT pages o z n c q L at_ off by_).bind κ = ruTK pages o z n c q L at_ off by_ κ := by
 unfold ruT ruTK
 simp only [bz, xoO, xoQ]
def m_ruT : Sm := fun
 | [.c (.int .u8 pages), .c (.slw 0 o z n c), .c (.int .i64 at_), .c (.int .i64 off), .c (.int .u8 by_)], [some ⟨[], 116, false, some (.wrows q [.int .u8, .int .u8, .int .u8, .int .i64, .int .i64, .int .i64, .int .i64, .int .i64, .int .u8] L)⟩] => some (mkS (Bool) (ruT pages o z n c q L at_ off by_) fun r => some (.c (.bool r), [some ⟨[], 116, false, some (.wrows q [.int .u8, .int .u8, .int .u8, .int .i64, .int .i64, .int .i64, .int .i64, .int .i64, .int .u8] L)⟩]))
 | _, _ => none
theorem xxi : Good Tryz.prog (xo kx0) (⟨xa, [], true⟩ : Fu) 1 (mrg (lsAt xld .no [1, 1, 1, 1, 1, 1, 0, 1, 0]) (lsAt xle .no [1, 1, 1, 1, 1, 1, 1, 1, 1, 1, 0, 1, 0])) (Tryz.f17.body.getD .skip) (xr Tryz.f17.results.toList) := (yP (xA (xh (by kernel_rfl)) xz ruT_0Ok) (xA (xh (by kernel_rfl)) xz ruT_1Ok))
variable {σ : Type} {I : Port Tryz.prog σ}
theorem s_m_ruT (hl : SoundL I kx0) : SoundF I 17 m_ruT := by
 refine ZR hl (⟨xa, [], true⟩ : Fu) Tryz.func17 (by kernel_rfl) (by kernel_rfl) fun _ _ t ht => ?_
 unfold m_ruT at ht
 split at ht
 ·rename_i pages o z n c at_ off by_ q L
  cases ht
  refine (xD (P := Tryz.prog) (n := (⟨xa, [], true⟩ : Fu)) (x := (mrg (lsAt xld .no [1, 1, 1, 1, 1, 1, 0, 1, 0]) (lsAt xle .no [1, 1, 1, 1, 1, 1, 1, 1, 1, 1, 0, 1, 0]))) (fn := Tryz.f17) (H := [some ⟨[], 116, false, some (.wrows q [.int .u8, .int .u8, .int .u8, .int .i64, .int .i64, .int .i64, .int .i64, .int .i64, .int .u8] L)⟩]) (c := Tryz.f17.body.getD .skip) (xh (by kernel_rfl)) xxi).symm.trans ?_
  exact ey (xxh pages o z n c q L at_ off by_ _)
 ·cases ht
end
end Go.Proofs.YtaegelbaghaooaaGreat.Lx
