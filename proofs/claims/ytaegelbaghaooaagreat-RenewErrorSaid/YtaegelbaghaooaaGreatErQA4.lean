/- Summaries: loops. (trees printed by program, wip/auto.py) -/
import Derived.Test.YtaegelbaghaooaaGreatErM3
import Derived.Test.YtaegelbaghaooaaGreatErQOf
import Derived.WalkKit
set_option linter.all false
open Go.IntKind (i64 u64 u32 u8)
namespace Go.Proofs.YtaegelbaghaooaaGreat.Lx
open Go
set_option maxRecDepth 1000000
def jc {β : Type} (a0 a1 : Int) (b2 : Bool) (g4 : Geo) (κ0 : Int -> T β) (κ1 : Unit -> T β) (i : Int) (k : Int -> T β) : T β :=
 bif decide (i < 8) then (.op (.load (atF g4 18 (inF (i64.wrap (a0 - 1)) i 8))) fun x1 =>
 bif x1 != 0 then (.op (.cas (atF g4 18 (inF (i64.wrap (a0 - 1)) i 8)) x1 (0)) fun b3 =>
 bif b3 then (κ0 x1) else
 k (i64.wrap (i + 1))) else
 k (i64.wrap (i + 1))) else
 κ1 ()
def vD {β : Type} (a0 a1 : Int) (b2 : Bool) (g4 : Geo) (a3 : Int) (κ0 : Int -> T β) (κ1 : Unit -> T β) : T β := xz xd (jc a0 a1 b2 g4 κ0 κ1) a3
theorem xaA {β γ : Type} (a0 a1 : Int) (b2 : Bool) (g4 : Geo) (a3 : Int) (κ0 : Int -> T β) (κ1 : Unit -> T β) (κ : β -> T γ) : (vD a0 a1 b2 g4 a3 κ0 κ1).bind κ = vD a0 a1 b2 g4 a3 (fun ae0 => (κ0 ae0).bind κ) (fun u => (κ1 u).bind κ) := by
 unfold vD
 refine xn κ (fun i k => ?_) _ _
 unfold jc
 first | rfl | (simp only [xa, xb, xe, xc, T.bind_assoc])
def VV : Pat := ⟨xu 38 0 [(0, .c (.raw (.port))), (2, .c (.int .i64)), (4, .c (.raw (.ptr 0 0))), (6, .c (.int .u64)), (7, .c (.bool)), (10, .c (.int .i64))], [some ⟨[.geo], 24, false, none⟩]⟩
def wm : Pat := ⟨xu 38 0 [(6, .c (.int .u64)), (7, .c (.bool))], []⟩
def jd : St -> (Ex -> St -> T R) -> Option (T R) := fun st K => match xx VV st with
 | some [.i a0, .i a1, .b b2, .i a3, .g g4] => some (vD a0 a1 b2 g4 a3 (fun ae0 => K (.ret) (xf wm [.i ae0, .b true])) (fun _ => K (.exit 0) (xf wm [.i a1, .b b2])))
 | _ => none
theorem xiq : ∀ st K t, jd st K = some t -> xF xd (lf ka3b xd 0 .no [1, 0, 1, 0] Tryz.f286 K) st = t := by
 intro st K t h
 unfold jd at h
 split at h
 ·rename_i a0 a1 b2 a3 g4 hm
  cases h
  rw [xp hm]
  exact xy (S := fun i => xf VV [.i a0, .i a1, .b b2, .i i, .g g4]) (B := jc a0 a1 b2 g4 (fun ae0 => K (.ret) (xf wm [.i ae0, .b true])) (fun _ => K (.exit 0) (xf wm [.i a1, .b b2]))) (fun i k => by kernel_rfl) xd a3
 ·cases h
def XO {β : Type} (g : Geo) (nd : Int) (κ : (Int × Bool) -> T β) : T β :=
 vD (nd) (0) (false) (g) (0) (fun y0_0 =>
 κ (y0_0, (true))) (fun y0_0 =>
 κ ((0), (false)))
def kJ (g : Geo) (nd : Int) : T (Int × Bool) := XO g nd .ret
theorem xfe {β : Type} (g : Geo) (nd : Int) (κ : (Int × Bool) -> T β) : (kJ g nd).bind κ = XO g nd κ := by
 unfold kJ XO
 first | rfl | (simp only [xa, xb, xe, xc, T.bind_assoc, xaA])
def VW {β : Type} (g : Geo) (n : Int) (l : Bool) (κ : Unit -> T β) : T β :=
 bif l then ((logT n).bind fun r1 =>
 .op (.add (atF g 3 r1) (18446744073709551615)) fun x2 =>
 κ ()) else
 (logT n).bind fun r1 =>
 .op (.add (atF g 3 r1) (1)) fun x2 =>
 κ ()
def vS (g : Geo) (n : Int) (l : Bool) : T Unit := VW g n l .ret
theorem xir {β : Type} (g : Geo) (n : Int) (l : Bool) (κ : Unit -> T β) : (vS g n l).bind κ = VW g n l κ := by
 unfold vS VW
 first | rfl | (simp only [xa, xb, xe, xc, T.bind_assoc])
def xb6 {β : Type} (b0 : Bool) (g2 : Geo) (κ0 : Unit -> T β) (κ1 : Unit -> T β) (i : Int) (k : Int -> T β) : T β :=
 bif decide (i < 9) then (.op (.load (atF g2 3 i)) fun x1 =>
 bif x1 != 0 then (κ0 ()) else
 k (i64.wrap (i + 1))) else
 κ1 ()
def XP {β : Type} (b0 : Bool) (g2 : Geo) (a1 : Int) (κ0 : Unit -> T β) (κ1 : Unit -> T β) : T β := xz xd (xb6 b0 g2 κ0 κ1) a1
theorem xis {β γ : Type} (b0 : Bool) (g2 : Geo) (a1 : Int) (κ0 : Unit -> T β) (κ1 : Unit -> T β) (κ : β -> T γ) : (XP b0 g2 a1 κ0 κ1).bind κ = XP b0 g2 a1 (fun u => (κ0 u).bind κ) (fun u => (κ1 u).bind κ) := by
 unfold XP
 refine xn κ (fun i k => ?_) _ _
 unfold xb6
 first | rfl | (simp only [xa, xb, xe, xc, T.bind_assoc])
def xlr : Pat := ⟨xu 22 0 [(2, .c (.raw (.ptr 0 0))), (4, .c (.bool)), (5, .c (.int .i64))], [some ⟨[.raw (.port), .geo], 212, false, none⟩]⟩
def XQ : Pat := ⟨xu 22 0 [(4, .c (.bool))], []⟩
def xb7 : St -> (Ex -> St -> T R) -> Option (T R) := fun st K => match xx xlr st with
 | some [.b b0, .i a1, .g g2] => some (XP b0 g2 a1 (fun _ => K (.ret) (xf XQ [.b true])) (fun _ => K (.exit 0) (xf XQ [.b b0])))
 | _ => none
theorem xtg : ∀ st K t, xb7 st K = some t -> xF xd (lf ka3b xd 0 .no [1, 0, 1, 0] Tryz.f281 K) st = t := by
 intro st K t h
 unfold xb7 at h
 split at h
 ·rename_i b0 a1 g2 hm
  cases h
  rw [xp hm]
  exact xy (S := fun i => xf xlr [.b b0, .i i, .g g2]) (B := xb6 b0 g2 (fun _ => K (.ret) (xf XQ [.b true])) (fun _ => K (.exit 0) (xf XQ [.b b0]))) (fun i k => by kernel_rfl) xd a1
 ·cases h
def xpG {β : Type} (g : Geo) (k : Int) (κ : Bool -> T β) : T β :=
 (logT k).bind fun r0 =>
 XP (false) (g) r0 (fun y1_0 =>
 κ (true)) (fun y1_0 =>
 κ (false))
def anyT (g : Geo) (k : Int) : T Bool := xpG g k .ret
theorem xrw {β : Type} (g : Geo) (k : Int) (κ : Bool -> T β) : (anyT g k).bind κ = xpG g k κ := by
 unfold anyT xpG
 first | rfl | (simp only [xa, xb, xe, xc, T.bind_assoc, xis])
def xec {β : Type} (c o : Int) (κ : (Int × Bool) -> T β) : T β :=
 bif decide (c < 0) then (κ ((0), (false))) else
 bif decide (c >= 4) then (κ ((0), (false))) else
 bif decide (o < 0) then (κ ((0), (false))) else
 bif decide (0 <= c /\ c < 4) then (bif bif (bif c == 0 then (8 : Int) else bif c == 1 then (16 : Int) else bif c == 2 then (24 : Int) else (32 : Int)) == 0 then false else true then (bif bif (bif c == 0 then (8 : Int) else bif c == 1 then (16 : Int) else bif c == 2 then (24 : Int) else (32 : Int)) == 0 then false else true then (bif Int.tmod o (bif c == 0 then (8 : Int) else bif c == 1 then (16 : Int) else bif c == 2 then (24 : Int) else (32 : Int)) == 0 then (bif decide (i64.wrap (Int.tdiv o (bif c == 0 then (8 : Int) else bif c == 1 then (16 : Int) else bif c == 2 then (24 : Int) else (32 : Int))) < bif c == 0 then (8 : Int) else bif c == 1 then (4 : Int) else bif c == 2 then (2 : Int) else (2 : Int)) then (κ ((i64.wrap (Int.tdiv o (bif c == 0 then (8 : Int) else bif c == 1 then (16 : Int) else bif c == 2 then (24 : Int) else (32 : Int)))), (true))) else
 κ ((0), (false))) else
 κ ((0), (false))) else
 .fail) else
 .fail) else
 .fail
def XR (c o : Int) : T (Int × Bool) := xec c o .ret
theorem xit {β : Type} (c o : Int) (κ : (Int × Bool) -> T β) : (XR c o).bind κ = xec c o κ := by
 unfold XR xec
 first | rfl | (simp only [xa, xb, xe, xc, T.bind_assoc])
def xoj {β : Type} (g : Geo) (p k : Int) (κ : Int -> T β) : T β :=
 (isT g p k).bind fun r0 =>
 bif !r0 then (κ (-1)) else
 bif decide (0 <= k /\ k < 4) then (.op (.self ) fun x3 =>
 .op (.store (atF g 7 p) (Pg.word (Pg.mk 3 1 k x3))) fun _ =>
 (Yz g p).bind fun r5 =>
 (xb4 (Cls.mk (bif k == 0 then (8 : Int) else bif k == 0 + 1 then (16 : Int) else bif k == 0 + 1 + 1 then (24 : Int) else (32 : Int)) (bif k == 0 then (8 : Int) else bif k == 0 + 1 then (16 : Int) else bif k == 0 + 1 + 1 then (8 : Int) else (32 : Int)) (bif k == 0 then (8 : Int) else bif k == 0 + 1 then (4 : Int) else bif k == 0 + 1 + 1 then (2 : Int) else (2 : Int)))).bind fun r6 =>
 .op (.store (atF g 8 p) (Bt.word (Bt.mk (bits BinOp.andNot u8 r6 1) true k (u32.wrap (r5.ver + 1))))) fun _ =>
 κ (i64.wrap (i64.wrap (p * 8) + i64.wrap (Int.tdiv (i64.wrap (0 * bif k == 0 then (8 : Int) else bif k == 1 then (16 : Int) else bif k == 2 then (24 : Int) else (32 : Int))) 8)))) else
 .fail
def xgE (g : Geo) (p k : Int) : T Int := xoj g p k .ret
theorem xok {β : Type} (g : Geo) (p k : Int) (κ : Int -> T β) : (xgE g p k).bind κ = xoj g p k κ := by
 unfold xgE xoj
 first | rfl | (simp only [xa, xb, xe, xc, T.bind_assoc])
def XS {β : Type} (a0 a1 : Int) (b2 : Bool) (g3 : Geo) (a4 : Int) (κ0 : Unit -> T β) (κ1 : Int -> T β) (i : Unit) (k : Unit -> T β) : T β :=
 (isT g3 a4 a0).bind fun r0 =>
 bif r0 then ((Yz g3 a4).bind fun r2 =>
 (firstT { map := r2.map, has := r2.has, cls := r2.cls, ver := r2.ver }).bind fun r3 =>
 bif !r2.has then (κ0 ()) else
 bif r2.cls != a0 then (κ0 ()) else
 bif decide (r3 < 0) then (κ0 ()) else
 bif bif decide (r3 < 0) then false else true then ((ZU g3 a4 { map := r2.map, has := r2.has, cls := r2.cls, ver := r2.ver }   {     map :=       bits BinOp.andNot u8 r2.map         (u8.wrap           (1 * 2 ^ if Int.toNat r3 <= nat_lit 8 then Int.toNat r3 else nat_lit 8)),     has := r2.has, cls := r2.cls, ver := r2.ver }).bind fun r8 =>
 bif r8 then (bif decide (0 <= a0 /\ a0 < 4) then (κ1 (i64.wrap   (i64.wrap (a4 * 8) +     i64.wrap       (Int.tdiv         (i64.wrap           (r3 *             bif a0 == 0 then (8 : Int)             else bif a0 == 1 then (16 : Int) else bif a0 == 2 then (24 : Int) else (32 : Int)))         8)))) else
 .fail) else
 k ()) else
 .fail) else
 κ0 ()
def kj {β : Type} (a0 a1 : Int) (b2 : Bool) (g3 : Geo) (a4 : Int)  (κ0 : Unit -> T β) (κ1 : Int -> T β) : T β := xz xd (XS a0 a1 b2 g3 a4 κ0 κ1) ()
theorem xed {β γ : Type} (a0 a1 : Int) (b2 : Bool) (g3 : Geo) (a4 : Int)  (κ0 : Unit -> T β) (κ1 : Int -> T β) (κ : β -> T γ) : (kj a0 a1 b2 g3 a4  κ0 κ1).bind κ = kj a0 a1 b2 g3 a4  (fun u => (κ0 u).bind κ) (fun ae0 => (κ1 ae0).bind κ) := by
 unfold kj
 refine xn κ (fun i k => ?_) _ _
 unfold XS
 first | rfl | (simp only [xa, xb, xe, xc, T.bind_assoc])
def xee : Pat := ⟨xu 56 0 [(3, .c (.int .i64)), (8, .c (.int .i64)), (9, .c (.bool)), (10, .c (.raw (.ptr 1 0)))], [none, some ⟨[.raw (.port), .geo, .int .i64], 234, false, none⟩]⟩
def je : Pat := ⟨xu 56 0 [(8, .c (.int .i64)), (9, .c (.bool))], []⟩
def XT : St -> (Ex -> St -> T R) -> Option (T R) := fun st K => match xx xee st with
 | some [.i a0, .i a1, .b b2, .g g3, .i a4] => some (kj a0 a1 b2 g3 a4  (fun _ => K (.exit 0) (xf je [.i a1, .b b2])) (fun ae0 => K (.ret) (xf je [.i ae0, .b true])))
 | _ => none
theorem xol : ∀ st K t, XT st K = some t -> xF xd (lf ka3b xd 0 .no [1, 1, 0, 0] Tryz.f261 K) st = t := by
 intro st K t h
 unfold XT at h
 split at h
 ·rename_i a0 a1 b2 g3 a4 hm
  cases h
  rw [xp hm]
  exact xy (S := fun i => xf xee [.i a0, .i a1, .b b2, .g g3, .i a4]) (B := XS a0 a1 b2 g3 a4 (fun _ => K (.exit 0) (xf je [.i a1, .b b2])) (fun ae0 => K (.ret) (xf je [.i ae0, .b true]))) (fun i k => by kernel_rfl) xd ()
 ·cases h
def xb8 {β : Type} (g : Geo) (p k : Int) (κ : (Int × Bool) -> T β) : T β :=
 kj (k) (0) (false) (g) (p) (fun y0_0 =>
 κ ((0), (false))) (fun y0_0 =>
 κ (y0_0, (true)))
def xaB (g : Geo) (p k : Int) : T (Int × Bool) := xb8 g p k .ret
theorem xls {β : Type} (g : Geo) (p k : Int) (κ : (Int × Bool) -> T β) : (xaB g p k).bind κ = xb8 g p k κ := by
 unfold xaB xb8
 first | rfl | (simp only [xa, xb, xe, xc, T.bind_assoc, xed])
def VX {β : Type} (a0 : Int) (b1 b2 : Bool) (g3 : Geo) (a4 : Int) (κ0 : Unit -> T β) (κ1 : Unit -> T β) (i : Unit) (k : Unit -> T β) : T β :=
 bif b2 then (.op (.load (atF g3 9 a4)) fun x1 =>
 .op (.store (atF g3 10 a0) x1) fun _ =>
 .op (.cas (atF g3 9 a4) x1 (u64.wrap (u64.wrap a0 + 1))) fun b3 =>
 bif b3 then (κ0 ()) else
 k ()) else
 κ1 ()
def jX {β : Type} (a0 : Int) (b1 b2 : Bool) (g3 : Geo) (a4 : Int)  (κ0 : Unit -> T β) (κ1 : Unit -> T β) : T β := xz xd (VX a0 b1 b2 g3 a4 κ0 κ1) ()
theorem xff {β γ : Type} (a0 : Int) (b1 b2 : Bool) (g3 : Geo) (a4 : Int)  (κ0 : Unit -> T β) (κ1 : Unit -> T β) (κ : β -> T γ) : (jX a0 b1 b2 g3 a4  κ0 κ1).bind κ = jX a0 b1 b2 g3 a4  (fun u => (κ0 u).bind κ) (fun u => (κ1 u).bind κ) := by
 unfold jX
 refine xn κ (fun i k => ?_) _ _
 unfold VX
 first | rfl | (simp only [xa, xb, xe, xc, T.bind_assoc])
def xgF : Pat := ⟨xu 60 0 [(2, .c (.int .i64)), (6, .c (.bool)), (7, .c (.raw (.ptr 1 0))), (9, .c (.bool))], [none, some ⟨[.raw (.port), .geo, .int .i64], 234, false, none⟩]⟩
def qR : Pat := ⟨xu 60 0 [(6, .c (.bool))], []⟩
def VY : St -> (Ex -> St -> T R) -> Option (T R) := fun st K => match xx xgF st with
 | some [.i a0, .b b1, .b b2, .g g3, .i a4] => some (jX a0 b1 b2 g3 a4  (fun _ => K (.ret) (xf qR [.b true])) (fun _ => K (.exit 0) (xf qR [.b b1])))
 | _ => none
theorem xrx : ∀ st K t, VY st K = some t -> xF xd (lf ka3b xd 0 .no [1, 1, 0, 0] Tryz.f88 K) st = t := by
 intro st K t h
 unfold VY at h
 split at h
 ·rename_i a0 b1 b2 g3 a4 hm
  cases h
  rw [xp hm]
  exact xy (S := fun i => xf xgF [.i a0, .b b1, .b b2, .g g3, .i a4]) (B := VX a0 b1 b2 g3 a4 (fun _ => K (.ret) (xf qR [.b true])) (fun _ => K (.exit 0) (xf qR [.b b1]))) (fun i k => by kernel_rfl) xd ()
 ·cases h
def xiu {β : Type} (g : Geo) (k : Int) (κ : Bool -> T β) : T β :=
 bif decide (k < 0) then (κ (false)) else
 bif decide (k >= i64.wrap (g.pages * 8)) then (κ (false)) else
 jX (k) (false) (true) (g) (i64.wrap (Int.tdiv k 8)) (fun y2_0 =>
 κ (true)) (fun y2_0 =>
 κ (false))
def xgG (g : Geo) (k : Int) : T Bool := xiu g k .ret
theorem xom {β : Type} (g : Geo) (k : Int) (κ : Bool -> T β) : (xgG g k).bind κ = xiu g k κ := by
 unfold xgG xiu
 first | rfl | (simp only [xa, xb, xe, xc, T.bind_assoc, xff])
def xiv {β : Type} (g : Geo) (k : Int) (κ : Pg -> T β) : T β :=
 bif decide (k < 0) then (κ ⟨(0), (0), (0), (0)⟩) else
 bif decide (k >= i64.wrap (g.pages * 8)) then (κ ⟨(0), (0), (0), (0)⟩) else
 .op (.load (atF g 7 (i64.wrap (Int.tdiv k 8)))) fun x2 =>
 κ ⟨(if (IntKind.signed i64 && decide (bits BinOp.and u64 (Int.fdiv x2 1) 7 % 18446744073709551616 >= 9223372036854775808)) = true then bits BinOp.and u64 (Int.fdiv x2 1) 7 % 18446744073709551616 - 18446744073709551616 else bits BinOp.and u64 (Int.fdiv x2 1) 7 % 18446744073709551616), (if (IntKind.signed i64 && decide (bits BinOp.and u64 (Int.fdiv x2 8) 1023 % 18446744073709551616 >= 9223372036854775808)) = true then bits BinOp.and u64 (Int.fdiv x2 8) 1023 % 18446744073709551616 - 18446744073709551616 else bits BinOp.and u64 (Int.fdiv x2 8) 1023 % 18446744073709551616), (if (IntKind.signed i64 && decide (bits BinOp.and u64 (Int.fdiv x2 8192) 3 % 18446744073709551616 >= 9223372036854775808)) = true then bits BinOp.and u64 (Int.fdiv x2 8192) 3 % 18446744073709551616 - 18446744073709551616 else bits BinOp.and u64 (Int.fdiv x2 8192) 3 % 18446744073709551616), (if (IntKind.signed i64 && decide (bits BinOp.and u64 (Int.fdiv x2 65536) 127 % 18446744073709551616 >= 9223372036854775808)) = true then bits BinOp.and u64 (Int.fdiv x2 65536) 127 % 18446744073709551616 - 18446744073709551616 else bits BinOp.and u64 (Int.fdiv x2 65536) 127 % 18446744073709551616)⟩
def wx (g : Geo) (k : Int) : T Pg := xiv g k .ret
theorem xon {β : Type} (g : Geo) (k : Int) (κ : Pg -> T β) : (wx g k).bind κ = xiv g k κ := by
 unfold wx xiv
 first | rfl | (simp only [xa, xb, xe, xc, T.bind_assoc])
def Ws : Sm := fun args H => match args, H with
 | [.c .port, .agg gc, .c (.int .i64 nd)], [] => (match xr gc with
   | some g => some (mkS ((Int × Bool)) (kJ g nd) fun r => some (.tup [.c (.int .u64 r.1), .c (.bool r.2)], []))
   | _ => none)
 | _, _ => none
theorem xfg : Good Tryz.prog (xw ka3b) xd 0 (lsAt jd .no [1, 0, 1, 0]) (Tryz.f286.body.getD .skip) (xC Tryz.f286.results.toList) := xL (xo (by kernel_rfl)) xK xiq
variable {σ : Type} {I : Port Tryz.prog σ}
theorem xiw (hl : SoundL I ka3b) : SoundF I 286 Ws := by
 refine sq hl xd Tryz.func286 fun args H t ht => ?_
 unfold Ws at ht
 split at ht
 ·rename_i gc nd
  split at ht
  ·rename_i g hg
   obtain rfl := xi hg
   cases ht
   refine (xP (P := Tryz.prog) (n := xd) (x := (lsAt jd .no [1, 0, 1, 0])) (fn := Tryz.f286) (H := []) (c := Tryz.f286.body.getD .skip) (xo (by kernel_rfl)) xfg).symm.trans ?_
   refine Eq.trans ?_ (xfe g nd _).symm
   kernel_rfl
  ·cases ht
 ·cases ht
def xaC : Sm := fun args H => match args, H with
 | [.agg (.port :: gc), .c (.int .i64 n), .c (.bool l)], [] => (match xr gc with
   | some g => some (mkS (Unit) (vS g n l) fun r => some (.tup [], []))
   | _ => none)
 | _, _ => none
theorem xlt (hl : SoundL I ka3b) : SoundF I 223 xaC := by
 refine sq hl 1 Tryz.func223 fun args H t ht => ?_
 unfold xaC at ht
 split at ht
 ·rename_i gc n l
  split at ht
  ·rename_i g hg
   obtain rfl := xi hg
   cases ht
   refine Eq.trans ?_ (xir g n l _).symm
   kernel_rfl
  ·cases ht
 ·cases ht
def xoo : Sm := fun args H => match args, H with
 | [.agg (.port :: gc), .c (.int .i64 k)], [] => (match xr gc with
   | some g => some (mkS (Bool) (anyT g k) fun r => some (.c (.bool r), []))
   | _ => none)
 | _, _ => none
theorem xry : Good Tryz.prog (xw ka3b) xd 0 (lsAt xb7 .no [1, 0, 1, 0]) (Tryz.f281.body.getD .skip) (xC Tryz.f281.results.toList) := xL (xo (by kernel_rfl)) xK xtg
theorem xth (hl : SoundL I ka3b) : SoundF I 281 xoo := by
 refine sq hl xd Tryz.func281 fun args H t ht => ?_
 unfold xoo at ht
 split at ht
 ·rename_i gc k
  split at ht
  ·rename_i g hg
   obtain rfl := xi hg
   cases ht
   refine (xP (P := Tryz.prog) (n := xd) (x := (lsAt xb7 .no [1, 0, 1, 0])) (fn := Tryz.f281) (H := []) (c := Tryz.f281.body.getD .skip) (xo (by kernel_rfl)) xry).symm.trans ?_
   refine Eq.trans ?_ (xrw g k _).symm
   kernel_rfl
  ·cases ht
 ·cases ht
def xaD : Sm := fun args H => match args, H with
 | [.c (.int .i64 c), .c (.int .i64 o)], [] => some (mkS ((Int × Bool)) (XR c o) fun r => some (.tup [.c (.int .i64 r.1), .c (.bool r.2)], []))
 | _, _ => none
theorem xlu (hl : SoundL I ka3b) : SoundF I 177 xaD := by
 refine sq hl 1 Tryz.func177 fun args H t ht => ?_
 unfold xaD at ht
 split at ht
 ·rename_i c o
  cases ht
  refine Eq.trans ?_ (xit c o _).symm
  kernel_rfl
 ·cases ht
def xix : Sm := fun args H => match args, H with
 | [.c .port, .agg gc, .c (.int .i64 p), .c (.int .i64 k)], [] => (match xr gc with
   | some g => some (mkS (Int) (xgE g p k) fun r => some (.c (.int .i64 r), []))
   | _ => none)
 | _, _ => none
theorem xrz (hl : SoundL I ka3b) : SoundF I 262 xix := by
 refine sq hl 1 Tryz.func262 fun args H t ht => ?_
 unfold xix at ht
 split at ht
 ·rename_i gc p k
  split at ht
  ·rename_i g hg
   obtain rfl := xi hg
   cases ht
   refine Eq.trans ?_ (xok g p k _).symm
   kernel_rfl
  ·cases ht
 ·cases ht
def xef : Sm := fun args H => match args, H with
 | [.c .port, .agg gc, .c (.int .i64 p), .c (.int .i64 k)], [] => (match xr gc with
   | some g => some (mkS ((Int × Bool)) (xaB g p k) fun r => some (.tup [.c (.int .i64 r.1), .c (.bool r.2)], []))
   | _ => none)
 | _, _ => none
theorem xlv : Good Tryz.prog (xw ka3b) xd 0 (lsAt XT .no [1, 1, 0, 0]) (Tryz.f261.body.getD .skip) (xC Tryz.f261.results.toList) := xL (xo (by kernel_rfl)) xK xol
theorem xop (hl : SoundL I ka3b) : SoundF I 261 xef := by
 refine sq hl xd Tryz.func261 fun args H t ht => ?_
 unfold xef at ht
 split at ht
 ·rename_i gc p k
  split at ht
  ·rename_i g hg
   obtain rfl := xi hg
   cases ht
   refine (xP (P := Tryz.prog) (n := xd) (x := (lsAt XT .no [1, 1, 0, 0])) (fn := Tryz.f261) (H := []) (c := Tryz.f261.body.getD .skip) (xo (by kernel_rfl)) xlv).symm.trans ?_
   refine Eq.trans ?_ (xls g p k _).symm
   kernel_rfl
  ·cases ht
 ·cases ht
def xiy : Sm := fun args H => match args, H with
 | [.c .port, .agg gc, .c (.int .i64 k)], [] => (match xr gc with
   | some g => some (mkS (Bool) (xgG g k) fun r => some (.c (.bool r), []))
   | _ => none)
 | _, _ => none
theorem xoq : Good Tryz.prog (xw ka3b) xd 0 (lsAt VY .no [1, 1, 0, 0]) (Tryz.f88.body.getD .skip) (xC Tryz.f88.results.toList) := xL (xo (by kernel_rfl)) xK xrx
theorem xrA (hl : SoundL I ka3b) : SoundF I 88 xiy := by
 refine sq hl xd Tryz.func88 fun args H t ht => ?_
 unfold xiy at ht
 split at ht
 ·rename_i gc k
  split at ht
  ·rename_i g hg
   obtain rfl := xi hg
   cases ht
   refine (xP (P := Tryz.prog) (n := xd) (x := (lsAt VY .no [1, 1, 0, 0])) (fn := Tryz.f88) (H := []) (c := Tryz.f88.body.getD .skip) (xo (by kernel_rfl)) xoq).symm.trans ?_
   refine Eq.trans ?_ (xom g k _).symm
   kernel_rfl
  ·cases ht
 ·cases ht
def xiz : Sm := fun args H => match args, H with
 | [.c .port, .agg gc, .c (.int .i64 k)], [] => (match xr gc with
   | some g => some (mkS (Pg) (wx g k) fun r => some (.agg r.cells, []))
   | _ => none)
 | _, _ => none
theorem xrB (hl : SoundL I ka3b) : SoundF I 84 xiz := by
 refine sq hl 1 Tryz.func84 fun args H t ht => ?_
 unfold xiz at ht
 split at ht
 ·rename_i gc k
  split at ht
  ·rename_i g hg
   obtain rfl := xi hg
   cases ht
   refine Eq.trans ?_ (xon g k _).symm
   kernel_rfl
  ·cases ht
 ·cases ht
def ka4 : List (Nat × Sm) := (286, Ws) :: (223, xaC) :: (281, xoo) :: (177, xaD) :: (262, xix) :: (261, xef) :: (88, xiy) :: (84, xiz) :: ka3b
theorem YB : SoundL I ka4 := (.cons (xiw Zg) (.cons (xlt Zg) (.cons (xth Zg) (.cons (xlu Zg) (.cons (xrz Zg) (.cons (xop Zg) (.cons (xrA Zg) (.cons (xrB Zg) Zg))))))))
end Go.Proofs.YtaegelbaghaooaaGreat.Lx
