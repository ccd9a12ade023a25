/- Part. -/
import Derived.Test.YtaegelbaghaooaaGreatCfQOf
set_option linter.all false
open Go.IntKind (i64 u64 u32 u8)
namespace Go.Proofs.YtaegelbaghaooaaGreat.Lx
open Go
set_option maxRecDepth 1000000
def jk {β : Type} (a0 a1 : Int) (b2 : Bool) (g4 : Geo) (κ0 : Int -> T β) (κ1 : Unit -> T β) (i : Int) (k : Int -> T β) : T β :=
 bif decide (i < 8) then (.op (.load (atF g4 18 (inF (i64.wrap (a0 - 1)) i 8))) fun x1 =>
 bif x1 != 0 then (.op (.cas (atF g4 18 (inF (i64.wrap (a0 - 1)) i 8)) x1 (0)) fun b3 =>
 bif b3 then (κ0 x1) else
 k (i64.wrap (i + 1))) else
 k (i64.wrap (i + 1))) else
 κ1 ()
def vu {β : Type} (a0 a1 : Int) (b2 : Bool) (g4 : Geo) (a3 : Int) (κ0 : Int -> T β) (κ1 : Unit -> T β) : T β := xr xa (jk a0 a1 b2 g4 κ0 κ1) a3
theorem xby {β γ : Type} (a0 a1 : Int) (b2 : Bool) (g4 : Geo) (a3 : Int) (κ0 : Int -> T β) (κ1 : Unit -> T β) (κ : β -> T γ) : (vu a0 a1 b2 g4 a3 κ0 κ1).bind κ = vu a0 a1 b2 g4 a3 (fun ae0 => (κ0 ae0).bind κ) (fun u => (κ1 u).bind κ) := by
 unfold vu
 refine xj κ (fun i k => ?_) _ _
 unfold jk
 first | rfl | simp only [bz]
def KR : Pat := ⟨xm 38 0 [(0, .c (.raw (.port))), (2, .c (.int .i64)), (4, .c (.raw (.ptr 0 0))), (6, .c (.int .u64)), (7, .c (.bool)), (10, .c (.int .i64))], [some ⟨[.geo], 24, false, none⟩]⟩
def wn : Pat := ⟨xm 38 0 [(6, .c (.int .u64)), (7, .c (.bool))], []⟩
def jl : LF := fun st K => match xt KR st with
 | some [.i a0, .i a1, .b b2, .i a3, .g g4] => some (vu a0 a1 b2 g4 a3 (fun ae0 => K (.ret) (xc wn [.i ae0, .b true])) (fun _ => K (.exit 0) (xc wn [.i a1, .b b2])))
 | _ => none
theorem xki : ∀ st K t, jl st K = some t -> xz xa (lf ka3b xa 0 .no [1, 0, 1, 0] Tryz.f286 K) st = t := by
 intro st K t h
 unfold jl at h
 split at h
 ·rename_i a0 a1 b2 a3 g4 hm
  cases h
  rw [xk hm]
  exact xv (S := fun i => xc KR [.i a0, .i a1, .b b2, .i i, .g g4]) (B := jk a0 a1 b2 g4 (fun ae0 => K (.ret) (xc wn [.i ae0, .b true])) (fun _ => K (.exit 0) (xc wn [.i a1, .b b2]))) (fun i k => by kernel_rfl) xa a3
 ·cases h
def Yu {β : Type} (g : Geo) (nd : Int) (κ : (Int × Bool) -> T β) : T β :=
 vu (nd) (0) (false) (g) (0) (fun y0_0 =>
 κ (y0_0, (true))) (fun y0_0 =>
 κ ((0), (false)))
def kP (g : Geo) (nd : Int) : T (Int × Bool) := Yu g nd .ret
theorem xgD {β : Type} (g : Geo) (nd : Int) (κ : (Int × Bool) -> T β) : (kP g nd).bind κ = Yu g nd κ := by
 unfold kP Yu
 first | rfl | simp only [bz, xby]
def KS {β : Type} (g : Geo) (n : Int) (l : Bool) (κ : Unit -> T β) : T β :=
 bif l then ((logT n).bind fun r1 =>
 .op (.add (atF g 3 r1) (18446744073709551615)) fun x2 =>
 κ ()) else
 (logT n).bind fun r1 =>
 .op (.add (atF g 3 r1) (1)) fun x2 =>
 κ ()
def vK (g : Geo) (n : Int) (l : Bool) : T Unit := KS g n l .ret
theorem xkj {β : Type} (g : Geo) (n : Int) (l : Bool) (κ : Unit -> T β) : (vK g n l).bind κ = KS g n l κ := by
 unfold vK KS
 first | rfl | simp only [bz]
def xdl {β : Type} (b0 : Bool) (g2 : Geo) (κ0 : Unit -> T β) (κ1 : Unit -> T β) (i : Int) (k : Int -> T β) : T β :=
 bif decide (i < 9) then (.op (.load (atF g2 3 i)) fun x1 =>
 bif x1 != 0 then (κ0 ()) else
 k (i64.wrap (i + 1))) else
 κ1 ()
def Yv {β : Type} (b0 : Bool) (g2 : Geo) (a1 : Int) (κ0 : Unit -> T β) (κ1 : Unit -> T β) : T β := xr xa (xdl b0 g2 κ0 κ1) a1
theorem xkk {β γ : Type} (b0 : Bool) (g2 : Geo) (a1 : Int) (κ0 : Unit -> T β) (κ1 : Unit -> T β) (κ : β -> T γ) : (Yv b0 g2 a1 κ0 κ1).bind κ = Yv b0 g2 a1 (fun u => (κ0 u).bind κ) (fun u => (κ1 u).bind κ) := by
 unfold Yv
 refine xj κ (fun i k => ?_) _ _
 unfold xdl
 first | rfl | simp only [bz]
def xny : Pat := ⟨xm 22 0 [(2, .c (.raw (.ptr 0 0))), (4, .c (.bool)), (5, .c (.int .i64))], [some ⟨[.raw (.port), .geo], 212, false, none⟩]⟩
def Yw : Pat := ⟨xm 22 0 [(4, .c (.bool))], []⟩
def xdm : LF := fun st K => match xt xny st with
 | some [.b b0, .i a1, .g g2] => some (Yv b0 g2 a1 (fun _ => K (.ret) (xc Yw [.b true])) (fun _ => K (.exit 0) (xc Yw [.b b0])))
 | _ => none
theorem xwr : ∀ st K t, xdm st K = some t -> xz xa (lf ka3b xa 0 .no [1, 0, 1, 0] Tryz.f281 K) st = t := by
 intro st K t h
 unfold xdm at h
 split at h
 ·rename_i b0 a1 g2 hm
  cases h
  rw [xk hm]
  exact xv (S := fun i => xc xny [.b b0, .i i, .g g2]) (B := xdl b0 g2 (fun _ => K (.ret) (xc Yw [.b true])) (fun _ => K (.exit 0) (xc Yw [.b b0]))) (fun i k => by kernel_rfl) xa a1
 ·cases h
def xsp {β : Type} (g : Geo) (k : Int) (κ : Bool -> T β) : T β :=
 (logT k).bind fun r0 =>
 Yv (false) (g) r0 (fun y1_0 =>
 κ (true)) (fun y1_0 =>
 κ (false))
def anyT (g : Geo) (k : Int) : T Bool := xsp g k .ret
theorem xur {β : Type} (g : Geo) (k : Int) (κ : Bool -> T β) : (anyT g k).bind κ = xsp g k κ := by
 unfold anyT xsp
 first | rfl | simp only [bz, xkk]
def xfr {β : Type} (c o : Int) (κ : (Int × Bool) -> T β) : T β :=
 bif decide (c < 0) then (κ ((0), (false))) else
 bif decide (c >= 4) then (κ ((0), (false))) else
 bif decide (o < 0) then (κ ((0), (false))) else
 bif decide (0 <= c /\ c < 4) then (bif bif (bif c == 0 then (8 : Int) else bif c == 1 then (16 : Int) else bif c == 2 then (24 : Int) else (32 : Int)) == 0 then false else true then (bif bif (bif c == 0 then (8 : Int) else bif c == 1 then (16 : Int) else bif c == 2 then (24 : Int) else (32 : Int)) == 0 then false else true then (bif Int.tmod o (bif c == 0 then (8 : Int) else bif c == 1 then (16 : Int) else bif c == 2 then (24 : Int) else (32 : Int)) == 0 then (bif decide (i64.wrap (Int.tdiv o (bif c == 0 then (8 : Int) else bif c == 1 then (16 : Int) else bif c == 2 then (24 : Int) else (32 : Int))) < bif c == 0 then (8 : Int) else bif c == 1 then (4 : Int) else bif c == 2 then (2 : Int) else (2 : Int)) then (κ ((i64.wrap (Int.tdiv o (bif c == 0 then (8 : Int) else bif c == 1 then (16 : Int) else bif c == 2 then (24 : Int) else (32 : Int)))), (true))) else
 κ ((0), (false))) else
 κ ((0), (false))) else
 .fail) else
 .fail) else
 .fail
def Yx (c o : Int) : T (Int × Bool) := xfr c o .ret
theorem xkl {β : Type} (c o : Int) (κ : (Int × Bool) -> T β) : (Yx c o).bind κ = xfr c o κ := by
 unfold Yx xfr
 first | rfl | simp only [bz]
def xqL {β : Type} (g : Geo) (p k : Int) (κ : Int -> T β) : T β :=
 (isT g p k).bind fun r0 =>
 bif !r0 then (κ (-1)) else
 bif decide (0 <= k /\ k < 4) then (.op (.self ) fun x3 =>
 .op (.store (atF g 7 p) (Pg.word (Pg.mk 3 1 k x3))) fun _ =>
 (Wf g p).bind fun r5 =>
 (xdj (Cls.mk (bif k == 0 then (8 : Int) else bif k == 0 + 1 then (16 : Int) else bif k == 0 + 1 + 1 then (24 : Int) else (32 : Int)) (bif k == 0 then (8 : Int) else bif k == 0 + 1 then (16 : Int) else bif k == 0 + 1 + 1 then (8 : Int) else (32 : Int)) (bif k == 0 then (8 : Int) else bif k == 0 + 1 then (4 : Int) else bif k == 0 + 1 + 1 then (2 : Int) else (2 : Int)))).bind fun r6 =>
 .op (.store (atF g 8 p) (Bt.word (Bt.mk (bits BinOp.andNot u8 r6 1) true k (u32.wrap (r5.ver + 1))))) fun _ =>
 κ (i64.wrap (i64.wrap (p * 8) + i64.wrap (Int.tdiv (i64.wrap (0 * bif k == 0 then (8 : Int) else bif k == 1 then (16 : Int) else bif k == 2 then (24 : Int) else (32 : Int))) 8)))) else
 .fail
def xii (g : Geo) (p k : Int) : T Int := xqL g p k .ret
theorem xqM {β : Type} (g : Geo) (p k : Int) (κ : Int -> T β) : (xii g p k).bind κ = xqL g p k κ := by
 unfold xii xqL
 first | rfl | simp only [bz]
def Yy {β : Type} (a0 a1 : Int) (b2 : Bool) (g3 : Geo) (a4 : Int) (κ0 : Unit -> T β) (κ1 : Int -> T β) (i : Unit) (k : Unit -> T β) : T β :=
 (isT g3 a4 a0).bind fun r0 =>
 bif r0 then ((Wf g3 a4).bind fun r2 =>
 (firstT { map := r2.map, has := r2.has, cls := r2.cls, ver := r2.ver }).bind fun r3 =>
 bif !r2.has then (κ0 ()) else
 bif r2.cls != a0 then (κ0 ()) else
 bif decide (r3 < 0) then (κ0 ()) else
 bif bif decide (r3 < 0) then false else true then ((Xj g3 a4 { map := r2.map, has := r2.has, cls := r2.cls, ver := r2.ver }   {     map :=       bits BinOp.andNot u8 r2.map         (u8.wrap           (1 * 2 ^ if Int.toNat r3 <= nat_lit 8 then Int.toNat r3 else nat_lit 8)),     has := r2.has, cls := r2.cls, ver := r2.ver }).bind fun r8 =>
 bif r8 then (bif decide (0 <= a0 /\ a0 < 4) then (κ1 (i64.wrap   (i64.wrap (a4 * 8) +     i64.wrap       (Int.tdiv         (i64.wrap           (r3 *             bif a0 == 0 then (8 : Int)             else bif a0 == 1 then (16 : Int) else bif a0 == 2 then (24 : Int) else (32 : Int)))         8)))) else
 .fail) else
 k ()) else
 .fail) else
 κ0 ()
def ks {β : Type} (a0 a1 : Int) (b2 : Bool) (g3 : Geo) (a4 : Int)  (κ0 : Unit -> T β) (κ1 : Int -> T β) : T β := xr xa (Yy a0 a1 b2 g3 a4 κ0 κ1) ()
theorem xfs {β γ : Type} (a0 a1 : Int) (b2 : Bool) (g3 : Geo) (a4 : Int)  (κ0 : Unit -> T β) (κ1 : Int -> T β) (κ : β -> T γ) : (ks a0 a1 b2 g3 a4  κ0 κ1).bind κ = ks a0 a1 b2 g3 a4  (fun u => (κ0 u).bind κ) (fun ae0 => (κ1 ae0).bind κ) := by
 unfold ks
 refine xj κ (fun i k => ?_) _ _
 unfold Yy
 first | rfl | simp only [bz]
def xft : Pat := ⟨xm 56 0 [(3, .c (.int .i64)), (8, .c (.int .i64)), (9, .c (.bool)), (10, .c (.raw (.ptr 1 0)))], [none, some ⟨[.raw (.port), .geo, .int .i64], 234, false, none⟩]⟩
def jm : Pat := ⟨xm 56 0 [(8, .c (.int .i64)), (9, .c (.bool))], []⟩
def Yz : LF := fun st K => match xt xft st with
 | some [.i a0, .i a1, .b b2, .g g3, .i a4] => some (ks a0 a1 b2 g3 a4  (fun _ => K (.exit 0) (xc jm [.i a1, .b b2])) (fun ae0 => K (.ret) (xc jm [.i ae0, .b true])))
 | _ => none
theorem xqN : ∀ st K t, Yz st K = some t -> xz xa (lf ka3b xa 0 .no [1, 1, 0, 0] Tryz.f261 K) st = t := by
 intro st K t h
 unfold Yz at h
 split at h
 ·rename_i a0 a1 b2 g3 a4 hm
  cases h
  rw [xk hm]
  exact xv (S := fun i => xc xft [.i a0, .i a1, .b b2, .g g3, .i a4]) (B := Yy a0 a1 b2 g3 a4 (fun _ => K (.exit 0) (xc jm [.i a1, .b b2])) (fun ae0 => K (.ret) (xc jm [.i ae0, .b true]))) (fun i k => by kernel_rfl) xa ()
 ·cases h
def xdn {β : Type} (g : Geo) (p k : Int) (κ : (Int × Bool) -> T β) : T β :=
 ks (k) (0) (false) (g) (p) (fun y0_0 =>
 κ ((0), (false))) (fun y0_0 =>
 κ (y0_0, (true)))
def xbz (g : Geo) (p k : Int) : T (Int × Bool) := xdn g p k .ret
theorem xnz {β : Type} (g : Geo) (p k : Int) (κ : (Int × Bool) -> T β) : (xbz g p k).bind κ = xdn g p k κ := by
 unfold xbz xdn
 first | rfl | simp only [bz, xfs]
def KT {β : Type} (a0 : Int) (b1 b2 : Bool) (g3 : Geo) (a4 : Int) (κ0 : Unit -> T β) (κ1 : Unit -> T β) (i : Unit) (k : Unit -> T β) : T β :=
 bif b2 then (.op (.load (atF g3 9 a4)) fun x1 =>
 .op (.store (atF g3 10 a0) x1) fun _ =>
 .op (.cas (atF g3 9 a4) x1 (u64.wrap (u64.wrap a0 + 1))) fun b3 =>
 bif b3 then (κ0 ()) else
 k ()) else
 κ1 ()
def qf {β : Type} (a0 : Int) (b1 b2 : Bool) (g3 : Geo) (a4 : Int)  (κ0 : Unit -> T β) (κ1 : Unit -> T β) : T β := xr xa (KT a0 b1 b2 g3 a4 κ0 κ1) ()
theorem xgE {β γ : Type} (a0 : Int) (b1 b2 : Bool) (g3 : Geo) (a4 : Int)  (κ0 : Unit -> T β) (κ1 : Unit -> T β) (κ : β -> T γ) : (qf a0 b1 b2 g3 a4  κ0 κ1).bind κ = qf a0 b1 b2 g3 a4  (fun u => (κ0 u).bind κ) (fun u => (κ1 u).bind κ) := by
 unfold qf
 refine xj κ (fun i k => ?_) _ _
 unfold KT
 first | rfl | simp only [bz]
def xij : Pat := ⟨xm 60 0 [(2, .c (.int .i64)), (6, .c (.bool)), (7, .c (.raw (.ptr 1 0))), (9, .c (.bool))], [none, some ⟨[.raw (.port), .geo, .int .i64], 234, false, none⟩]⟩
def Zh : Pat := ⟨xm 60 0 [(6, .c (.bool))], []⟩
def KU : LF := fun st K => match xt xij st with
 | some [.i a0, .b b1, .b b2, .g g3, .i a4] => some (qf a0 b1 b2 g3 a4  (fun _ => K (.ret) (xc Zh [.b true])) (fun _ => K (.exit 0) (xc Zh [.b b1])))
 | _ => none
theorem xus : ∀ st K t, KU st K = some t -> xz xa (lf ka3b xa 0 .no [1, 1, 0, 0] Tryz.f88 K) st = t := by
 intro st K t h
 unfold KU at h
 split at h
 ·rename_i a0 b1 b2 g3 a4 hm
  cases h
  rw [xk hm]
  exact xv (S := fun i => xc xij [.i a0, .b b1, .b b2, .g g3, .i a4]) (B := KT a0 b1 b2 g3 a4 (fun _ => K (.ret) (xc Zh [.b true])) (fun _ => K (.exit 0) (xc Zh [.b b1]))) (fun i k => by kernel_rfl) xa ()
 ·cases h
def xkm {β : Type} (g : Geo) (k : Int) (κ : Bool -> T β) : T β :=
 bif decide (k < 0) then (κ (false)) else
 bif decide (k >= i64.wrap (g.pages * 8)) then (κ (false)) else
 qf (k) (false) (true) (g) (i64.wrap (Int.tdiv k 8)) (fun y2_0 =>
 κ (true)) (fun y2_0 =>
 κ (false))
def xik (g : Geo) (k : Int) : T Bool := xkm g k .ret
theorem xqO {β : Type} (g : Geo) (k : Int) (κ : Bool -> T β) : (xik g k).bind κ = xkm g k κ := by
 unfold xik xkm
 first | rfl | simp only [bz, xgE]
def xkn {β : Type} (g : Geo) (k : Int) (κ : Pg -> T β) : T β :=
 bif decide (k < 0) then (κ ⟨(0), (0), (0), (0)⟩) else
 bif decide (k >= i64.wrap (g.pages * 8)) then (κ ⟨(0), (0), (0), (0)⟩) else
 .op (.load (atF g 7 (i64.wrap (Int.tdiv k 8)))) fun x2 =>
 κ ⟨(if (IntKind.signed i64 && decide (bits BinOp.and u64 (Int.fdiv x2 1) 7 % 18446744073709551616 >= 9223372036854775808)) = true then bits BinOp.and u64 (Int.fdiv x2 1) 7 % 18446744073709551616 - 18446744073709551616 else bits BinOp.and u64 (Int.fdiv x2 1) 7 % 18446744073709551616), (if (IntKind.signed i64 && decide (bits BinOp.and u64 (Int.fdiv x2 8) 1023 % 18446744073709551616 >= 9223372036854775808)) = true then bits BinOp.and u64 (Int.fdiv x2 8) 1023 % 18446744073709551616 - 18446744073709551616 else bits BinOp.and u64 (Int.fdiv x2 8) 1023 % 18446744073709551616), (if (IntKind.signed i64 && decide (bits BinOp.and u64 (Int.fdiv x2 8192) 3 % 18446744073709551616 >= 9223372036854775808)) = true then bits BinOp.and u64 (Int.fdiv x2 8192) 3 % 18446744073709551616 - 18446744073709551616 else bits BinOp.and u64 (Int.fdiv x2 8192) 3 % 18446744073709551616), (if (IntKind.signed i64 && decide (bits BinOp.and u64 (Int.fdiv x2 65536) 127 % 18446744073709551616 >= 9223372036854775808)) = true then bits BinOp.and u64 (Int.fdiv x2 65536) 127 % 18446744073709551616 - 18446744073709551616 else bits BinOp.and u64 (Int.fdiv x2 65536) 127 % 18446744073709551616)⟩
def vQ (g : Geo) (k : Int) : T Pg := xkn g k .ret
theorem xqP {β : Type} (g : Geo) (k : Int) (κ : Pg -> T β) : (vQ g k).bind κ = xkn g k κ := by
 unfold vQ xkn
 first | rfl | simp only [bz]
def Va : Sm := fun
 | [.c .port, .agg gc, .c (.int .i64 nd)], [] => (match xu gc with
   | some g => some (mkS ((Int × Bool)) (kP g nd) fun r => some (.tup [.c (.int .u64 r.1), .c (.bool r.2)], []))
   | _ => none)
 | _, _ => none
theorem xgF : Good Tryz.prog (xo ka3b) xa 0 (lsAt jl .no [1, 0, 1, 0]) (Tryz.f286.body.getD .skip) (xq Tryz.f286.results.toList) := xB (xi (by kernel_rfl)) xA xki
variable {σ : Type} {I : Port Tryz.prog σ}
theorem xko (hl : SoundL I ka3b) : SoundF I 286 Va := by
 refine sq hl xa Tryz.func286 fun args H t ht => ?_
 unfold Va at ht
 split at ht
 ·rename_i gc nd
  split at ht
  ·rename_i g hg
   obtain rfl := xe hg
   cases ht
   refine (xE (P := Tryz.prog) (n := xa) (x := (lsAt jl .no [1, 0, 1, 0])) (fn := Tryz.f286) (H := []) (c := Tryz.f286.body.getD .skip) (xi (by kernel_rfl)) xgF).symm.trans ?_
   refine Eq.trans ?_ (xgD g nd _).symm
   kernel_rfl
  ·cases ht
 ·cases ht
def xbA : Sm := fun
 | [.agg (.port :: gc), .c (.int .i64 n), .c (.bool l)], [] => (match xu gc with
   | some g => some (mkS (Unit) (vK g n l) fun r => some (.tup [], []))
   | _ => none)
 | _, _ => none
theorem xnA (hl : SoundL I ka3b) : SoundF I 223 xbA := by
 refine sq hl 1 Tryz.func223 fun args H t ht => ?_
 unfold xbA at ht
 split at ht
 ·rename_i gc n l
  split at ht
  ·rename_i g hg
   obtain rfl := xe hg
   cases ht
   refine Eq.trans ?_ (xkj g n l _).symm
   kernel_rfl
  ·cases ht
 ·cases ht
def xqQ : Sm := fun
 | [.agg (.port :: gc), .c (.int .i64 k)], [] => (match xu gc with
   | some g => some (mkS (Bool) (anyT g k) fun r => some (.c (.bool r), []))
   | _ => none)
 | _, _ => none
theorem xut : Good Tryz.prog (xo ka3b) xa 0 (lsAt xdm .no [1, 0, 1, 0]) (Tryz.f281.body.getD .skip) (xq Tryz.f281.results.toList) := xB (xi (by kernel_rfl)) xA xwr
theorem xws (hl : SoundL I ka3b) : SoundF I 281 xqQ := by
 refine sq hl xa Tryz.func281 fun args H t ht => ?_
 unfold xqQ at ht
 split at ht
 ·rename_i gc k
  split at ht
  ·rename_i g hg
   obtain rfl := xe hg
   cases ht
   refine (xE (P := Tryz.prog) (n := xa) (x := (lsAt xdm .no [1, 0, 1, 0])) (fn := Tryz.f281) (H := []) (c := Tryz.f281.body.getD .skip) (xi (by kernel_rfl)) xut).symm.trans ?_
   refine Eq.trans ?_ (xur g k _).symm
   kernel_rfl
  ·cases ht
 ·cases ht
def xbB : Sm := fun
 | [.c (.int .i64 c), .c (.int .i64 o)], [] => some (mkS ((Int × Bool)) (Yx c o) fun r => some (.tup [.c (.int .i64 r.1), .c (.bool r.2)], []))
 | _, _ => none
theorem xnB (hl : SoundL I ka3b) : SoundF I 177 xbB := by
 refine sq hl 1 Tryz.func177 fun args H t ht => ?_
 unfold xbB at ht
 split at ht
 ·rename_i c o
  cases ht
  refine Eq.trans ?_ (xkl c o _).symm
  kernel_rfl
 ·cases ht
def xsq : Sm := gS fun
 | g, [.c (.int .i64 p), .c (.int .i64 k)] => some (mkS (Int) (xii g p k) fun r => some (.c (.int .i64 r), []))
 | _, _ => none
theorem xuu (hl : SoundL I ka3b) : SoundF I 262 xsq := by
 refine gsq hl 1 Tryz.func262 fun g l t ht => ?_
 split at ht
 ·rename_i p k
  cases ht
  refine Eq.trans ?_ (xqM g p k _).symm
  kernel_rfl
 ·cases ht
def xfu : Sm := fun
 | [.c .port, .agg gc, .c (.int .i64 p), .c (.int .i64 k)], [] => (match xu gc with
   | some g => some (mkS ((Int × Bool)) (xbz g p k) fun r => some (.tup [.c (.int .i64 r.1), .c (.bool r.2)], []))
   | _ => none)
 | _, _ => none
theorem xnC : Good Tryz.prog (xo ka3b) xa 0 (lsAt Yz .no [1, 1, 0, 0]) (Tryz.f261.body.getD .skip) (xq Tryz.f261.results.toList) := xB (xi (by kernel_rfl)) xA xqN
theorem xqR (hl : SoundL I ka3b) : SoundF I 261 xfu := by
 refine sq hl xa Tryz.func261 fun args H t ht => ?_
 unfold xfu at ht
 split at ht
 ·rename_i gc p k
  split at ht
  ·rename_i g hg
   obtain rfl := xe hg
   cases ht
   refine (xE (P := Tryz.prog) (n := xa) (x := (lsAt Yz .no [1, 1, 0, 0])) (fn := Tryz.f261) (H := []) (c := Tryz.f261.body.getD .skip) (xi (by kernel_rfl)) xnC).symm.trans ?_
   refine Eq.trans ?_ (xnz g p k _).symm
   kernel_rfl
  ·cases ht
 ·cases ht
def xkp : Sm := fun
 | [.c .port, .agg gc, .c (.int .i64 k)], [] => (match xu gc with
   | some g => some (mkS (Bool) (xik g k) fun r => some (.c (.bool r), []))
   | _ => none)
 | _, _ => none
theorem xqS : Good Tryz.prog (xo ka3b) xa 0 (lsAt KU .no [1, 1, 0, 0]) (Tryz.f88.body.getD .skip) (xq Tryz.f88.results.toList) := xB (xi (by kernel_rfl)) xA xus
theorem xuv (hl : SoundL I ka3b) : SoundF I 88 xkp := by
 refine sq hl xa Tryz.func88 fun args H t ht => ?_
 unfold xkp at ht
 split at ht
 ·rename_i gc k
  split at ht
  ·rename_i g hg
   obtain rfl := xe hg
   cases ht
   refine (xE (P := Tryz.prog) (n := xa) (x := (lsAt KU .no [1, 1, 0, 0])) (fn := Tryz.f88) (H := []) (c := Tryz.f88.body.getD .skip) (xi (by kernel_rfl)) xqS).symm.trans ?_
   refine Eq.trans ?_ (xqO g k _).symm
   kernel_rfl
  ·cases ht
 ·cases ht
def xsr : Sm := gS fun
 | g, [.c (.int .i64 k)] => some (mkS (Pg) (vQ g k) fun r => some (.agg r.cells, []))
 | _, _ => none
theorem xuw (hl : SoundL I ka3b) : SoundF I 84 xsr := by
 refine gsq hl 1 Tryz.func84 fun g l t ht => ?_
 split at ht
 ·rename_i k
  cases ht
  refine Eq.trans ?_ (xqP g k _).symm
  kernel_rfl
 ·cases ht
def ka4 : List (Nat × Sm) := (286, Va) :: (223, xbA) :: (281, xqQ) :: (177, xbB) :: (262, xsq) :: (261, xfu) :: (88, xkp) :: (84, xsr) :: ka3b
theorem Wh : SoundL I ka4 := (.cons (xko Zv) (.cons (xnA Zv) (.cons (xws Zv) (.cons (xnB Zv) (.cons (xuu Zv) (.cons (xqR Zv) (.cons (xuv Zv) (.cons (xuw Zv) Zv))))))))
end Go.Proofs.YtaegelbaghaooaaGreat.Lx
