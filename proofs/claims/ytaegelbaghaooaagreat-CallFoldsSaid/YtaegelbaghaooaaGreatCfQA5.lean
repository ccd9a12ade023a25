/- Part. -/
import Derived.Test.YtaegelbaghaooaaGreatCfQA4
set_option linter.all false
open Go.IntKind (i64 u64 u32 u8)
namespace Go.Proofs.YtaegelbaghaooaaGreat.Lx
open Go
set_option maxRecDepth 1000000
def YA {β : Type} (b0 : Bool) (a1 : Int) (b2 : Bool) (g3 : Geo) (a4 : Int) (κ0 : Unit -> T β) (κ1 : Unit -> T β) (i : Unit) (k : Unit -> T β) : T β :=
 bif b2 then ((Wf g3 a4).bind fun r1 =>
 (Yx r1.cls a1).bind fun r2 =>
 bif !r1.has then (κ0 ()) else
 bif !r2.2 then (κ0 ()) else
 bif bif decide (r2.1 < 0) then false else true then (bif bits BinOp.and u8     (Int.fdiv r1.map (2 ^ if Int.toNat r2.1 <= nat_lit 8 then Int.toNat r2.1 else nat_lit 8)) 1 ==   1 then (κ0 ()) else
 bif bif decide (r2.1 < 0) then false else true then ((Xj g3 a4 { map := r1.map, has := r1.has, cls := r1.cls, ver := r1.ver }   {     map :=       bits BinOp.or u8 r1.map         (u8.wrap           (1 * 2 ^ if Int.toNat r2.1 <= nat_lit 8 then Int.toNat r2.1 else nat_lit 8)),     has := r1.has, cls := r1.cls, ver := r1.ver }).bind fun r8 =>
 bif r8 then (κ1 ()) else
 k ()) else
 .fail) else
 .fail) else
 κ0 ()
def kt {β : Type} (b0 : Bool) (a1 : Int) (b2 : Bool) (g3 : Geo) (a4 : Int)  (κ0 : Unit -> T β) (κ1 : Unit -> T β) : T β := xr xa (YA b0 a1 b2 g3 a4 κ0 κ1) ()
theorem xfv {β γ : Type} (b0 : Bool) (a1 : Int) (b2 : Bool) (g3 : Geo) (a4 : Int)  (κ0 : Unit -> T β) (κ1 : Unit -> T β) (κ : β -> T γ) : (kt b0 a1 b2 g3 a4  κ0 κ1).bind κ = kt b0 a1 b2 g3 a4  (fun u => (κ0 u).bind κ) (fun u => (κ1 u).bind κ) := by
 unfold kt
 refine xj κ (fun i k => ?_) _ _
 unfold YA
 first | rfl | simp only [bz]
def xfw : Pat := ⟨xm 58 0 [(6, .c (.bool)), (7, .c (.raw (.ptr 1 0))), (8, .c (.int .i64)), (9, .c (.bool))], [none, some ⟨[.raw (.port), .geo, .int .i64], 234, false, none⟩]⟩
def jn : Pat := ⟨xm 58 0 [(6, .c (.bool))], []⟩
def YB : LF := fun st K => match xt xfw st with
 | some [.b b0, .i a1, .b b2, .g g3, .i a4] => some (kt b0 a1 b2 g3 a4  (fun _ => K (.exit 0) (xc jn [.b b0])) (fun _ => K (.ret) (xc jn [.b true])))
 | _ => none
theorem xqT : ∀ st K t, YB st K = some t -> xz xa (lf ka4 xa 0 .no [1, 1, 0, 0] Tryz.f91 K) st = t := by
 intro st K t h
 unfold YB at h
 split at h
 ·rename_i b0 a1 b2 g3 a4 hm
  cases h
  rw [xk hm]
  exact cast (by kernel_rfl) (xv (F := lf ka4 xa 0 .no [1, 1, 0, 0] Tryz.f91 K) (S := fun i => xc xfw [.b b0, .i a1, .b b2, .g g3, .i a4]) (B := YA b0 a1 b2 g3 a4 (fun _ => K (.exit 0) (xc jn [.b b0])) (fun _ => K (.ret) (xc jn [.b true]))) (fun i k => by kernel_rfl) xa ())
 ·cases h
def xdo {β : Type} (g : Geo) (k : Int) (κ : Bool -> T β) : T β :=
 bif decide (k < 0) then (κ (false)) else
 bif decide (k >= i64.wrap (g.pages * 8)) then (κ (false)) else
 kt (false) (i64.wrap (Int.tmod k 8 * 8)) (true) (g) (i64.wrap (Int.tdiv k 8)) (fun y2_0 =>
 κ (false)) (fun y2_0 =>
 κ (true))
def Vb (g : Geo) (k : Int) : T Bool := xdo g k .ret
theorem xnD {β : Type} (g : Geo) (k : Int) (κ : Bool -> T β) : (Vb g k).bind κ = xdo g k κ := by
 unfold Vb xdo
 first | rfl | simp only [bz, xfv]
def qg {β : Type} (a0 : Int) (g2 : Geo) (a3 : Int) (κ0 : Int -> T β) (i : Int) (k : Int -> T β) : T β :=
 bif i != 0 then (.op (.cas (atF g2 9 a0) (i) (0)) fun b1 =>
 bif !b1 then (.op (.load (atF g2 9 a0)) fun x3 =>
 k x3) else
 κ0 (i)) else
 κ0 (i)
def yh {β : Type} (a0 : Int) (g2 : Geo) (a3 a1 : Int) (κ0 : Int -> T β) : T β := xr xa (qg a0 g2 a3 κ0) a1
theorem kQ {β γ : Type} (a0 : Int) (g2 : Geo) (a3 a1 : Int) (κ0 : Int -> T β) (κ : β -> T γ) : (yh a0 g2 a3 a1 κ0).bind κ = yh a0 g2 a3 a1 (fun ae0 => (κ0 ae0).bind κ) := by
 unfold yh
 refine xj κ (fun i k => ?_) _ _
 unfold qg
 first | rfl | simp only [bz]
def xfx : Pat := ⟨xm 84 0 [(2, .c (.int .i64)), (6, .c (.raw (.nils))), (7, .c (.raw (.ptr 1 0))), (8, .c (.int .u64))], [none, some ⟨[.raw (.port), .geo, .int .i64], 234, false, none⟩]⟩
def xct : Pat := ⟨xm 84 0 [(6, .c (.raw (.nils))), (7, .c (.raw (.ptr 1 0))), (8, .c (.int .u64))], [none, some ⟨[.raw (.port), .geo, .int .i64], 234, false, none⟩]⟩
def YC : LF := fun st K => match xt xfx st with
 | some [.i a0, .i a1, .g g2, .i a3] => some (yh a0 g2 a3 a1 (fun ae0 => K (.exit 0) (xc xct [.i ae0, .g g2, .i a3])))
 | _ => none
theorem xqU : ∀ st K t, YC st K = some t -> xz xa (lf ka4 xa 0 .no [1, 1, 1, 1, 0, 0] Tryz.f260 K) st = t := by
 intro st K t h
 unfold YC at h
 split at h
 ·rename_i a0 a1 g2 a3 hm
  cases h
  rw [xk hm]
  exact cast (by kernel_rfl) (xv (F := lf ka4 xa 0 .no [1, 1, 1, 1, 0, 0] Tryz.f260 K) (S := fun i => xc xfx [.i a0, .i i, .g g2, .i a3]) (B := qg a0 g2 a3 (fun ae0 => K (.exit 0) (xc xct [.i ae0, .g g2, .i a3]))) (fun i k => by kernel_rfl) xa a1)
 ·cases h
def xdp {β : Type} (g : Geo) (p : Int) (κ : (List Int) -> T β) : T β :=
 (isT g p 0).bind fun r0 =>
 bif !r0 then (κ []) else
 .op (.load (atF g 9 p)) fun x2 =>
 yh (p) (g) (p) x2 (fun y3_0 =>
 bif y3_0 != 0 then (.op (.load (atF g 10 (i64.wrap (i64.wrap y3_0 - 1)))) fun x5 =>
 bif x5 != 0 then (.op (.load (atF g 10 (i64.wrap (i64.wrap x5 - 1)))) fun x7 =>
 bif x7 != 0 then (.op (.load (atF g 10 (i64.wrap (i64.wrap x7 - 1)))) fun x9 =>
 bif x9 != 0 then (.op (.load (atF g 10 (i64.wrap (i64.wrap x9 - 1)))) fun x11 =>
 bif x11 != 0 then (.op (.load (atF g 10 (i64.wrap (i64.wrap x11 - 1)))) fun x13 =>
 bif x13 != 0 then (.op (.load (atF g 10 (i64.wrap (i64.wrap x13 - 1)))) fun x15 =>
 bif x15 != 0 then (.op (.load (atF g 10 (i64.wrap (i64.wrap x15 - 1)))) fun x17 =>
 bif x17 != 0 then (.op (.load (atF g 10 (i64.wrap (i64.wrap x17 - 1)))) fun x19 =>
 bif x19 != 0 then (κ [(i64.wrap (i64.wrap y3_0 - 1)), (i64.wrap (i64.wrap x5 - 1)), (i64.wrap (i64.wrap x7 - 1)), (i64.wrap (i64.wrap x9 - 1)), (i64.wrap (i64.wrap x11 - 1)), (i64.wrap (i64.wrap x13 - 1)), (i64.wrap (i64.wrap x15 - 1)), (i64.wrap (i64.wrap x17 - 1))]) else
 κ [(i64.wrap (i64.wrap y3_0 - 1)), (i64.wrap (i64.wrap x5 - 1)), (i64.wrap (i64.wrap x7 - 1)), (i64.wrap (i64.wrap x9 - 1)), (i64.wrap (i64.wrap x11 - 1)), (i64.wrap (i64.wrap x13 - 1)), (i64.wrap (i64.wrap x15 - 1)), (i64.wrap (i64.wrap x17 - 1))]) else
 κ [(i64.wrap (i64.wrap y3_0 - 1)), (i64.wrap (i64.wrap x5 - 1)), (i64.wrap (i64.wrap x7 - 1)), (i64.wrap (i64.wrap x9 - 1)), (i64.wrap (i64.wrap x11 - 1)), (i64.wrap (i64.wrap x13 - 1)), (i64.wrap (i64.wrap x15 - 1))]) else
 κ [(i64.wrap (i64.wrap y3_0 - 1)), (i64.wrap (i64.wrap x5 - 1)), (i64.wrap (i64.wrap x7 - 1)), (i64.wrap (i64.wrap x9 - 1)), (i64.wrap (i64.wrap x11 - 1)), (i64.wrap (i64.wrap x13 - 1))]) else
 κ [(i64.wrap (i64.wrap y3_0 - 1)), (i64.wrap (i64.wrap x5 - 1)), (i64.wrap (i64.wrap x7 - 1)), (i64.wrap (i64.wrap x9 - 1)), (i64.wrap (i64.wrap x11 - 1))]) else
 κ [(i64.wrap (i64.wrap y3_0 - 1)), (i64.wrap (i64.wrap x5 - 1)), (i64.wrap (i64.wrap x7 - 1)), (i64.wrap (i64.wrap x9 - 1))]) else
 κ [(i64.wrap (i64.wrap y3_0 - 1)), (i64.wrap (i64.wrap x5 - 1)), (i64.wrap (i64.wrap x7 - 1))]) else
 κ [(i64.wrap (i64.wrap y3_0 - 1)), (i64.wrap (i64.wrap x5 - 1))]) else
 κ [(i64.wrap (i64.wrap y3_0 - 1))]) else
 κ [])
def xqV (g : Geo) (p : Int) : T (List Int) := xdp g p .ret
theorem xcu {β : Type} (g : Geo) (p : Int) (κ : (List Int) -> T β) : (xqV g p).bind κ = xdp g p κ := by
 unfold xqV xdp
 first | rfl | simp only [bz, kQ]
def xss {β : Type} (g : Geo) (p n : Int) (κ : Unit -> T β) : T β :=
 bif n == 0 then (κ ()) else
 bif decide (n > 1) then ((ji g (i64.wrap (i64.wrap (p + n) - 1)) 2 n).bind fun r2 =>
 (ji g p 1 n).bind fun r3 =>
 (vK g n false).bind fun r4 =>
 κ ()) else
 (ji g p 1 n).bind fun r2 =>
 (vK g n false).bind fun r3 =>
 κ ()
def layT (g : Geo) (p n : Int) : T Unit := xss g p n .ret
theorem xux {β : Type} (g : Geo) (p n : Int) (κ : Unit -> T β) : (layT g p n).bind κ = xss g p n κ := by
 unfold layT xss
 first | rfl | simp only [bz]
def KV {β : Type} (a0 a1 : Int) (g3 : Geo) (a4 a5 a6 : Int) (κ0 : Int -> Int -> Int -> T β) (i : Int × Int × Int × Int) (k : Int × Int × Int × Int -> T β) : T β :=
 bif decide (i.1 < g3.pages) then ((We g3 i.1).bind fun r1 =>
 bif bif a1 == 0 then false else true then (bif r1.kind == 1 then (bif decide   (i64.wrap       (i64.wrap           (i64.wrap               (Int.tdiv (i64.wrap (i64.wrap (i.1 + a1) - 1)) a1) *             a1) +         a0) <=     i64.wrap (i.1 + r1.len)) then (bif i.2.2.1 == 0 then ((vJ { kind := r1.kind, len := r1.len, cls := r1.cls, owner := r1.owner }).bind fun r6 =>
 k (i64.wrap (i.1 + r6), i.1, r1.len, i64.wrap   (i64.wrap (Int.tdiv (i64.wrap (i64.wrap (i.1 + a1) - 1)) a1) *     a1))) else
 bif decide (r1.len < i.2.2.1) then ((vJ { kind := r1.kind, len := r1.len, cls := r1.cls, owner := r1.owner }).bind fun r7 =>
 k (i64.wrap (i.1 + r7), i.1, r1.len, i64.wrap   (i64.wrap (Int.tdiv (i64.wrap (i64.wrap (i.1 + a1) - 1)) a1) *     a1))) else
 (vJ { kind := r1.kind, len := r1.len, cls := r1.cls, owner := r1.owner }).bind fun r7 =>
 k (i64.wrap (i.1 + r7), i.2.1, i.2.2.1, i.2.2.2)) else
 (vJ { kind := r1.kind, len := r1.len, cls := r1.cls, owner := r1.owner }).bind fun r5 =>
 k (i64.wrap (i.1 + r5), i.2.1, i.2.2.1, i.2.2.2)) else
 (vJ { kind := r1.kind, len := r1.len, cls := r1.cls, owner := r1.owner }).bind fun r4 =>
 k (i64.wrap (i.1 + r4), i.2.1, i.2.2.1, i.2.2.2)) else
 .fail) else
 κ0 (i.2.1) (i.2.2.1) (i.2.2.2)
def qh {β : Type} (a0 a1 : Int) (g3 : Geo) (a4 a5 a6 a2 a7 a8 a9 : Int) (κ0 : Int -> Int -> Int -> T β) : T β := xr xa (KV a0 a1 g3 a4 a5 a6 κ0) (a2, a7, a8, a9)
theorem xgG {β γ : Type} (a0 a1 : Int) (g3 : Geo) (a4 a5 a6 a2 a7 a8 a9 : Int) (κ0 : Int -> Int -> Int -> T β) (κ : β -> T γ) : (qh a0 a1 g3 a4 a5 a6 a2 a7 a8 a9 κ0).bind κ = qh a0 a1 g3 a4 a5 a6 a2 a7 a8 a9 (fun ae3 ae4 ae5 => (κ0 ae3 ae4 ae5).bind κ) := by
 unfold qh
 refine xj κ (fun i k => ?_) _ _
 unfold KV
 first | rfl | simp only [bz]
def xil : Pat := ⟨xm 67 0 [(1, .c (.int .i64)), (2, .c (.int .i64)), (3, .c (.raw (.ptr 0 0))), (6, .c (.raw (.ptr 1 0))), (7, .c (.raw (.ptr 2 0))), (8, .c (.int .i64))], [some ⟨[.raw (.port), .geo], 212, false, none⟩, some ⟨[.int .i64, .int .i64, .int .i64], 296, false, none⟩, some ⟨[.int .i64, .int .i64, .int .i64], 296, false, none⟩]⟩
def xfy : Pat := ⟨xm 67 0 [(6, .c (.raw (.ptr 1 0))), (7, .c (.raw (.ptr 2 0)))], [none, some ⟨[.int .i64, .int .i64, .int .i64], 296, false, none⟩, some ⟨[.int .i64, .int .i64, .int .i64], 296, false, none⟩]⟩
def KW : LF := fun st K => match xt xil st with
 | some [.i a0, .i a1, .i a2, .g g3, .i a4, .i a5, .i a6, .i a7, .i a8, .i a9] => some (qh a0 a1 g3 a4 a5 a6 a2 a7 a8 a9 (fun ae3 ae4 ae5 => K (.exit 0) (xc xfy [.i a4, .i a5, .i a6, .i ae3, .i ae4, .i ae5])))
 | _ => none
theorem xuy : ∀ st K t, KW st K = some t -> xz xa (lf ka4 xa 0 .no [1, 1, 1, 0, 1, 0] Tryz.f263 K) st = t := by
 intro st K t h
 unfold KW at h
 split at h
 ·rename_i a0 a1 a2 g3 a4 a5 a6 a7 a8 a9 hm
  cases h
  rw [xk hm]
  exact cast (by kernel_rfl) (xv (F := lf ka4 xa 0 .no [1, 1, 1, 0, 1, 0] Tryz.f263 K) (S := fun i => xc xil [.i a0, .i a1, .i (i.1), .g g3, .i a4, .i a5, .i a6, .i (i.2.1), .i (i.2.2.1), .i (i.2.2.2)]) (B := KV a0 a1 g3 a4 a5 a6 (fun ae3 ae4 ae5 => K (.exit 0) (xc xfy [.i a4, .i a5, .i a6, .i ae3, .i ae4, .i ae5]))) (fun i k => by kernel_rfl) xa (a2, a7, a8, a9))
 ·cases h
def xkq {β : Type} (g : Geo) (k a : Int) (κ : Fit -> T β) : T β :=
 (anyT g k).bind fun r0 =>
 bif !r0 then (κ ⟨(0), (0), (0)⟩) else
 qh (k) (a) (g) (0) (0) (0) (0) (0) (0) (0) (fun y2_0 y2_1 y2_2 =>
 κ ⟨(y2_0), y2_1, (y2_2)⟩)
def xim (g : Geo) (k a : Int) : T Fit := xkq g k a .ret
theorem xqW {β : Type} (g : Geo) (k a : Int) (κ : Fit -> T β) : (xim g k a).bind κ = xkq g k a κ := by
 unfold xim xkq
 first | rfl | simp only [bz, xgG]
def xfz {β : Type} (x : Int) (κ : Int -> T β) : T β :=
 κ (-1)
def xkr (x : Int) : T Int := xfz x .ret
theorem xks {β : Type} (x : Int) (κ : Int -> T β) : (xkr x).bind κ = xfz x κ := by
 unfold xkr xfz
 first | rfl | simp only [bz]
def YD {β : Type} (x k : Int) (κ : Int -> T β) : T β :=
 bif x == k then (κ (0)) else
 κ (-1)
def Xn (x k : Int) : T Int := YD x k .ret
theorem xgH {β : Type} (x k : Int) (κ : Int -> T β) : (Xn x k).bind κ = YD x k κ := by
 unfold Xn YD
 first | rfl | simp only [bz]
def KX {β : Type} (x k j : Int) (κ : Int -> T β) : T β :=
 bif x == k then (κ (0)) else
 bif x == j then (κ (1)) else
 κ (-1)
def KY (x k j : Int) : T Int := KX x k j .ret
theorem xkt {β : Type} (x k j : Int) (κ : Int -> T β) : (KY x k j).bind κ = KX x k j κ := by
 unfold KY KX
 first | rfl | simp only [bz]
def YE {β : Type} (a0 : Int) (g1 : Geo) (a2 a3 a4 a5 : Int) (b6 : Bool) (a7 : Int) (κ0 : Int -> Int -> Int -> Int -> Bool -> Int -> T β) (i : Unit) (k : Unit -> T β) : T β :=
 (KQ g1 a0).bind fun r0 =>
 bif !r0.live then (κ0 (r0.kind) (r0.size) (r0.other) (r0.ver) (r0.live) (r0.lin)) else
 .op (.cas (atF g1 11 a0) (Stt.word { kind := r0.kind, size := r0.size, other := r0.other, ver := r0.ver }) (0)) fun b2 =>
 bif b2 then (.op (.steps ) fun x4 =>
 κ0 (r0.kind) (r0.size) (r0.other) (r0.ver) (r0.live) x4) else
 k ()
def ku {β : Type} (a0 : Int) (g1 : Geo) (a2 a3 a4 a5 : Int) (b6 : Bool) (a7 : Int)  (κ0 : Int -> Int -> Int -> Int -> Bool -> Int -> T β) : T β := xr xa (YE a0 g1 a2 a3 a4 a5 b6 a7 κ0) ()
theorem xfA {β γ : Type} (a0 : Int) (g1 : Geo) (a2 a3 a4 a5 : Int) (b6 : Bool) (a7 : Int)  (κ0 : Int -> Int -> Int -> Int -> Bool -> Int -> T β) (κ : β -> T γ) : (ku a0 g1 a2 a3 a4 a5 b6 a7  κ0).bind κ = ku a0 g1 a2 a3 a4 a5 b6 a7  (fun ae0 ae1 ae2 ae3 be4 ae5 => (κ0 ae0 ae1 ae2 ae3 be4 ae5).bind κ) := by
 unfold ku
 refine xj κ (fun i k => ?_) _ _
 unfold YE
 first | rfl | simp only [bz]
def xfB : Pat := ⟨xm 31 0 [(0, .c (.raw (.port))), (2, .c (.int .i64)), (4, .c (.raw (.ptr 0 0))), (6, .c (.raw (.ptr 1 0)))], [some ⟨[.geo], 24, false, none⟩, some ⟨[.int .i64, .int .i64, .int .i64, .int .u32, .bool, .int .i64], 145, false, none⟩]⟩
def xcv : Pat := ⟨xm 31 0 [(6, .c (.raw (.ptr 1 0)))], [none, some ⟨[.int .i64, .int .i64, .int .i64, .int .u32, .bool, .int .i64], 145, false, none⟩]⟩
def YF : LF := fun st K => match xt xfB st with
 | some [.i a0, .g g1, .i a2, .i a3, .i a4, .i a5, .b b6, .i a7] => some (ku a0 g1 a2 a3 a4 a5 b6 a7  (fun ae0 ae1 ae2 ae3 be4 ae5 => K (.ret) (xc xcv [.i ae0, .i ae1, .i ae2, .i ae3, .b be4, .i ae5])))
 | _ => none
theorem xqX : ∀ st K t, YF st K = some t -> xz xa (lf ka4 xa 0 .no [1, 0] Tryz.f82 K) st = t := by
 intro st K t h
 unfold YF at h
 split at h
 ·rename_i a0 g1 a2 a3 a4 a5 b6 a7 hm
  cases h
  rw [xk hm]
  exact cast (by kernel_rfl) (xv (F := lf ka4 xa 0 .no [1, 0] Tryz.f82 K) (S := fun i => xc xfB [.i a0, .g g1, .i a2, .i a3, .i a4, .i a5, .b b6, .i a7]) (B := YE a0 g1 a2 a3 a4 a5 b6 a7 (fun ae0 ae1 ae2 ae3 be4 ae5 => K (.ret) (xc xcv [.i ae0, .i ae1, .i ae2, .i ae3, .b be4, .i ae5]))) (fun i k => by kernel_rfl) xa ())
 ·cases h
def xdq {β : Type} (g : Geo) (k : Int) (κ : Seen -> T β) : T β :=
 ku (k) (g) (0) (0) (0) (0) (false) (0) (fun y0_0 y0_1 y0_2 y0_3 y0_4 y0_5 =>
 κ ⟨(y0_0), y0_1, y0_2, y0_3, y0_4, (y0_5)⟩)
def xbC (g : Geo) (k : Int) : T Seen := xdq g k .ret
theorem xnE {β : Type} (g : Geo) (k : Int) (κ : Seen -> T β) : (xbC g k).bind κ = xdq g k κ := by
 unfold xbC xdq
 first | rfl | simp only [bz, xfA]
def YG {β : Type} (s : Int) (κ : Int -> T β) : T β :=
 bif decide (s < 1) then (κ (0)) else
 κ (i64.wrap (i64.wrap (Int.tdiv (i64.wrap (s - 1)) 64) + 1))
def qi (s : Int) : T Int := YG s .ret
theorem xgI {β : Type} (s : Int) (κ : Int -> T β) : (qi s).bind κ = YG s κ := by
 unfold qi YG
 first | rfl | simp only [bz]
def xfC : Sm := fun
 | [.c .port, .agg gc, .c (.int .i64 k)], [] => (match xu gc with
   | some g => some (mkS (Bool) (Vb g k) fun r => some (.c (.bool r), []))
   | _ => none)
 | _, _ => none
theorem xnF : Good Tryz.prog (xo ka4) xa 0 (lsAt YB .no [1, 1, 0, 0]) (Tryz.f91.body.getD .skip) (xq Tryz.f91.results.toList) := xB (xi (by kernel_rfl)) xA xqT
variable {σ : Type} {I : Port Tryz.prog σ}
theorem xqY (hl : SoundL I ka4) : SoundF I 91 xfC := by
 refine sq hl xa Tryz.func91 fun args H t ht => ?_
 unfold xfC at ht
 split at ht
 ·rename_i gc k
  split at ht
  ·rename_i g hg
   obtain rfl := xe hg
   cases ht
   refine (xE (P := Tryz.prog) (n := xa) (x := (lsAt YB .no [1, 1, 0, 0])) (fn := Tryz.f91) (H := []) (c := Tryz.f91.body.getD .skip) (xi (by kernel_rfl)) xnF).symm.trans ?_
   refine Eq.trans ?_ (xnD g k _).symm
   kernel_rfl
  ·cases ht
 ·cases ht
def xfD : Sm := fun
 | [.c .port, .agg gc, .c (.int .i64 p)], [] => (match xu gc with
   | some g => some ⟨(List Int), xqV g p, fun r => some (listR r), fun _ κ => xdp g p κ, fun _ κ => (xcu g p κ).symm⟩
   | _ => none)
 | _, _ => none
theorem xnG : Good Tryz.prog (xo ka4) xa 0 (lsAt YC .no [1, 1, 1, 1, 0, 0]) (Tryz.f260.body.getD .skip) (xq Tryz.f260.results.toList) := xB (xi (by kernel_rfl)) xA xqU
theorem xqZ (hl : SoundL I ka4) : SoundF I 260 xfD := by
 refine sq hl xa Tryz.func260 fun args H t ht => ?_
 unfold xfD at ht
 split at ht
 ·rename_i gc p
  split at ht
  ·rename_i g hg
   obtain rfl := xe hg
   cases ht
   refine (xE (P := Tryz.prog) (n := xa) (x := (lsAt YC .no [1, 1, 1, 1, 0, 0])) (fn := Tryz.f260) (H := []) (c := Tryz.f260.body.getD .skip) (xi (by kernel_rfl)) xnG).symm.trans ?_
   refine Eq.trans ?_ (xcu g p _).symm
   kernel_rfl
  ·cases ht
 ·cases ht
def xq0 : Sm := fun
 | [.agg (.port :: gc), .c (.int .i64 p), .c (.int .i64 n)], [] => (match xu gc with
   | some g => some (mkS (Unit) (layT g p n) fun r => some (.tup [], []))
   | _ => none)
 | _, _ => none
theorem xwt (hl : SoundL I ka4) : SoundF I 152 xq0 := by
 refine sq hl 1 Tryz.func152 fun args H t ht => ?_
 unfold xq0 at ht
 split at ht
 ·rename_i gc p n
  split at ht
  ·rename_i g hg
   obtain rfl := xe hg
   cases ht
   refine Eq.trans ?_ (xux g p n _).symm
   kernel_rfl
  ·cases ht
 ·cases ht
def xku : Sm := fun
 | [.agg (.port :: gc), .c (.int .i64 k), .c (.int .i64 a)], [] => (match xu gc with
   | some g => some (mkS (Fit) (xim g k a) fun r => some (.agg r.cells, []))
   | _ => none)
 | _, _ => none
theorem xq1 : Good Tryz.prog (xo ka4) xa 0 (lsAt KW .no [1, 1, 1, 0, 1, 0]) (Tryz.f263.body.getD .skip) (xq Tryz.f263.results.toList) := xB (xi (by kernel_rfl)) xA xuy
theorem xuz (hl : SoundL I ka4) : SoundF I 263 xku := by
 refine sq hl xa Tryz.func263 fun args H t ht => ?_
 unfold xku at ht
 split at ht
 ·rename_i gc k a
  split at ht
  ·rename_i g hg
   obtain rfl := xe hg
   cases ht
   refine (xE (P := Tryz.prog) (n := xa) (x := (lsAt KW .no [1, 1, 1, 0, 1, 0])) (fn := Tryz.f263) (H := []) (c := Tryz.f263.body.getD .skip) (xi (by kernel_rfl)) xq1).symm.trans ?_
   refine Eq.trans ?_ (xqW g k a _).symm
   kernel_rfl
  ·cases ht
 ·cases ht
def xbD : Sm := fun
 | [.c .nils, .c (.int .i64 x)], [] => some (mkS (Int) (xkr x) fun r => some (.c (.int .i64 r), []))
 | _, _ => none
theorem xnH (hl : SoundL I ka4) : SoundF I 271 xbD := by
 refine sq hl 5 Tryz.func271 fun args H t ht => ?_
 unfold xbD at ht
 split at ht
 ·rename_i x
  cases ht
  refine Eq.trans ?_ (xks x _).symm
  kernel_rfl
 ·cases ht
def Vc : Sm := fun
 | [.c (.sl 0 0 1 1), .c (.int .i64 x)], [some ⟨[.int .i64 k], 3, false, none⟩] => some (mkS (Int) (Xn x k) fun r => some (.c (.int .i64 r), [some ⟨[.int .i64 k], 3, false, none⟩]))
 | _, _ => none
theorem xkv (hl : SoundL I ka4) : SoundF I 271 Vc := by
 refine sq hl 5 Tryz.func271 fun args H t ht => ?_
 unfold Vc at ht
 split at ht
 ·rename_i x k
  cases ht
  refine Eq.trans ?_ (xgH x k _).symm
  kernel_rfl
 ·cases ht
def xbE : Sm := fun
 | [.c (.sl 0 0 2 2), .c (.int .i64 x)], [some ⟨[.int .i64 k, .int .i64 j], 3, false, none⟩] => some (mkS (Int) (KY x k j) fun r => some (.c (.int .i64 r), [some ⟨[.int .i64 k, .int .i64 j], 3, false, none⟩]))
 | _, _ => none
theorem xnI (hl : SoundL I ka4) : SoundF I 271 xbE := by
 refine sq hl 5 Tryz.func271 fun args H t ht => ?_
 unfold xbE at ht
 split at ht
 ·rename_i x k j
  cases ht
  refine Eq.trans ?_ (xkt x k j _).symm
  kernel_rfl
 ·cases ht
def xfE : Sm := fun
 | [.c .port, .agg gc, .c (.int .i64 k)], [] => (match xu gc with
   | some g => some (mkS (Seen) (xbC g k) fun r => some (.agg r.cells, []))
   | _ => none)
 | _, _ => none
theorem xnJ : Good Tryz.prog (xo ka4) xa 0 (lsAt YF .no [1, 0]) (Tryz.f82.body.getD .skip) (xq Tryz.f82.results.toList) := xB (xi (by kernel_rfl)) xA xqX
theorem xq2 (hl : SoundL I ka4) : SoundF I 82 xfE := by
 refine sq hl xa Tryz.func82 fun args H t ht => ?_
 unfold xfE at ht
 split at ht
 ·rename_i gc k
  split at ht
  ·rename_i g hg
   obtain rfl := xe hg
   cases ht
   refine (xE (P := Tryz.prog) (n := xa) (x := (lsAt YF .no [1, 0])) (fn := Tryz.f82) (H := []) (c := Tryz.f82.body.getD .skip) (xi (by kernel_rfl)) xnJ).symm.trans ?_
   refine Eq.trans ?_ (xnE g k _).symm
   kernel_rfl
  ·cases ht
 ·cases ht
def Vd : Sm := fun
 | [.c (.int .i64 s)], [] => some (mkS (Int) (qi s) fun r => some (.c (.int .i64 r), []))
 | _, _ => none
theorem xkw (hl : SoundL I ka4) : SoundF I 78 Vd := by
 refine sq hl 1 Tryz.func78 fun args H t ht => ?_
 unfold Vd at ht
 split at ht
 ·rename_i s
  cases ht
  refine Eq.trans ?_ (xgI s _).symm
  kernel_rfl
 ·cases ht
def ka5 : List (Nat × Sm) := (91, xfC) :: (260, xfD) :: (152, xq0) :: (263, xku) :: (271, (orSm xbD (orSm Vc xbE))) :: (82, xfE) :: (78, Vd) :: ka4
theorem vS : SoundL I ka5 := (.cons (xqY Wh) (.cons (xqZ Wh) (.cons (xwt Wh) (.cons (xuz Wh) (.cons (SoundF.or (xnH Wh) (SoundF.or (xkv Wh) (xnI Wh))) (.cons (xq2 Wh) (.cons (xkw Wh) Wh)))))))
end Go.Proofs.YtaegelbaghaooaaGreat.Lx
