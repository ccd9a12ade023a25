/- Summaries: slab, runs. (trees printed by program, wip/auto.py) -/
import Derived.Test.YtaegelbaghaooaaGreatErQA4
import Derived.WalkKit
set_option linter.all false
open Go.IntKind (i64 u64 u32 u8)
namespace Go.Proofs.YtaegelbaghaooaaGreat.Lx
open Go
set_option maxRecDepth 1000000
def XU {β : Type} (b0 : Bool) (a1 : Int) (b2 : Bool) (g3 : Geo) (a4 : Int) (κ0 : Unit -> T β) (κ1 : Unit -> T β) (i : Unit) (k : Unit -> T β) : T β :=
 bif b2 then ((Yz g3 a4).bind fun r1 =>
 (XR r1.cls a1).bind fun r2 =>
 bif !r1.has then (κ0 ()) else
 bif !r2.2 then (κ0 ()) else
 bif bif decide (r2.1 < 0) then false else true then (bif bits BinOp.and u8     (Int.fdiv r1.map (2 ^ if Int.toNat r2.1 <= nat_lit 8 then Int.toNat r2.1 else nat_lit 8)) 1 ==   1 then (κ0 ()) else
 bif bif decide (r2.1 < 0) then false else true then ((ZU g3 a4 { map := r1.map, has := r1.has, cls := r1.cls, ver := r1.ver }   {     map :=       bits BinOp.or u8 r1.map         (u8.wrap           (1 * 2 ^ if Int.toNat r2.1 <= nat_lit 8 then Int.toNat r2.1 else nat_lit 8)),     has := r1.has, cls := r1.cls, ver := r1.ver }).bind fun r8 =>
 bif r8 then (κ1 ()) else
 k ()) else
 .fail) else
 .fail) else
 κ0 ()
def kl {β : Type} (b0 : Bool) (a1 : Int) (b2 : Bool) (g3 : Geo) (a4 : Int)  (κ0 : Unit -> T β) (κ1 : Unit -> T β) : T β := xz xd (XU b0 a1 b2 g3 a4 κ0 κ1) ()
theorem xeg {β γ : Type} (b0 : Bool) (a1 : Int) (b2 : Bool) (g3 : Geo) (a4 : Int)  (κ0 : Unit -> T β) (κ1 : Unit -> T β) (κ : β -> T γ) : (kl b0 a1 b2 g3 a4  κ0 κ1).bind κ = kl b0 a1 b2 g3 a4  (fun u => (κ0 u).bind κ) (fun u => (κ1 u).bind κ) := by
 unfold kl
 refine xn κ (fun i k => ?_) _ _
 unfold XU
 first | rfl | (simp only [xa, xb, xe, xc, T.bind_assoc])
def xeh : Pat := ⟨xu 58 0 [(6, .c (.bool)), (7, .c (.raw (.ptr 1 0))), (8, .c (.int .i64)), (9, .c (.bool))], [none, some ⟨[.raw (.port), .geo, .int .i64], 234, false, none⟩]⟩
def jf : Pat := ⟨xu 58 0 [(6, .c (.bool))], []⟩
def XV : St -> (Ex -> St -> T R) -> Option (T R) := fun st K => match xx xeh st with
 | some [.b b0, .i a1, .b b2, .g g3, .i a4] => some (kl b0 a1 b2 g3 a4  (fun _ => K (.exit 0) (xf jf [.b b0])) (fun _ => K (.ret) (xf jf [.b true])))
 | _ => none
theorem xos : ∀ st K t, XV st K = some t -> xF xd (lf ka4 xd 0 .no [1, 1, 0, 0] Tryz.f91 K) st = t := by
 intro st K t h
 unfold XV at h
 split at h
 ·rename_i b0 a1 b2 g3 a4 hm
  cases h
  rw [xp hm]
  exact cast (by kernel_rfl) (xy (F := lf ka4 xd 0 .no [1, 1, 0, 0] Tryz.f91 K) (S := fun i => xf xeh [.b b0, .i a1, .b b2, .g g3, .i a4]) (B := XU b0 a1 b2 g3 a4 (fun _ => K (.exit 0) (xf jf [.b b0])) (fun _ => K (.ret) (xf jf [.b true]))) (fun i k => by kernel_rfl) xd ())
 ·cases h
def xb9 {β : Type} (g : Geo) (k : Int) (κ : Bool -> T β) : T β :=
 bif decide (k < 0) then (κ (false)) else
 bif decide (k >= i64.wrap (g.pages * 8)) then (κ (false)) else
 kl (false) (i64.wrap (Int.tmod k 8 * 8)) (true) (g) (i64.wrap (Int.tdiv k 8)) (fun y2_0 =>
 κ (false)) (fun y2_0 =>
 κ (true))
def Wt (g : Geo) (k : Int) : T Bool := xb9 g k .ret
theorem xlw {β : Type} (g : Geo) (k : Int) (κ : Bool -> T β) : (Wt g k).bind κ = xb9 g k κ := by
 unfold Wt xb9
 first | rfl | (simp only [xa, xb, xe, xc, T.bind_assoc, xeg])
def jY {β : Type} (a0 : Int) (g2 : Geo) (a3 : Int) (κ0 : Int -> T β) (i : Int) (k : Int -> T β) : T β :=
 bif i != 0 then (.op (.cas (atF g2 9 a0) (i) (0)) fun b1 =>
 bif !b1 then (.op (.load (atF g2 9 a0)) fun x3 =>
 k x3) else
 κ0 (i)) else
 κ0 (i)
def ym {β : Type} (a0 : Int) (g2 : Geo) (a3 a1 : Int) (κ0 : Int -> T β) : T β := xz xd (jY a0 g2 a3 κ0) a1
theorem kK {β γ : Type} (a0 : Int) (g2 : Geo) (a3 a1 : Int) (κ0 : Int -> T β) (κ : β -> T γ) : (ym a0 g2 a3 a1 κ0).bind κ = ym a0 g2 a3 a1 (fun ae0 => (κ0 ae0).bind κ) := by
 unfold ym
 refine xn κ (fun i k => ?_) _ _
 unfold jY
 first | rfl | (simp only [xa, xb, xe, xc, T.bind_assoc])
def xei : Pat := ⟨xu 84 0 [(2, .c (.int .i64)), (6, .c (.raw (.nils))), (7, .c (.raw (.ptr 1 0))), (8, .c (.int .u64))], [none, some ⟨[.raw (.port), .geo, .int .i64], 234, false, none⟩]⟩
def xbm : Pat := ⟨xu 84 0 [(6, .c (.raw (.nils))), (7, .c (.raw (.ptr 1 0))), (8, .c (.int .u64))], [none, some ⟨[.raw (.port), .geo, .int .i64], 234, false, none⟩]⟩
def XW : St -> (Ex -> St -> T R) -> Option (T R) := fun st K => match xx xei st with
 | some [.i a0, .i a1, .g g2, .i a3] => some (ym a0 g2 a3 a1 (fun ae0 => K (.exit 0) (xf xbm [.i ae0, .g g2, .i a3])))
 | _ => none
theorem xot : ∀ st K t, XW st K = some t -> xF xd (lf ka4 xd 0 .no [1, 1, 1, 1, 0, 0] Tryz.f260 K) st = t := by
 intro st K t h
 unfold XW at h
 split at h
 ·rename_i a0 a1 g2 a3 hm
  cases h
  rw [xp hm]
  exact cast (by kernel_rfl) (xy (F := lf ka4 xd 0 .no [1, 1, 1, 1, 0, 0] Tryz.f260 K) (S := fun i => xf xei [.i a0, .i i, .g g2, .i a3]) (B := jY a0 g2 a3 (fun ae0 => K (.exit 0) (xf xbm [.i ae0, .g g2, .i a3]))) (fun i k => by kernel_rfl) xd a1)
 ·cases h
def xca {β : Type} (g : Geo) (p : Int) (κ : (List Int) -> T β) : T β :=
 (isT g p 0).bind fun r0 =>
 bif !r0 then (κ []) else
 .op (.load (atF g 9 p)) fun x2 =>
 ym (p) (g) (p) x2 (fun y3_0 =>
 bif y3_0 != 0 then (.op (.load (atF g 10 (i64.wrap (i64.wrap y3_0 - 1)))) fun x5 =>
 bif x5 != 0 then (.op (.load (atF g 10 (i64.wrap (i64.wrap x5 - 1)))) fun x7 =>
 bif x7 != 0 then (.op (.load (atF g 10 (i64.wrap (i64.wrap x7 - 1)))) fun x9 =>
 bif x9 != 0 then (.op (.load (atF g 10 (i64.wrap (i64.wrap x9 - 1)))) fun x11 =>
 bif x11 != 0 then (.op (.load (atF g 10 (i64.wrap (i64.wrap x11 - 1)))) fun x13 =>
 bif x13 != 0 then (.op (.load (atF g 10 (i64.wrap (i64.wrap x13 - 1)))) fun x15 =>
 bif x15 != 0 then (.op (.load (atF g 10 (i64.wrap (i64.wrap x15 - 1)))) fun x17 =>
 bif x17 != 0 then (.op (.load (atF g 10 (i64.wrap (i64.wrap x17 - 1)))) fun x19 =>
 bif x19 != 0 then (κ [(i64.wrap (i64.wrap y3_0 - 1)), (i64.wrap (i64.wrap x5 - 1)), (i64.wrap (i64.wrap x7 - 1)), (i64.wrap (i64.wrap x9 - 1)), (i64.wrap (i64.wrap x11 - 1)), (i64.wrap (i64.wrap x13 - 1)), (i64.wrap (i64.wrap x15 - 1)), (i64.wrap (i64.wrap x17 - 1))]) else
 κ [(i64.wrap (i64.wrap y3_0 - 1)), (i64.wrap (i64.wrap x5 - 1)), (i64.wrap (i64.wrap x7 - 1)), (i64.wrap (i64.wrap x9 - 1)), (i64.wrap (i64.wrap x11 - 1)), (i64.wrap (i64.wrap x13 - 1)), (i64.wrap (i64.wrap x15 - 1)), (i64.wrap (i64.wrap x17 - 1))]) else
 κ [(i64.wrap (i64.wrap y3_0 - 1)), (i64.wrap (i64.wrap x5 - 1)), (i64.wrap (i64.wrap x7 - 1)), (i64.wrap (i64.wrap x9 - 1)), (i64.wrap (i64.wrap x11 - 1)), (i64.wrap (i64.wrap x13 - 1)), (i64.wrap (i64.wrap x15 - 1))]) else
 κ [(i64.wrap (i64.wrap y3_0 - 1)), (i64.wrap (i64.wrap x5 - 1)), (i64.wrap (i64.wrap x7 - 1)), (i64.wrap (i64.wrap x9 - 1)), (i64.wrap (i64.wrap x11 - 1)), (i64.wrap (i64.wrap x13 - 1))]) else
 κ [(i64.wrap (i64.wrap y3_0 - 1)), (i64.wrap (i64.wrap x5 - 1)), (i64.wrap (i64.wrap x7 - 1)), (i64.wrap (i64.wrap x9 - 1)), (i64.wrap (i64.wrap x11 - 1))]) else
 κ [(i64.wrap (i64.wrap y3_0 - 1)), (i64.wrap (i64.wrap x5 - 1)), (i64.wrap (i64.wrap x7 - 1)), (i64.wrap (i64.wrap x9 - 1))]) else
 κ [(i64.wrap (i64.wrap y3_0 - 1)), (i64.wrap (i64.wrap x5 - 1)), (i64.wrap (i64.wrap x7 - 1))]) else
 κ [(i64.wrap (i64.wrap y3_0 - 1)), (i64.wrap (i64.wrap x5 - 1))]) else
 κ [(i64.wrap (i64.wrap y3_0 - 1))]) else
 κ [])
def xou (g : Geo) (p : Int) : T (List Int) := xca g p .ret
theorem xbn {β : Type} (g : Geo) (p : Int) (κ : (List Int) -> T β) : (xou g p).bind κ = xca g p κ := by
 unfold xou xca
 first | rfl | (simp only [xa, xb, xe, xc, T.bind_assoc, kK])
def xpH {β : Type} (g : Geo) (p n : Int) (κ : Unit -> T β) : T β :=
 bif n == 0 then (κ ()) else
 bif decide (n > 1) then ((ja g (i64.wrap (i64.wrap (p + n) - 1)) 2 n).bind fun r2 =>
 (ja g p 1 n).bind fun r3 =>
 (vS g n false).bind fun r4 =>
 κ ()) else
 (ja g p 1 n).bind fun r2 =>
 (vS g n false).bind fun r3 =>
 κ ()
def layT (g : Geo) (p n : Int) : T Unit := xpH g p n .ret
theorem xrC {β : Type} (g : Geo) (p n : Int) (κ : Unit -> T β) : (layT g p n).bind κ = xpH g p n κ := by
 unfold layT xpH
 first | rfl | (simp only [xa, xb, xe, xc, T.bind_assoc])
def VZ {β : Type} (a0 a1 : Int) (g3 : Geo) (a4 a5 a6 : Int) (κ0 : Int -> Int -> Int -> T β) (i : Int × Int × Int × Int) (k : Int × Int × Int × Int -> T β) : T β :=
 bif decide (i.1 < g3.pages) then ((Yy g3 i.1).bind fun r1 =>
 bif bif a1 == 0 then false else true then (bif r1.kind == 1 then (bif decide   (i64.wrap       (i64.wrap           (i64.wrap               (Int.tdiv (i64.wrap (i64.wrap (i.1 + a1) - 1)) a1) *             a1) +         a0) <=     i64.wrap (i.1 + r1.len)) then (bif i.2.2.1 == 0 then ((vQ { kind := r1.kind, len := r1.len, cls := r1.cls, owner := r1.owner }).bind fun r6 =>
 k (i64.wrap (i.1 + r6), i.1, r1.len, i64.wrap   (i64.wrap (Int.tdiv (i64.wrap (i64.wrap (i.1 + a1) - 1)) a1) *     a1))) else
 bif decide (r1.len < i.2.2.1) then ((vQ { kind := r1.kind, len := r1.len, cls := r1.cls, owner := r1.owner }).bind fun r7 =>
 k (i64.wrap (i.1 + r7), i.1, r1.len, i64.wrap   (i64.wrap (Int.tdiv (i64.wrap (i64.wrap (i.1 + a1) - 1)) a1) *     a1))) else
 (vQ { kind := r1.kind, len := r1.len, cls := r1.cls, owner := r1.owner }).bind fun r7 =>
 k (i64.wrap (i.1 + r7), i.2.1, i.2.2.1, i.2.2.2)) else
 (vQ { kind := r1.kind, len := r1.len, cls := r1.cls, owner := r1.owner }).bind fun r5 =>
 k (i64.wrap (i.1 + r5), i.2.1, i.2.2.1, i.2.2.2)) else
 (vQ { kind := r1.kind, len := r1.len, cls := r1.cls, owner := r1.owner }).bind fun r4 =>
 k (i64.wrap (i.1 + r4), i.2.1, i.2.2.1, i.2.2.2)) else
 .fail) else
 κ0 (i.2.1) (i.2.2.1) (i.2.2.2)
def jZ {β : Type} (a0 a1 : Int) (g3 : Geo) (a4 a5 a6 a2 a7 a8 a9 : Int) (κ0 : Int -> Int -> Int -> T β) : T β := xz xd (VZ a0 a1 g3 a4 a5 a6 κ0) (a2, a7, a8, a9)
theorem xfh {β γ : Type} (a0 a1 : Int) (g3 : Geo) (a4 a5 a6 a2 a7 a8 a9 : Int) (κ0 : Int -> Int -> Int -> T β) (κ : β -> T γ) : (jZ a0 a1 g3 a4 a5 a6 a2 a7 a8 a9 κ0).bind κ = jZ a0 a1 g3 a4 a5 a6 a2 a7 a8 a9 (fun ae3 ae4 ae5 => (κ0 ae3 ae4 ae5).bind κ) := by
 unfold jZ
 refine xn κ (fun i k => ?_) _ _
 unfold VZ
 first | rfl | (simp only [xa, xb, xe, xc, T.bind_assoc])
def xgH : Pat := ⟨xu 67 0 [(1, .c (.int .i64)), (2, .c (.int .i64)), (3, .c (.raw (.ptr 0 0))), (6, .c (.raw (.ptr 1 0))), (7, .c (.raw (.ptr 2 0))), (8, .c (.int .i64))], [some ⟨[.raw (.port), .geo], 212, false, none⟩, some ⟨[.int .i64, .int .i64, .int .i64], 296, false, none⟩, some ⟨[.int .i64, .int .i64, .int .i64], 296, false, none⟩]⟩
def xej : Pat := ⟨xu 67 0 [(6, .c (.raw (.ptr 1 0))), (7, .c (.raw (.ptr 2 0)))], [none, some ⟨[.int .i64, .int .i64, .int .i64], 296, false, none⟩, some ⟨[.int .i64, .int .i64, .int .i64], 296, false, none⟩]⟩
def Ka : St -> (Ex -> St -> T R) -> Option (T R) := fun st K => match xx xgH st with
 | some [.i a0, .i a1, .i a2, .g g3, .i a4, .i a5, .i a6, .i a7, .i a8, .i a9] => some (jZ a0 a1 g3 a4 a5 a6 a2 a7 a8 a9 (fun ae3 ae4 ae5 => K (.exit 0) (xf xej [.i a4, .i a5, .i a6, .i ae3, .i ae4, .i ae5])))
 | _ => none
theorem xrD : ∀ st K t, Ka st K = some t -> xF xd (lf ka4 xd 0 .no [1, 1, 1, 0, 1, 0] Tryz.f263 K) st = t := by
 intro st K t h
 unfold Ka at h
 split at h
 ·rename_i a0 a1 a2 g3 a4 a5 a6 a7 a8 a9 hm
  cases h
  rw [xp hm]
  exact cast (by kernel_rfl) (xy (F := lf ka4 xd 0 .no [1, 1, 1, 0, 1, 0] Tryz.f263 K) (S := fun i => xf xgH [.i a0, .i a1, .i (i.1), .g g3, .i a4, .i a5, .i a6, .i (i.2.1), .i (i.2.2.1), .i (i.2.2.2)]) (B := VZ a0 a1 g3 a4 a5 a6 (fun ae3 ae4 ae5 => K (.exit 0) (xf xej [.i a4, .i a5, .i a6, .i ae3, .i ae4, .i ae5]))) (fun i k => by kernel_rfl) xd (a2, a7, a8, a9))
 ·cases h
def xiA {β : Type} (g : Geo) (k a : Int) (κ : Fit -> T β) : T β :=
 (anyT g k).bind fun r0 =>
 bif !r0 then (κ ⟨(0), (0), (0)⟩) else
 jZ (k) (a) (g) (0) (0) (0) (0) (0) (0) (0) (fun y2_0 y2_1 y2_2 =>
 κ ⟨(y2_0), y2_1, (y2_2)⟩)
def xgI (g : Geo) (k a : Int) : T Fit := xiA g k a .ret
theorem xov {β : Type} (g : Geo) (k a : Int) (κ : Fit -> T β) : (xgI g k a).bind κ = xiA g k a κ := by
 unfold xgI xiA
 first | rfl | (simp only [xa, xb, xe, xc, T.bind_assoc, xfh])
def xek {β : Type} (x : Int) (κ : Int -> T β) : T β :=
 κ (-1)
def xiB (x : Int) : T Int := xek x .ret
theorem xiC {β : Type} (x : Int) (κ : Int -> T β) : (xiB x).bind κ = xek x κ := by
 unfold xiB xek
 first | rfl | (simp only [xa, xb, xe, xc, T.bind_assoc])
def XX {β : Type} (x k : Int) (κ : Int -> T β) : T β :=
 bif x == k then (κ (0)) else
 κ (-1)
def ZX (x k : Int) : T Int := XX x k .ret
theorem xfi {β : Type} (x k : Int) (κ : Int -> T β) : (ZX x k).bind κ = XX x k κ := by
 unfold ZX XX
 first | rfl | (simp only [xa, xb, xe, xc, T.bind_assoc])
def xel {β : Type} (x k j : Int) (κ : Int -> T β) : T β :=
 bif x == k then (κ (0)) else
 bif x == j then (κ (1)) else
 κ (-1)
def xcb (x k j : Int) : T Int := xel x k j .ret
theorem xiD {β : Type} (x k j : Int) (κ : Int -> T β) : (xcb x k j).bind κ = xel x k j κ := by
 unfold xcb xel
 first | rfl | (simp only [xa, xb, xe, xc, T.bind_assoc])
def XY {β : Type} (a0 : Int) (g1 : Geo) (a2 a3 a4 a5 : Int) (b6 : Bool) (a7 : Int) (κ0 : Int -> Int -> Int -> Int -> Bool -> Int -> T β) (i : Unit) (k : Unit -> T β) : T β :=
 (xbl g1 a0).bind fun r0 =>
 bif !r0.live then (κ0 (r0.kind) (r0.size) (r0.other) (r0.ver) (r0.live) (r0.lin)) else
 .op (.cas (atF g1 11 a0) (Stt.word { kind := r0.kind, size := r0.size, other := r0.other, ver := r0.ver }) (0)) fun b2 =>
 bif b2 then (.op (.steps ) fun x4 =>
 κ0 (r0.kind) (r0.size) (r0.other) (r0.ver) (r0.live) x4) else
 k ()
def km {β : Type} (a0 : Int) (g1 : Geo) (a2 a3 a4 a5 : Int) (b6 : Bool) (a7 : Int)  (κ0 : Int -> Int -> Int -> Int -> Bool -> Int -> T β) : T β := xz xd (XY a0 g1 a2 a3 a4 a5 b6 a7 κ0) ()
theorem xem {β γ : Type} (a0 : Int) (g1 : Geo) (a2 a3 a4 a5 : Int) (b6 : Bool) (a7 : Int)  (κ0 : Int -> Int -> Int -> Int -> Bool -> Int -> T β) (κ : β -> T γ) : (km a0 g1 a2 a3 a4 a5 b6 a7  κ0).bind κ = km a0 g1 a2 a3 a4 a5 b6 a7  (fun ae0 ae1 ae2 ae3 be4 ae5 => (κ0 ae0 ae1 ae2 ae3 be4 ae5).bind κ) := by
 unfold km
 refine xn κ (fun i k => ?_) _ _
 unfold XY
 first | rfl | (simp only [xa, xb, xe, xc, T.bind_assoc])
def xen : Pat := ⟨xu 31 0 [(0, .c (.raw (.port))), (2, .c (.int .i64)), (4, .c (.raw (.ptr 0 0))), (6, .c (.raw (.ptr 1 0)))], [some ⟨[.geo], 24, false, none⟩, some ⟨[.int .i64, .int .i64, .int .i64, .int .u32, .bool, .int .i64], 145, false, none⟩]⟩
def xbo : Pat := ⟨xu 31 0 [(6, .c (.raw (.ptr 1 0)))], [none, some ⟨[.int .i64, .int .i64, .int .i64, .int .u32, .bool, .int .i64], 145, false, none⟩]⟩
def XZ : St -> (Ex -> St -> T R) -> Option (T R) := fun st K => match xx xen st with
 | some [.i a0, .g g1, .i a2, .i a3, .i a4, .i a5, .b b6, .i a7] => some (km a0 g1 a2 a3 a4 a5 b6 a7  (fun ae0 ae1 ae2 ae3 be4 ae5 => K (.ret) (xf xbo [.i ae0, .i ae1, .i ae2, .i ae3, .b be4, .i ae5])))
 | _ => none
theorem xow : ∀ st K t, XZ st K = some t -> xF xd (lf ka4 xd 0 .no [1, 0] Tryz.f82 K) st = t := by
 intro st K t h
 unfold XZ at h
 split at h
 ·rename_i a0 g1 a2 a3 a4 a5 b6 a7 hm
  cases h
  rw [xp hm]
  exact cast (by kernel_rfl) (xy (F := lf ka4 xd 0 .no [1, 0] Tryz.f82 K) (S := fun i => xf xen [.i a0, .g g1, .i a2, .i a3, .i a4, .i a5, .b b6, .i a7]) (B := XY a0 g1 a2 a3 a4 a5 b6 a7 (fun ae0 ae1 ae2 ae3 be4 ae5 => K (.ret) (xf xbo [.i ae0, .i ae1, .i ae2, .i ae3, .b be4, .i ae5]))) (fun i k => by kernel_rfl) xd ())
 ·cases h
def xcc {β : Type} (g : Geo) (k : Int) (κ : Seen -> T β) : T β :=
 km (k) (g) (0) (0) (0) (0) (false) (0) (fun y0_0 y0_1 y0_2 y0_3 y0_4 y0_5 =>
 κ ⟨(y0_0), y0_1, y0_2, y0_3, y0_4, (y0_5)⟩)
def xaE (g : Geo) (k : Int) : T Seen := xcc g k .ret
theorem xlx {β : Type} (g : Geo) (k : Int) (κ : Seen -> T β) : (xaE g k).bind κ = xcc g k κ := by
 unfold xaE xcc
 first | rfl | (simp only [xa, xb, xe, xc, T.bind_assoc, xem])
def Ya {β : Type} (s : Int) (κ : Int -> T β) : T β :=
 bif decide (s < 1) then (κ (0)) else
 κ (i64.wrap (i64.wrap (Int.tdiv (i64.wrap (s - 1)) 64) + 1))
def qa (s : Int) : T Int := Ya s .ret
theorem xfj {β : Type} (s : Int) (κ : Int -> T β) : (qa s).bind κ = Ya s κ := by
 unfold qa Ya
 first | rfl | (simp only [xa, xb, xe, xc, T.bind_assoc])
def xeo : Sm := fun args H => match args, H with
 | [.c .port, .agg gc, .c (.int .i64 k)], [] => (match xr gc with
   | some g => some (mkS (Bool) (Wt g k) fun r => some (.c (.bool r), []))
   | _ => none)
 | _, _ => none
theorem xly : Good Tryz.prog (xw ka4) xd 0 (lsAt XV .no [1, 1, 0, 0]) (Tryz.f91.body.getD .skip) (xC Tryz.f91.results.toList) := xL (xo (by kernel_rfl)) xK xos
variable {σ : Type} {I : Port Tryz.prog σ}
theorem xox (hl : SoundL I ka4) : SoundF I 91 xeo := by
 refine sq hl xd Tryz.func91 fun args H t ht => ?_
 unfold xeo at ht
 split at ht
 ·rename_i gc k
  split at ht
  ·rename_i g hg
   obtain rfl := xi hg
   cases ht
   refine (xP (P := Tryz.prog) (n := xd) (x := (lsAt XV .no [1, 1, 0, 0])) (fn := Tryz.f91) (H := []) (c := Tryz.f91.body.getD .skip) (xo (by kernel_rfl)) xly).symm.trans ?_
   refine Eq.trans ?_ (xlw g k _).symm
   kernel_rfl
  ·cases ht
 ·cases ht
def xep : Sm := fun args H => match args, H with
 | [.c .port, .agg gc, .c (.int .i64 p)], [] => (match xr gc with
   | some g => some ⟨(List Int), xou g p, fun r => some (listR r), fun _ κ => xca g p κ, fun _ κ => (xbn g p κ).symm⟩
   | _ => none)
 | _, _ => none
theorem xlz : Good Tryz.prog (xw ka4) xd 0 (lsAt XW .no [1, 1, 1, 1, 0, 0]) (Tryz.f260.body.getD .skip) (xC Tryz.f260.results.toList) := xL (xo (by kernel_rfl)) xK xot
theorem xoy (hl : SoundL I ka4) : SoundF I 260 xep := by
 refine sq hl xd Tryz.func260 fun args H t ht => ?_
 unfold xep at ht
 split at ht
 ·rename_i gc p
  split at ht
  ·rename_i g hg
   obtain rfl := xi hg
   cases ht
   refine (xP (P := Tryz.prog) (n := xd) (x := (lsAt XW .no [1, 1, 1, 1, 0, 0])) (fn := Tryz.f260) (H := []) (c := Tryz.f260.body.getD .skip) (xo (by kernel_rfl)) xlz).symm.trans ?_
   refine Eq.trans ?_ (xbn g p _).symm
   kernel_rfl
  ·cases ht
 ·cases ht
def xoz : Sm := fun args H => match args, H with
 | [.agg (.port :: gc), .c (.int .i64 p), .c (.int .i64 n)], [] => (match xr gc with
   | some g => some (mkS (Unit) (layT g p n) fun r => some (.tup [], []))
   | _ => none)
 | _, _ => none
theorem xti (hl : SoundL I ka4) : SoundF I 152 xoz := by
 refine sq hl 1 Tryz.func152 fun args H t ht => ?_
 unfold xoz at ht
 split at ht
 ·rename_i gc p n
  split at ht
  ·rename_i g hg
   obtain rfl := xi hg
   cases ht
   refine Eq.trans ?_ (xrC g p n _).symm
   kernel_rfl
  ·cases ht
 ·cases ht
def xiE : Sm := fun args H => match args, H with
 | [.agg (.port :: gc), .c (.int .i64 k), .c (.int .i64 a)], [] => (match xr gc with
   | some g => some (mkS (Fit) (xgI g k a) fun r => some (.agg r.cells, []))
   | _ => none)
 | _, _ => none
theorem xoA : Good Tryz.prog (xw ka4) xd 0 (lsAt Ka .no [1, 1, 1, 0, 1, 0]) (Tryz.f263.body.getD .skip) (xC Tryz.f263.results.toList) := xL (xo (by kernel_rfl)) xK xrD
theorem xrE (hl : SoundL I ka4) : SoundF I 263 xiE := by
 refine sq hl xd Tryz.func263 fun args H t ht => ?_
 unfold xiE at ht
 split at ht
 ·rename_i gc k a
  split at ht
  ·rename_i g hg
   obtain rfl := xi hg
   cases ht
   refine (xP (P := Tryz.prog) (n := xd) (x := (lsAt Ka .no [1, 1, 1, 0, 1, 0])) (fn := Tryz.f263) (H := []) (c := Tryz.f263.body.getD .skip) (xo (by kernel_rfl)) xoA).symm.trans ?_
   refine Eq.trans ?_ (xov g k a _).symm
   kernel_rfl
  ·cases ht
 ·cases ht
def xaF : Sm := fun args H => match args, H with
 | [.c .nils, .c (.int .i64 x)], [] => some (mkS (Int) (xiB x) fun r => some (.c (.int .i64 r), []))
 | _, _ => none
theorem xlA (hl : SoundL I ka4) : SoundF I 271 xaF := by
 refine sq hl 5 Tryz.func271 fun args H t ht => ?_
 unfold xaF at ht
 split at ht
 ·rename_i x
  cases ht
  refine Eq.trans ?_ (xiC x _).symm
  kernel_rfl
 ·cases ht
def Wu : Sm := fun args H => match args, H with
 | [.c (.sl 0 0 1 1), .c (.int .i64 x)], [some ⟨[.int .i64 k], 3, false, none⟩] => some (mkS (Int) (ZX x k) fun r => some (.c (.int .i64 r), [some ⟨[.int .i64 k], 3, false, none⟩]))
 | _, _ => none
theorem xiF (hl : SoundL I ka4) : SoundF I 271 Wu := by
 refine sq hl 5 Tryz.func271 fun args H t ht => ?_
 unfold Wu at ht
 split at ht
 ·rename_i x k
  cases ht
  refine Eq.trans ?_ (xfi x k _).symm
  kernel_rfl
 ·cases ht
def xaG : Sm := fun args H => match args, H with
 | [.c (.sl 0 0 2 2), .c (.int .i64 x)], [some ⟨[.int .i64 k, .int .i64 j], 3, false, none⟩] => some (mkS (Int) (xcb x k j) fun r => some (.c (.int .i64 r), [some ⟨[.int .i64 k, .int .i64 j], 3, false, none⟩]))
 | _, _ => none
theorem xlB (hl : SoundL I ka4) : SoundF I 271 xaG := by
 refine sq hl 5 Tryz.func271 fun args H t ht => ?_
 unfold xaG at ht
 split at ht
 ·rename_i x k j
  cases ht
  refine Eq.trans ?_ (xiD x k j _).symm
  kernel_rfl
 ·cases ht
def xeq : Sm := fun args H => match args, H with
 | [.c .port, .agg gc, .c (.int .i64 k)], [] => (match xr gc with
   | some g => some (mkS (Seen) (xaE g k) fun r => some (.agg r.cells, []))
   | _ => none)
 | _, _ => none
theorem xlC : Good Tryz.prog (xw ka4) xd 0 (lsAt XZ .no [1, 0]) (Tryz.f82.body.getD .skip) (xC Tryz.f82.results.toList) := xL (xo (by kernel_rfl)) xK xow
theorem xoB (hl : SoundL I ka4) : SoundF I 82 xeq := by
 refine sq hl xd Tryz.func82 fun args H t ht => ?_
 unfold xeq at ht
 split at ht
 ·rename_i gc k
  split at ht
  ·rename_i g hg
   obtain rfl := xi hg
   cases ht
   refine (xP (P := Tryz.prog) (n := xd) (x := (lsAt XZ .no [1, 0])) (fn := Tryz.f82) (H := []) (c := Tryz.f82.body.getD .skip) (xo (by kernel_rfl)) xlC).symm.trans ?_
   refine Eq.trans ?_ (xlx g k _).symm
   kernel_rfl
  ·cases ht
 ·cases ht
def Wv : Sm := fun args H => match args, H with
 | [.c (.int .i64 s)], [] => some (mkS (Int) (qa s) fun r => some (.c (.int .i64 r), []))
 | _, _ => none
theorem xiG (hl : SoundL I ka4) : SoundF I 78 Wv := by
 refine sq hl 1 Tryz.func78 fun args H t ht => ?_
 unfold Wv at ht
 split at ht
 ·rename_i s
  cases ht
  refine Eq.trans ?_ (xfj s _).symm
  kernel_rfl
 ·cases ht
def ka5 : List (Nat × Sm) := (91, xeo) :: (260, xep) :: (152, xoz) :: (263, xiE) :: (271, (orSm xaF (orSm Wu xaG))) :: (82, xeq) :: (78, Wv) :: ka4
theorem qb : SoundL I ka5 := (.cons (xox YB) (.cons (xoy YB) (.cons (xti YB) (.cons (xrE YB) (.cons (SoundF.or (xlA YB) (SoundF.or (xiF YB) (xlB YB))) (.cons (xoB YB) (.cons (xiG YB) YB)))))))
end Go.Proofs.YtaegelbaghaooaaGreat.Lx
