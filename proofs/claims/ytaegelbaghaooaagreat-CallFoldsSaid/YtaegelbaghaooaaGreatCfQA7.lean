/- Part. -/
import Derived.Test.YtaegelbaghaooaaGreatCfQA6
set_option linter.all false
open Go.IntKind (i64 u64 u32 u8)
namespace Go.Proofs.YtaegelbaghaooaaGreat.Lx
open Go
set_option maxRecDepth 1000000
def yr {β : Type} (a0 : Int) (g3 g4 : Geo) (κ0 : Int -> T β) (i : Int × Int) (k : Int × Int -> T β) : T β :=
 bif decide (i.2 < g3.pages) then ((We g4 i.2).bind fun r1 =>
 bif r1.kind == 5 then ((Ve g3 i.2 r1.len).bind fun r3 =>
 bif r3 then ((vJ { kind := r1.kind, len := r1.len, cls := r1.cls, owner := r1.owner }).bind fun r5 =>
 k (i64.wrap (i.1 + 1), i64.wrap (i.2 + r5))) else
 (vJ { kind := r1.kind, len := r1.len, cls := r1.cls, owner := r1.owner }).bind fun r5 =>
 k (i.1, i64.wrap (i.2 + r5))) else
 (vJ { kind := r1.kind, len := r1.len, cls := r1.cls, owner := r1.owner }).bind fun r3 =>
 k (i.1, i64.wrap (i.2 + r3))) else
 κ0 (i.1)
def va {β : Type} (a0 : Int) (g3 g4 : Geo) (a1 a2 : Int) (κ0 : Int -> T β) : T β := xr xa (yr a0 g3 g4 κ0) (a1, a2)
theorem xbK {β γ : Type} (a0 : Int) (g3 g4 : Geo) (a1 a2 : Int) (κ0 : Int -> T β) (κ : β -> T γ) : (va a0 g3 g4 a1 a2 κ0).bind κ = va a0 g3 g4 a1 a2 (fun ae1 => (κ0 ae1).bind κ) := by
 unfold va
 refine xj κ (fun i k => ?_) _ _
 unfold yr
 first | rfl | simp only [bz]
def xaf : Pat := ⟨xm 37 0 [(0, .c (.raw (.port))), (3, .c (.raw (.ptr 0 0))), (4, .c (.int .i64)), (5, .c (.raw (.ptr 1 0))), (6, .c (.int .i64)), (7, .c (.int .i64))], [some ⟨[.geo], 24, false, none⟩, some ⟨[.raw (.port), .geo], 212, false, none⟩]⟩
def Wk : Pat := ⟨xm 37 0 [(4, .c (.int .i64)), (6, .c (.int .i64))], []⟩
def jo : LF := fun st K => match xt xaf st with
 | some [.i a0, .i a1, .i a2, .g g3, .g g4] => some (va a0 g3 g4 a1 a2 (fun ae1 => K (.exit 0) (xc Wk [.i a0, .i ae1])))
 | _ => none
theorem xkF : ∀ st K t, jo st K = some t -> xz xa (lf ka6 xa 0 .no [1, 1, 1, 0, 1, 0] Tryz.f170 K) st = t := by
 intro st K t h
 unfold jo at h
 split at h
 ·rename_i a0 a1 a2 g3 g4 hm
  cases h
  rw [xk hm]
  exact cast (by kernel_rfl) (xv (F := lf ka6 xa 0 .no [1, 1, 1, 0, 1, 0] Tryz.f170 K) (S := fun i => xc xaf [.i a0, .i (i.1), .i (i.2), .g g3, .g g4]) (B := yr a0 g3 g4 (fun ae1 => K (.exit 0) (xc Wk [.i a0, .i ae1]))) (fun i k => by kernel_rfl) xa (a1, a2))
 ·cases h
def qj {β : Type} (g : Geo) (κ : Int -> T β) : T β :=
 va (0) (g) (g) (0) (0) (fun y0_0 =>
 κ y0_0)
def vk (g : Geo) : T Int := qj g .ret
theorem xgJ {β : Type} (g : Geo) (κ : Int -> T β) : (vk g).bind κ = qj g κ := by
 unfold vk qj
 first | rfl | simp only [bz, xbK]
def YI {β : Type} (g : Geo) (p : Int) (κ : Bool -> T β) : T β :=
 (isT g p 0).bind fun r0 =>
 bif !r0 then (κ (false)) else
 (Wf g p).bind fun r2 =>
 bif !r2.has then (κ (false)) else
 bif decide (r2.cls >= 4) then (κ (false)) else
 bif decide (0 <= r2.cls /\ r2.cls < 4) then ((xcs (Bt.mk r2.map r2.has r2.cls r2.ver) (bif r2.cls == 0 then (8 : Int) else bif r2.cls == 0 + 1 then (4 : Int) else bif r2.cls == 0 + 1 + 1 then (2 : Int) else (2 : Int))).bind fun r6 =>
 bif !r6 then (κ (false)) else
 (Xj g p (Bt.mk r2.map r2.has r2.cls r2.ver) (Bt.mk 0 false 0 (u32.wrap (r2.ver + 1)))).bind fun r8 =>
 bif r8 then ((Ve g p 1).bind fun r10 =>
 κ r10) else
 κ (false)) else
 .fail
def kS (g : Geo) (p : Int) : T Bool := YI g p .ret
theorem xgK {β : Type} (g : Geo) (p : Int) (κ : Bool -> T β) : (kS g p).bind κ = YI g p κ := by
 unfold kS YI
 first | rfl | simp only [bz]
def Xr {β : Type} (g : Geo) (κ : Bool -> T β) : T β :=
 bif g.pages == 0 then (κ (true)) else
 κ (decide ((-1) >= 0))
def wM (g : Geo) : T Bool := Xr g .ret
theorem xkG {β : Type} (g : Geo) (κ : Bool -> T β) : (wM g).bind κ = Xr g κ := by
 unfold wM Xr
 first | rfl | simp only [bz]
def xag {β : Type} (g : Geo) (k : Int) (κ : Bool -> T β) : T β :=
 bif g.pages == 0 then (κ (true)) else
 (xfF (-1) k).bind fun r1 =>
 κ r1
def wO (g : Geo) (k : Int) : T Bool := xag g k .ret
theorem xkH {β : Type} (g : Geo) (k : Int) (κ : Bool -> T β) : (wO g k).bind κ = xag g k κ := by
 unfold wO xag
 first | rfl | simp only [bz]
def xah {β : Type} (g : Geo) (k j : Int) (κ : Bool -> T β) : T β :=
 bif g.pages == 0 then (κ (true)) else
 (xfG (-1) k j).bind fun r1 =>
 κ r1
def YJ (g : Geo) (k j : Int) : T Bool := xah g k j .ret
theorem xkI {β : Type} (g : Geo) (k j : Int) (κ : Bool -> T β) : (YJ g k j).bind κ = xah g k j κ := by
 unfold YJ xah
 first | rfl | simp only [bz]
def xkJ {β : Type} (g : Geo) (o k : Int) (κ : (Unit × Int) -> T β) : T β :=
 (Vb g k).bind fun r0 =>
 (yC g o 1).bind fun r1 =>
 κ ((), (r1.2))
def xf (g : Geo) (o k : Int) : T (Unit × Int) := xkJ g o k .ret
theorem xrf {β : Type} (g : Geo) (o k : Int) (κ : (Unit × Int) -> T β) : (xf g o k).bind κ = xkJ g o k κ := by
 unfold xf xkJ
 first | rfl | simp only [bz]
def YK {β : Type} (a0 a1 : Int) (g3 : Geo) (a5 : Int) (b6 : Bool) (a7 : Int) (κ0 : Int -> Int -> T β) (κ1 : Int -> T β) (i : Int × Int) (k : Int × Int -> T β) : T β :=
 bif decide (i.1 < a1) then ((hofT g3 i.2 i.1 a0).bind fun r1 =>
 bif !r1.1 then (k (i64.wrap (i.1 + 1), r1.2)) else
 (xbz g3 i.1 a0).bind fun r3 =>
 bif r3.2 then (κ0 (r1.2) (r3.1)) else
 k (i64.wrap (i.1 + 1), r1.2)) else
 κ1 (i.2)
def kx {β : Type} (a0 a1 : Int) (g3 : Geo) (a5 : Int) (b6 : Bool) (a7 a2 a4 : Int) (κ0 : Int -> Int -> T β) (κ1 : Int -> T β) : T β := xr xa (YK a0 a1 g3 a5 b6 a7 κ0 κ1) (a2, a4)
theorem xfR {β γ : Type} (a0 a1 : Int) (g3 : Geo) (a5 : Int) (b6 : Bool) (a7 a2 a4 : Int) (κ0 : Int -> Int -> T β) (κ1 : Int -> T β) (κ : β -> T γ) : (kx a0 a1 g3 a5 b6 a7 a2 a4 κ0 κ1).bind κ = kx a0 a1 g3 a5 b6 a7 a2 a4 (fun ae1 ae2 => (κ0 ae1 ae2).bind κ) (fun ae1 => (κ1 ae1).bind κ) := by
 unfold kx
 refine xj κ (fun i k => ?_) _ _
 unfold YK
 first | rfl | simp only [bz]
def xfS : Pat := ⟨xm 40 0 [(0, .c (.raw (.ptr 0 0))), (1, .c (.int .i64)), (4, .c (.raw (.ptr 1 0))), (12, .c (.int .i64)), (13, .c (.int .i64))], [some ⟨[.raw (.port), .geo, .int .u64], 150, false, none⟩, some ⟨[.int .i64, .bool, .int .i64], 221, false, none⟩]⟩
def jp : Pat := ⟨xm 40 0 [(4, .c (.raw (.ptr 1 0)))], [some ⟨[.raw (.port), .geo, .int .u64], 150, false, none⟩, some ⟨[.int .i64, .bool, .int .i64], 221, false, none⟩]⟩
def YL : LF := fun st K => match xt xfS st with
 | some [.i a0, .i a1, .i a2, .g g3, .i a4, .i a5, .b b6, .i a7] => some (kx a0 a1 g3 a5 b6 a7 a2 a4 (fun ae1 ae2 => K (.ret) (xc jp [.g g3, .i ae1, .i ae2, .b true, .i 0])) (fun ae1 => K (.exit 0) (xc jp [.g g3, .i ae1, .i a5, .b b6, .i a7])))
 | _ => none
theorem xrg : ∀ st K t, YL st K = some t -> xz xa (lf ka6 xa 1 .no [1, 0, 1, 0] Tryz.f227 K) st = t := by
 intro st K t h
 unfold YL at h
 split at h
 ·rename_i a0 a1 a2 g3 a4 a5 b6 a7 hm
  cases h
  rw [xk hm]
  exact cast (by kernel_rfl) (xv (F := lf ka6 xa 1 .no [1, 0, 1, 0] Tryz.f227 K) (S := fun i => xc xfS [.i a0, .i a1, .i (i.1), .g g3, .i (i.2), .i a5, .b b6, .i a7]) (B := YK a0 a1 g3 a5 b6 a7 (fun ae1 ae2 => K (.ret) (xc jp [.g g3, .i ae1, .i ae2, .b true, .i 0])) (fun ae1 => K (.exit 0) (xc jp [.g g3, .i ae1, .i a5, .b b6, .i a7]))) (fun i k => by kernel_rfl) xa (a2, a4))
 ·cases h
def xdx {β : Type} (g : Geo) (o c : Int) (κ : (Fnd × Int) -> T β) : T β :=
 kx (c) (g.pages) (g) (0) (false) (0) (0) (o) (fun y0_0 y0_1 =>
 κ (⟨(y0_1), (true), (0)⟩, y0_0)) (fun y0_0 =>
 κ (⟨(0), (false), (0)⟩, y0_0))
def Vf (g : Geo) (o c : Int) : T (Fnd × Int) := xdx g o c .ret
theorem xnZ {β : Type} (g : Geo) (o c : Int) (κ : (Fnd × Int) -> T β) : (Vf g o c).bind κ = xdx g o c κ := by
 unfold Vf xdx
 first | rfl | simp only [bz, xfR]
def xdy {β : Type} (g : Geo) (o c : Int) (κ : (Fnd × Int) -> T β) : T β :=
 (tryT g).bind fun r0 =>
 bif !r0 then (κ (⟨(0), (false), (5)⟩, (o))) else
 (wL g 1 1).bind fun r2 =>
 bif r2.2 then ((xii g r2.1 c).bind fun r4 =>
 (yC g o 1).bind fun r5 =>
 (Xm g).bind fun r6 =>
 κ (⟨(r4), (r2.2), (0)⟩, (r5.2))) else
 (Xm g).bind fun r4 =>
 κ (⟨(0), (r2.2), (0)⟩, (o))
def Vg (g : Geo) (o c : Int) : T (Fnd × Int) := xdy g o c .ret
theorem xn0 {β : Type} (g : Geo) (o c : Int) (κ : (Fnd × Int) -> T β) : (Vg g o c).bind κ = xdy g o c κ := by
 unfold Vg xdy
 first | rfl | simp only [bz]
def xdz {β : Type} (g : Geo) (a b : Int) (κ : Unit -> T β) : T β :=
 .op (.add (atF g 2 a) (u64.wrap b)) fun x0 =>
 κ ()
def Vh (g : Geo) (a b : Int) : T Unit := xdz g a b .ret
theorem xn1 {β : Type} (g : Geo) (a b : Int) (κ : Unit -> T β) : (Vh g a b).bind κ = xdz g a b κ := by
 unfold Vh xdz
 first | rfl | simp only [bz]
def xdA {β : Type} (g : Geo) (a b c d e f : Int) (κ : Unit -> T β) : T β :=
 .op (.add (atF g 2 a) (u64.wrap b)) fun x0 =>
 .op (.add (atF g 2 c) (u64.wrap d)) fun x1 =>
 .op (.add (atF g 2 e) (u64.wrap f)) fun x2 =>
 κ ()
def Vi (g : Geo) (a b c d e f : Int) : T Unit := xdA g a b c d e f .ret
theorem xn2 {β : Type} (g : Geo) (a b c d e f : Int) (κ : Unit -> T β) : (Vi g a b c d e f).bind κ = xdA g a b c d e f κ := by
 unfold Vi xdA
 first | rfl | simp only [bz]
def xdB {β : Type} (g : Geo) (κ : Cts -> T β) : T β :=
 .op (.load (atF g 2 0)) fun x0 =>
 .op (.load (atF g 2 1)) fun x1 =>
 .op (.load (atF g 2 2)) fun x2 =>
 .op (.load (atF g 2 3)) fun x3 =>
 .op (.load (atF g 2 4)) fun x4 =>
 κ ⟨(x0), x1, x2, x3, (x4)⟩
def xfT (g : Geo) : T Cts := xdB g .ret
theorem xn3 {β : Type} (g : Geo) (κ : Cts -> T β) : (xfT g).bind κ = xdB g κ := by
 unfold xfT xdB
 first | rfl | simp only [bz]
def xai {β : Type} (g : Geo) (a s : Int) (κ : Int -> T β) : T β :=
 bif decide (s < 1) then (κ (11)) else
 bif decide (s > i64.wrap (g.pages * 64)) then (κ (11)) else
 bif decide (a < 0) then (κ (13)) else
 bif decide (a >= i64.wrap (g.pages * 64)) then (κ (13)) else
 bif Int.tmod a 8 != 0 then (κ (13)) else
 κ (0)
def YM (g : Geo) (a s : Int) : T Int := xai g a s .ret
theorem xkK {β : Type} (g : Geo) (a s : Int) (κ : Int -> T β) : (YM g a s).bind κ = xai g a s κ := by
 unfold YM xai
 first | rfl | simp only [bz]
def xdC {β : Type} (g : Geo) (x : Rn) (r0 : Res) (κ : (Res × Rn) -> T β) : T β :=
 .op (.tell [.int .i64 (r0.at_), .int .i64 (r0.n), .int .u8 (r0.byte), .int .u64 (r0.c1), .int .u64 (r0.c2), .int .u64 (r0.c3), .int .u64 (r0.c4), .int .u64 (r0.c5), .int .i64 (r0.e), .int .i64 (r0.lin), .int .i64 (r0.touch)]) fun _ =>
 κ (r0, x)
def wx (g : Geo) (x : Rn) (r0 : Res) : T (Res × Rn) := xdC g x r0 .ret
theorem xn4 {β : Type} (g : Geo) (x : Rn) (r0 : Res) (κ : (Res × Rn) -> T β) : (wx g x r0).bind κ = xdC g x r0 κ := by
 unfold wx xdC
 first | rfl | simp only [bz]
def xaj {β : Type} (g : Geo) (x : Rn) (κ : (Int × Rn) -> T β) : T β :=
 (vQ g x.grain).bind fun r0 =>
 bif r0.kind == 3 then (bif decide (0 <= r0.cls /\ r0.cls < 4) then (κ ((bif r0.cls == 0 then (8 : Int) else bif r0.cls == 1 then (16 : Int) else bif r0.cls == 2 then (24 : Int) else (32 : Int)), x)) else
 .fail) else
 bif r0.kind == 4 then (κ ((i64.wrap (r0.len * 64)), x)) else
 κ ((0), x)
def Vj (g : Geo) (x : Rn) : T (Int × Rn) := xaj g x .ret
theorem xn5 {β : Type} (g : Geo) (x : Rn) (κ : (Int × Rn) -> T β) : (Vj g x).bind κ = xaj g x κ := by
 unfold Vj xaj
 first | rfl | simp only [bz]
def Zk {β : Type} (a0 : Int) (g2 : Geo) (a3 a4 a5 a6 : Int) (b7 : Bool) (κ0 : Unit -> T β) (i : Int) (k : Int -> T β) : T β :=
 bif decide (i < a0) then (.op (.get (i64.wrap (i64.wrap (a3 * 8) + i))) fun x1 =>
 .op (.put (i64.wrap (i64.wrap (a5 * 8) + i)) x1) fun _ =>
 k (i64.wrap (i + 1))) else
 κ0 ()
def wg {β : Type} (a0 : Int) (g2 : Geo) (a3 a4 a5 a6 : Int) (b7 : Bool) (a1 : Int) (κ0 : Unit -> T β) : T β := xr xa (Zk a0 g2 a3 a4 a5 a6 b7 κ0) a1
theorem xcH {β γ : Type} (a0 : Int) (g2 : Geo) (a3 a4 a5 a6 : Int) (b7 : Bool) (a1 : Int) (κ0 : Unit -> T β) (κ : β -> T γ) : (wg a0 g2 a3 a4 a5 a6 b7 a1 κ0).bind κ = wg a0 g2 a3 a4 a5 a6 b7 a1 (fun u => (κ0 u).bind κ) := by
 unfold wg
 refine xj κ (fun i k => ?_) _ _
 unfold Zk
 first | rfl | simp only [bz]
def xcx : Pat := ⟨xm 38 0 [(0, .c (.raw (.ptr 0 0))), (5, .c (.int .i64)), (6, .c (.int .i64))], [some ⟨[.raw (.port), .geo, .int .i64, .int .i64, .int .i64, .int .i64, .bool], 179, false, none⟩]⟩
def xak : Pat := ⟨xm 38 0 [], [some ⟨[.raw (.port), .geo, .int .i64, .int .i64, .int .i64, .int .i64, .bool], 179, false, none⟩]⟩
def Zl : LF := fun st K => match xt xcx st with
 | some [.i a0, .i a1, .g g2, .i a3, .i a4, .i a5, .i a6, .b b7] => some (wg a0 g2 a3 a4 a5 a6 b7 a1 (fun _ => K (.exit 0) (xc xak [.g g2, .i a3, .i a4, .i a5, .i a6, .b b7])))
 | _ => none
theorem xn6 : ∀ st K t, Zl st K = some t -> xz xa (lf ka6 xa 1 .no [1, 0] Tryz.f194 K) st = t := by
 intro st K t h
 unfold Zl at h
 split at h
 ·rename_i a0 a1 g2 a3 a4 a5 a6 b7 hm
  cases h
  rw [xk hm]
  exact cast (by kernel_rfl) (xv (F := lf ka6 xa 1 .no [1, 0] Tryz.f194 K) (S := fun i => xc xcx [.i a0, .i i, .g g2, .i a3, .i a4, .i a5, .i a6, .b b7]) (B := Zk a0 g2 a3 a4 a5 a6 b7 (fun _ => K (.exit 0) (xc xak [.g g2, .i a3, .i a4, .i a5, .i a6, .b b7]))) (fun i k => by kernel_rfl) xa a1)
 ·cases h
def xal {β : Type} (g : Geo) (x : Rn) (n : Int) (κ : (Unit × Rn) -> T β) : T β :=
 wg (n) (g) (x.grain) (x.size) (x.to) (x.usable) (x.has) (0) (fun y0_0 =>
 κ ((), x))
def jq (g : Geo) (x : Rn) (n : Int) : T (Unit × Rn) := xal g x n .ret
theorem xkL {β : Type} (g : Geo) (x : Rn) (n : Int) (κ : (Unit × Rn) -> T β) : (jq g x n).bind κ = xal g x n κ := by
 unfold jq xal
 first | rfl | simp only [bz, xcH]
def xbL {β : Type} (s : Int) (κ : Bool -> T β) : T β :=
 bif decide (s > 0) then (κ (bits BinOp.and i64 s (i64.wrap (s - 1)) == 0)) else
 κ (false)
def xfU (s : Int) : T Bool := xbL s .ret
theorem xgL {β : Type} (s : Int) (κ : Bool -> T β) : (xfU s).bind κ = xbL s κ := by
 unfold xfU xbL
 first | rfl | simp only [bz]
def Vk : Sm := fun
 | [.c .port, .agg gc], [] => (match xu gc with
   | some g => some (mkS (Int) (vk g) fun r => some (.c (.int .i64 r), []))
   | _ => none)
 | _, _ => none
theorem xgM : Good Tryz.prog (xo ka6) xa 0 (lsAt jo .no [1, 1, 1, 0, 1, 0]) (Tryz.f170.body.getD .skip) (xq Tryz.f170.results.toList) := xB (xi (by kernel_rfl)) xA xkF
variable {σ : Type} {I : Port Tryz.prog σ}
theorem xkM (hl : SoundL I ka6) : SoundF I 170 Vk := by
 refine sq hl xa Tryz.func170 fun args H t ht => ?_
 unfold Vk at ht
 split at ht
 ·rename_i gc
  split at ht
  ·rename_i g hg
   obtain rfl := xe hg
   cases ht
   refine (xE (P := Tryz.prog) (n := xa) (x := (lsAt jo .no [1, 1, 1, 0, 1, 0])) (fn := Tryz.f170) (H := []) (c := Tryz.f170.body.getD .skip) (xi (by kernel_rfl)) xgM).symm.trans ?_
   refine Eq.trans ?_ (xgJ g _).symm
   kernel_rfl
  ·cases ht
 ·cases ht
def xfV : Sm := gS fun
 | g, [.c (.int .i64 p)] => some (mkS (Bool) (kS g p) fun r => some (.c (.bool r), []))
 | _, _ => none
theorem xkN (hl : SoundL I ka6) : SoundF I 270 xfV := by
 refine gsq hl 1 Tryz.func270 fun g l t ht => ?_
 split at ht
 ·rename_i p
  cases ht
  refine Eq.trans ?_ (xgK g p _).symm
  kernel_rfl
 ·cases ht
def xin : Sm := gS fun
 | g, [.c .nils] => some (mkS (Bool) (wM g) fun r => some (.c (.bool r), []))
 | _, _ => none
theorem xn7 (hl : SoundL I ka6) : SoundF I 200 xin := by
 refine gsq hl 5 Tryz.func200 fun g l t ht => ?_
 split at ht
 ·cases ht
  refine Eq.trans ?_ (xkG g _).symm
  kernel_rfl
 ·cases ht
def xbM : Sm := fun
 | [.c .port, .agg gc, .c (.sl 0 0 1 1)], [some ⟨[.int .i64 k], 3, false, none⟩] => (match xu gc with
   | some g => some (mkS (Bool) (wO g k) fun r => some (.c (.bool r), [some ⟨[.int .i64 k], 3, false, none⟩]))
   | _ => none)
 | _, _ => none
theorem xn8 (hl : SoundL I ka6) : SoundF I 200 xbM := by
 refine sq hl 5 Tryz.func200 fun args H t ht => ?_
 unfold xbM at ht
 split at ht
 ·rename_i gc k
  split at ht
  ·rename_i g hg
   obtain rfl := xe hg
   cases ht
   refine Eq.trans ?_ (xkH g k _).symm
   kernel_rfl
  ·cases ht
 ·cases ht
def xbN : Sm := fun
 | [.c .port, .agg gc, .c (.sl 0 0 2 2)], [some ⟨[.int .i64 k, .int .i64 j], 3, false, none⟩] => (match xu gc with
   | some g => some (mkS (Bool) (YJ g k j) fun r => some (.c (.bool r), [some ⟨[.int .i64 k, .int .i64 j], 3, false, none⟩]))
   | _ => none)
 | _, _ => none
theorem xn9 (hl : SoundL I ka6) : SoundF I 200 xbN := by
 refine sq hl 5 Tryz.func200 fun args H t ht => ?_
 unfold xbN at ht
 split at ht
 ·rename_i gc k j
  split at ht
  ·rename_i g hg
   obtain rfl := xe hg
   cases ht
   refine Eq.trans ?_ (xkI g k j _).symm
   kernel_rfl
  ·cases ht
 ·cases ht
def xkO : Sm := fun
 | [.c (.ptr 0 0), .c (.int .i64 k)], [some ⟨.port :: gc, 150, false, none⟩] => (match hdOf gc with
   | some (g, o) => some (mkS ((Unit × Int)) (xf g o k) fun r => some (.tup [], [some ⟨.port :: (g.cells ++ [.int .u64 r.2]), 150, false, none⟩]))
   | _ => none)
 | _, _ => none
theorem xuD (hl : SoundL I ka6) : SoundF I 213 xkO := by
 refine sq hl 1 Tryz.func213 fun args H t ht => ?_
 unfold xkO at ht
 split at ht
 ·rename_i k gc
  split at ht
  ·rename_i g o hg
   obtain rfl := yt hg
   cases ht
   refine Eq.trans ?_ (xrf g o k _).symm
   kernel_rfl
  ·cases ht
 ·cases ht
def xfW : Sm := fun
 | [.c (.ptr 0 0), .c (.int .i64 c)], [some ⟨.port :: gc, 150, false, none⟩] => (match hdOf gc with
   | some (g, o) => some (mkS ((Fnd × Int)) (Vf g o c) fun r => some (.agg r.1.cells, [some ⟨.port :: (g.cells ++ [.int .u64 r.2]), 150, false, none⟩]))
   | _ => none)
 | _, _ => none
theorem xoa : Good Tryz.prog (xo ka6) xa 1 (lsAt YL .no [1, 0, 1, 0]) (Tryz.f227.body.getD .skip) (xq Tryz.f227.results.toList) := xB (xi (by kernel_rfl)) xA xrg
theorem xrh (hl : SoundL I ka6) : SoundF I 227 xfW := by
 refine sq hl xa Tryz.func227 fun args H t ht => ?_
 unfold xfW at ht
 split at ht
 ·rename_i c gc
  split at ht
  ·rename_i g o hg
   obtain rfl := yt hg
   cases ht
   refine (xE (P := Tryz.prog) (n := xa) (x := (lsAt YL .no [1, 0, 1, 0])) (fn := Tryz.f227) (H := [some ⟨.port :: (g.cells ++ [.int .u64 o]), 150, false, none⟩]) (c := Tryz.f227.body.getD .skip) (xi (by kernel_rfl)) xoa).symm.trans ?_
   refine Eq.trans ?_ (xnZ g o c _).symm
   kernel_rfl
  ·cases ht
 ·cases ht
def xfX : Sm := fun
 | [.c (.ptr 0 0), .c (.int .i64 c)], [some ⟨.port :: gc, 150, false, none⟩] => (match hdOf gc with
   | some (g, o) => some (mkS ((Fnd × Int)) (Vg g o c) fun r => some (.agg r.1.cells, [some ⟨.port :: (g.cells ++ [.int .u64 r.2]), 150, false, none⟩]))
   | _ => none)
 | _, _ => none
theorem xri (hl : SoundL I ka6) : SoundF I 228 xfX := by
 refine sq hl 1 Tryz.func228 fun args H t ht => ?_
 unfold xfX at ht
 split at ht
 ·rename_i c gc
  split at ht
  ·rename_i g o hg
   obtain rfl := yt hg
   cases ht
   refine Eq.trans ?_ (xn0 g o c _).symm
   kernel_rfl
  ·cases ht
 ·cases ht
def xfY : Sm := fun
 | [.c .port, .agg gc, .c (.sl 0 0 1 1)], [some ⟨[.int .i64 a, .int .i64 b], 291, false, none⟩] => (match xu gc with
   | some g => some (mkS (Unit) (Vh g a b) fun r => some (.tup [], [some ⟨[.int .i64 a, .int .i64 b], 291, false, none⟩]))
   | _ => none)
 | _, _ => none
theorem xrj (hl : SoundL I ka6) : SoundF I 252 xfY := by
 refine sq hl 5 Tryz.func252 fun args H t ht => ?_
 unfold xfY at ht
 split at ht
 ·rename_i gc a b
  split at ht
  ·rename_i g hg
   obtain rfl := xe hg
   cases ht
   refine Eq.trans ?_ (xn1 g a b _).symm
   kernel_rfl
  ·cases ht
 ·cases ht
def xfZ : Sm := fun
 | [.c .port, .agg gc, .c (.sl 0 0 3 3)], [some ⟨[.int .i64 a, .int .i64 b, .int .i64 c, .int .i64 d, .int .i64 e, .int .i64 f], 291, false, none⟩] => (match xu gc with
   | some g => some (mkS (Unit) (Vi g a b c d e f) fun r => some (.tup [], [some ⟨[.int .i64 a, .int .i64 b, .int .i64 c, .int .i64 d, .int .i64 e, .int .i64 f], 291, false, none⟩]))
   | _ => none)
 | _, _ => none
theorem xrk (hl : SoundL I ka6) : SoundF I 252 xfZ := by
 refine sq hl 5 Tryz.func252 fun args H t ht => ?_
 unfold xfZ at ht
 split at ht
 ·rename_i gc a b c d e f
  split at ht
  ·rename_i g hg
   obtain rfl := xe hg
   cases ht
   refine Eq.trans ?_ (xn2 g a b c d e f _).symm
   kernel_rfl
  ·cases ht
 ·cases ht
def xob : Sm := gS fun
 | g, [] => some (mkS (Cts) (xfT g) fun r => some (.agg r.cells, []))
 | _, _ => none
theorem xrl (hl : SoundL I ka6) : SoundF I 136 xob := by
 refine gsq hl 7 Tryz.func136 fun g l t ht => ?_
 split at ht
 ·cases ht
  refine Eq.trans ?_ (xn3 g _).symm
  kernel_rfl
 ·cases ht
def xbO : Sm := fun
 | [.agg gc, .c (.int .i64 a), .c (.int .i64 s)], [] => (match xu gc with
   | some g => some (mkS (Int) (YM g a s) fun r => some (.c (.int .i64 r), []))
   | _ => none)
 | _, _ => none
theorem xoc (hl : SoundL I ka6) : SoundF I 113 xbO := by
 refine sq hl 1 Tryz.func113 fun args H t ht => ?_
 unfold xbO at ht
 split at ht
 ·rename_i gc a s
  split at ht
  ·rename_i g hg
   obtain rfl := xe hg
   cases ht
   refine Eq.trans ?_ (xkK g a s _).symm
   kernel_rfl
  ·cases ht
 ·cases ht
def xf0 : Sm := fun
 | [.c (.ptr 0 0), .agg r0c], [some ⟨.port :: gc, 179, false, none⟩] => (match rnOf gc with
   | some (g, x) => (match Res.of r0c with
   | some r0 => some (mkS ((Res × Rn)) (wx g x r0) fun r => some (.agg r.1.cells, [some ⟨.port :: (g.cells ++ r.2.cells), 179, false, none⟩]))
   | _ => none)
   | _ => none)
 | _, _ => none
theorem xrm (hl : SoundL I ka6) : SoundF I 114 xf0 := by
 refine sq hl 1 Tryz.func114 fun args H t ht => ?_
 unfold xf0 at ht
 split at ht
 ·rename_i r0c gc
  split at ht
  ·rename_i g x hg
   obtain rfl := YZ hg
   split at ht
   ·rename_i r0 hr0
    obtain rfl := Res.of_eq hr0
    cases ht
    refine Eq.trans ?_ (xn4 g x r0 _).symm
    kernel_rfl
   ·cases ht
  ·cases ht
 ·cases ht
def xf1 : Sm := fun
 | [.c (.ptr 0 0)], [some ⟨.port :: gc, 179, false, none⟩] => (match rnOf gc with
   | some (g, x) => some (mkS ((Int × Rn)) (Vj g x) fun r => some (.c (.int .i64 r.1), [some ⟨.port :: (g.cells ++ r.2.cells), 179, false, none⟩]))
   | _ => none)
 | _, _ => none
theorem xrn (hl : SoundL I ka6) : SoundF I 117 xf1 := by
 refine sq hl 1 Tryz.func117 fun args H t ht => ?_
 unfold xf1 at ht
 split at ht
 ·rename_i gc
  split at ht
  ·rename_i g x hg
   obtain rfl := YZ hg
   cases ht
   refine Eq.trans ?_ (xn5 g x _).symm
   kernel_rfl
  ·cases ht
 ·cases ht
def xbP : Sm := fun
 | [.c (.ptr 0 0), .c (.int .i64 n)], [some ⟨.port :: gc, 179, false, none⟩] => (match rnOf gc with
   | some (g, x) => some (mkS ((Unit × Rn)) (jq g x n) fun r => some (.tup [], [some ⟨.port :: (g.cells ++ r.2.cells), 179, false, none⟩]))
   | _ => none)
 | _, _ => none
theorem xkP : Good Tryz.prog (xo ka6) xa 1 (lsAt Zl .no [1, 0]) (Tryz.f194.body.getD .skip) (xq Tryz.f194.results.toList) := xB (xi (by kernel_rfl)) xA xn6
theorem xod (hl : SoundL I ka6) : SoundF I 194 xbP := by
 refine sq hl xa Tryz.func194 fun args H t ht => ?_
 unfold xbP at ht
 split at ht
 ·rename_i n gc
  split at ht
  ·rename_i g x hg
   obtain rfl := YZ hg
   cases ht
   refine (xE (P := Tryz.prog) (n := xa) (x := (lsAt Zl .no [1, 0])) (fn := Tryz.f194) (H := [some ⟨.port :: (g.cells ++ x.cells), 179, false, none⟩]) (c := Tryz.f194.body.getD .skip) (xi (by kernel_rfl)) xkP).symm.trans ?_
   refine Eq.trans ?_ (xkL g x n _).symm
   kernel_rfl
  ·cases ht
 ·cases ht
def Vl : Sm := fun
 | [.c (.int .i64 s)], [] => some (mkS (Bool) (xfU s) fun r => some (.c (.bool r), []))
 | _, _ => none
theorem xkQ (hl : SoundL I ka6) : SoundF I 153 Vl := by
 refine sq hl 1 Tryz.func153 fun args H t ht => ?_
 unfold Vl at ht
 split at ht
 ·rename_i s
  cases ht
  refine Eq.trans ?_ (xgL s _).symm
  kernel_rfl
 ·cases ht
def ka7 : List (Nat × Sm) := (170, Vk) :: (270, xfV) :: (200, (orSm xin (orSm xbM xbN))) :: (213, xkO) :: (227, xfW) :: (228, xfX) :: (252, (orSm xfY xfZ)) :: (136, xob) :: (113, xbO) :: (114, xf0) :: (117, xf1) :: (194, xbP) :: (153, Vl) :: ka6
theorem ww : SoundL I ka7 := (.cons (xkM wv) (.cons (xkN wv) (.cons (SoundF.or (xn7 wv) (SoundF.or (xn8 wv) (xn9 wv))) (.cons (xuD wv) (.cons (xrh wv) (.cons (xri wv) (.cons (SoundF.or (xrj wv) (xrk wv)) (.cons (xrl wv) (.cons (xoc wv) (.cons (xrm wv) (.cons (xrn wv) (.cons (xod wv) (.cons (xkQ wv) wv)))))))))))))
end Go.Proofs.YtaegelbaghaooaaGreat.Lx
