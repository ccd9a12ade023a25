/- Summaries: runs, slab, pool, tally. (trees printed by program, wip/auto.py) -/
import Derived.Test.YtaegelbaghaooaaGreatErQA6
import Derived.WalkKit
set_option linter.all false
open Go.IntKind (i64 u64 u32 u8)
namespace Go.Proofs.YtaegelbaghaooaaGreat.Lx
open Go
set_option maxRecDepth 1000000
def yy {β : Type} (a0 : Int) (g3 g4 : Geo) (κ0 : Int -> T β) (i : Int × Int) (k : Int × Int -> T β) : T β :=
 bif decide (i.2 < g3.pages) then ((Yy g4 i.2).bind fun r1 =>
 bif r1.kind == 5 then ((Ww g3 i.2 r1.len).bind fun r3 =>
 bif r3 then ((vQ { kind := r1.kind, len := r1.len, cls := r1.cls, owner := r1.owner }).bind fun r5 =>
 k (i64.wrap (i.1 + 1), i64.wrap (i.2 + r5))) else
 (vQ { kind := r1.kind, len := r1.len, cls := r1.cls, owner := r1.owner }).bind fun r5 =>
 k (i.1, i64.wrap (i.2 + r5))) else
 (vQ { kind := r1.kind, len := r1.len, cls := r1.cls, owner := r1.owner }).bind fun r3 =>
 k (i.1, i64.wrap (i.2 + r3))) else
 κ0 (i.1)
def vh {β : Type} (a0 : Int) (g3 g4 : Geo) (a1 a2 : Int) (κ0 : Int -> T β) : T β := xz xd (yy a0 g3 g4 κ0) (a1, a2)
theorem xaK {β γ : Type} (a0 : Int) (g3 g4 : Geo) (a1 a2 : Int) (κ0 : Int -> T β) (κ : β -> T γ) : (vh a0 g3 g4 a1 a2 κ0).bind κ = vh a0 g3 g4 a1 a2 (fun ae1 => (κ0 ae1).bind κ) := by
 unfold vh
 refine xn κ (fun i k => ?_) _ _
 unfold yy
 first | rfl | (simp only [xa, xb, xe, xc, T.bind_assoc])
def Kg : Pat := ⟨xu 37 0 [(0, .c (.raw (.port))), (3, .c (.raw (.ptr 0 0))), (4, .c (.int .i64)), (5, .c (.raw (.ptr 1 0))), (6, .c (.int .i64)), (7, .c (.int .i64))], [some ⟨[.geo], 24, false, none⟩, some ⟨[.raw (.port), .geo], 212, false, none⟩]⟩
def YC : Pat := ⟨xu 37 0 [(4, .c (.int .i64)), (6, .c (.int .i64))], []⟩
def jh : St -> (Ex -> St -> T R) -> Option (T R) := fun st K => match xx Kg st with
 | some [.i a0, .i a1, .i a2, .g g3, .g g4] => some (vh a0 g3 g4 a1 a2 (fun ae1 => K (.exit 0) (xf YC [.i a0, .i ae1])))
 | _ => none
theorem xiP : ∀ st K t, jh st K = some t -> xF xd (lf ka6 xd 0 .no [1, 1, 1, 0, 1, 0] Tryz.f170 K) st = t := by
 intro st K t h
 unfold jh at h
 split at h
 ·rename_i a0 a1 a2 g3 g4 hm
  cases h
  rw [xp hm]
  exact cast (by kernel_rfl) (xy (F := lf ka6 xd 0 .no [1, 1, 1, 0, 1, 0] Tryz.f170 K) (S := fun i => xf Kg [.i a0, .i (i.1), .i (i.2), .g g3, .g g4]) (B := yy a0 g3 g4 (fun ae1 => K (.exit 0) (xf YC [.i a0, .i ae1]))) (fun i k => by kernel_rfl) xd (a1, a2))
 ·cases h
def qc {β : Type} (g : Geo) (κ : Int -> T β) : T β :=
 vh (0) (g) (g) (0) (0) (fun y0_0 =>
 κ y0_0)
def vq (g : Geo) : T Int := qc g .ret
theorem xfk {β : Type} (g : Geo) (κ : Int -> T β) : (vq g).bind κ = qc g κ := by
 unfold vq qc
 first | rfl | (simp only [xa, xb, xe, xc, T.bind_assoc, xaK])
def Yc {β : Type} (g : Geo) (p : Int) (κ : Bool -> T β) : T β :=
 (isT g p 0).bind fun r0 =>
 bif !r0 then (κ (false)) else
 (Yz g p).bind fun r2 =>
 bif !r2.has then (κ (false)) else
 bif decide (r2.cls >= 4) then (κ (false)) else
 bif decide (0 <= r2.cls /\ r2.cls < 4) then ((xbk (Bt.mk r2.map r2.has r2.cls r2.ver) (bif r2.cls == 0 then (8 : Int) else bif r2.cls == 0 + 1 then (4 : Int) else bif r2.cls == 0 + 1 + 1 then (2 : Int) else (2 : Int))).bind fun r6 =>
 bif !r6 then (κ (false)) else
 (ZU g p (Bt.mk r2.map r2.has r2.cls r2.ver) (Bt.mk 0 false 0 (u32.wrap (r2.ver + 1)))).bind fun r8 =>
 bif r8 then ((Ww g p 1).bind fun r10 =>
 κ r10) else
 κ (false)) else
 .fail
def kL (g : Geo) (p : Int) : T Bool := Yc g p .ret
theorem xfl {β : Type} (g : Geo) (p : Int) (κ : Bool -> T β) : (kL g p).bind κ = Yc g p κ := by
 unfold kL Yc
 first | rfl | (simp only [xa, xb, xe, xc, T.bind_assoc])
def ZZ {β : Type} (g : Geo) (κ : Bool -> T β) : T β :=
 bif g.pages == 0 then (κ (true)) else
 κ (decide ((-1) >= 0))
def wR (g : Geo) : T Bool := ZZ g .ret
theorem xiQ {β : Type} (g : Geo) (κ : Bool -> T β) : (wR g).bind κ = ZZ g κ := by
 unfold wR ZZ
 first | rfl | (simp only [xa, xb, xe, xc, T.bind_assoc])
def Kh {β : Type} (g : Geo) (k : Int) (κ : Bool -> T β) : T β :=
 bif g.pages == 0 then (κ (true)) else
 (xer (-1) k).bind fun r1 =>
 κ r1
def qU (g : Geo) (k : Int) : T Bool := Kh g k .ret
theorem xiR {β : Type} (g : Geo) (k : Int) (κ : Bool -> T β) : (qU g k).bind κ = Kh g k κ := by
 unfold qU Kh
 first | rfl | (simp only [xa, xb, xe, xc, T.bind_assoc])
def xez {β : Type} (g : Geo) (k j : Int) (κ : Bool -> T β) : T β :=
 bif g.pages == 0 then (κ (true)) else
 (xiJ (-1) k j).bind fun r1 =>
 κ r1
def xiS (g : Geo) (k j : Int) : T Bool := xez g k j .ret
theorem xiT {β : Type} (g : Geo) (k j : Int) (κ : Bool -> T β) : (xiS g k j).bind κ = xez g k j κ := by
 unfold xiS xez
 first | rfl | (simp only [xa, xb, xe, xc, T.bind_assoc])
def xiU {β : Type} (g : Geo) (o k : Int) (κ : (Unit × Int) -> T β) : T β :=
 (Wt g k).bind fun r0 =>
 (yJ g o 1).bind fun r1 =>
 κ ((), (r1.2))
def xl (g : Geo) (o k : Int) : T (Unit × Int) := xiU g o k .ret
theorem xoL {β : Type} (g : Geo) (o k : Int) (κ : (Unit × Int) -> T β) : (xl g o k).bind κ = xiU g o k κ := by
 unfold xl xiU
 first | rfl | (simp only [xa, xb, xe, xc, T.bind_assoc])
def Yd {β : Type} (a0 a1 : Int) (g3 : Geo) (a5 : Int) (b6 : Bool) (a7 : Int) (κ0 : Int -> Int -> T β) (κ1 : Int -> T β) (i : Int × Int) (k : Int × Int -> T β) : T β :=
 bif decide (i.1 < a1) then ((hofT g3 i.2 i.1 a0).bind fun r1 =>
 bif !r1.1 then (k (i64.wrap (i.1 + 1), r1.2)) else
 (xaB g3 i.1 a0).bind fun r3 =>
 bif r3.2 then (κ0 (r1.2) (r3.1)) else
 k (i64.wrap (i.1 + 1), r1.2)) else
 κ1 (i.2)
def ko {β : Type} (a0 a1 : Int) (g3 : Geo) (a5 : Int) (b6 : Bool) (a7 a2 a4 : Int) (κ0 : Int -> Int -> T β) (κ1 : Int -> T β) : T β := xz xd (Yd a0 a1 g3 a5 b6 a7 κ0 κ1) (a2, a4)
theorem xeA {β γ : Type} (a0 a1 : Int) (g3 : Geo) (a5 : Int) (b6 : Bool) (a7 a2 a4 : Int) (κ0 : Int -> Int -> T β) (κ1 : Int -> T β) (κ : β -> T γ) : (ko a0 a1 g3 a5 b6 a7 a2 a4 κ0 κ1).bind κ = ko a0 a1 g3 a5 b6 a7 a2 a4 (fun ae1 ae2 => (κ0 ae1 ae2).bind κ) (fun ae1 => (κ1 ae1).bind κ) := by
 unfold ko
 refine xn κ (fun i k => ?_) _ _
 unfold Yd
 first | rfl | (simp only [xa, xb, xe, xc, T.bind_assoc])
def xeB : Pat := ⟨xu 40 0 [(0, .c (.raw (.ptr 0 0))), (1, .c (.int .i64)), (4, .c (.raw (.ptr 1 0))), (12, .c (.int .i64)), (13, .c (.int .i64))], [some ⟨[.raw (.port), .geo, .int .u64], 150, false, none⟩, some ⟨[.int .i64, .bool, .int .i64], 221, false, none⟩]⟩
def ji : Pat := ⟨xu 40 0 [(4, .c (.raw (.ptr 1 0)))], [some ⟨[.raw (.port), .geo, .int .u64], 150, false, none⟩, some ⟨[.int .i64, .bool, .int .i64], 221, false, none⟩]⟩
def Ye : St -> (Ex -> St -> T R) -> Option (T R) := fun st K => match xx xeB st with
 | some [.i a0, .i a1, .i a2, .g g3, .i a4, .i a5, .b b6, .i a7] => some (ko a0 a1 g3 a5 b6 a7 a2 a4 (fun ae1 ae2 => K (.ret) (xf ji [.g g3, .i ae1, .i ae2, .b true, .i 0])) (fun ae1 => K (.exit 0) (xf ji [.g g3, .i ae1, .i a5, .b b6, .i a7])))
 | _ => none
theorem xoM : ∀ st K t, Ye st K = some t -> xF xd (lf ka6 xd 1 .no [1, 0, 1, 0] Tryz.f227 K) st = t := by
 intro st K t h
 unfold Ye at h
 split at h
 ·rename_i a0 a1 a2 g3 a4 a5 b6 a7 hm
  cases h
  rw [xp hm]
  exact cast (by kernel_rfl) (xy (F := lf ka6 xd 1 .no [1, 0, 1, 0] Tryz.f227 K) (S := fun i => xf xeB [.i a0, .i a1, .i (i.1), .g g3, .i (i.2), .i a5, .b b6, .i a7]) (B := Yd a0 a1 g3 a5 b6 a7 (fun ae1 ae2 => K (.ret) (xf ji [.g g3, .i ae1, .i ae2, .b true, .i 0])) (fun ae1 => K (.exit 0) (xf ji [.g g3, .i ae1, .i a5, .b b6, .i a7]))) (fun i k => by kernel_rfl) xd (a2, a4))
 ·cases h
def xch {β : Type} (g : Geo) (o c : Int) (κ : (Fnd × Int) -> T β) : T β :=
 ko (c) (g.pages) (g) (0) (false) (0) (0) (o) (fun y0_0 y0_1 =>
 κ (⟨(y0_1), (true), (0)⟩, y0_0)) (fun y0_0 =>
 κ (⟨(0), (false), (0)⟩, y0_0))
def Wx (g : Geo) (o c : Int) : T (Fnd × Int) := xch g o c .ret
theorem xlO {β : Type} (g : Geo) (o c : Int) (κ : (Fnd × Int) -> T β) : (Wx g o c).bind κ = xch g o c κ := by
 unfold Wx xch
 first | rfl | (simp only [xa, xb, xe, xc, T.bind_assoc, xeA])
def xci {β : Type} (g : Geo) (o c : Int) (κ : (Fnd × Int) -> T β) : T β :=
 (tryT g).bind fun r0 =>
 bif !r0 then (κ (⟨(0), (false), (5)⟩, (o))) else
 (wQ g 1 1).bind fun r2 =>
 bif r2.2 then ((xgE g r2.1 c).bind fun r4 =>
 (yJ g o 1).bind fun r5 =>
 (ZW g).bind fun r6 =>
 κ (⟨(r4), (r2.2), (0)⟩, (r5.2))) else
 (ZW g).bind fun r4 =>
 κ (⟨(0), (r2.2), (0)⟩, (o))
def Wy (g : Geo) (o c : Int) : T (Fnd × Int) := xci g o c .ret
theorem xlP {β : Type} (g : Geo) (o c : Int) (κ : (Fnd × Int) -> T β) : (Wy g o c).bind κ = xci g o c κ := by
 unfold Wy xci
 first | rfl | (simp only [xa, xb, xe, xc, T.bind_assoc])
def Ki {β : Type} (g : Geo) (a s : Int) (κ : Int -> T β) : T β :=
 bif decide (s < 1) then (κ (11)) else
 bif decide (s > i64.wrap (g.pages * 64)) then (κ (11)) else
 bif decide (a < 0) then (κ (13)) else
 bif decide (a >= i64.wrap (g.pages * 64)) then (κ (13)) else
 bif Int.tmod a 8 != 0 then (κ (13)) else
 κ (0)
def Yf (g : Geo) (a s : Int) : T Int := Ki g a s .ret
theorem xiV {β : Type} (g : Geo) (a s : Int) (κ : Int -> T β) : (Yf g a s).bind κ = Ki g a s κ := by
 unfold Yf Ki
 first | rfl | (simp only [xa, xb, xe, xc, T.bind_assoc])
def xcj {β : Type} (g : Geo) (x : Rn) (r0 : Res) (κ : (Res × Rn) -> T β) : T β :=
 .op (.tell [.int .i64 (r0.at_), .int .i64 (r0.n), .int .u8 (r0.byte), .int .u64 (r0.c1), .int .u64 (r0.c2), .int .u64 (r0.c3), .int .u64 (r0.c4), .int .u64 (r0.c5), .int .i64 (r0.e), .int .i64 (r0.lin), .int .i64 (r0.touch)]) fun _ =>
 κ (⟨(r0.at_), (r0.n), (r0.byte), (r0.c1), (r0.c2), (r0.c3), (r0.c4), (r0.c5), (r0.e), (r0.lin), (r0.touch)⟩, ⟨(x.grain), (x.size), (x.to), (x.usable), (x.has)⟩)
def wB (g : Geo) (x : Rn) (r0 : Res) : T (Res × Rn) := xcj g x r0 .ret
theorem xlQ {β : Type} (g : Geo) (x : Rn) (r0 : Res) (κ : (Res × Rn) -> T β) : (wB g x r0).bind κ = xcj g x r0 κ := by
 unfold wB xcj
 first | rfl | (simp only [xa, xb, xe, xc, T.bind_assoc])
def xck {β : Type} (g : Geo) (x : Rn) (κ : (Int × Rn) -> T β) : T β :=
 (wx g x.grain).bind fun r0 =>
 bif r0.kind == 3 then (bif decide (0 <= r0.cls /\ r0.cls < 4) then (κ ((bif r0.cls == 0 then (8 : Int) else bif r0.cls == 1 then (16 : Int) else bif r0.cls == 2 then (24 : Int) else (32 : Int)), ⟨(x.grain), (x.size), (x.to), (x.usable), (x.has)⟩)) else
 .fail) else
 bif r0.kind == 4 then (κ ((i64.wrap (r0.len * 64)), ⟨(x.grain), (x.size), (x.to), (x.usable), (x.has)⟩)) else
 κ ((0), ⟨(x.grain), (x.size), (x.to), (x.usable), (x.has)⟩)
def xaL (g : Geo) (x : Rn) : T (Int × Rn) := xck g x .ret
theorem xlR {β : Type} (g : Geo) (x : Rn) (κ : (Int × Rn) -> T β) : (xaL g x).bind κ = xck g x κ := by
 unfold xaL xck
 first | rfl | (simp only [xa, xb, xe, xc, T.bind_assoc])
def qV {β : Type} (a0 : Int) (g2 : Geo) (a3 a4 a5 a6 : Int) (b7 : Bool) (κ0 : Unit -> T β) (i : Int) (k : Int -> T β) : T β :=
 bif decide (i < a0) then (.op (.get (i64.wrap (i64.wrap (a3 * 8) + i))) fun x1 =>
 .op (.put (i64.wrap (i64.wrap (a5 * 8) + i)) x1) fun _ =>
 k (i64.wrap (i + 1))) else
 κ0 ()
def wg {β : Type} (a0 : Int) (g2 : Geo) (a3 a4 a5 a6 : Int) (b7 : Bool) (a1 : Int) (κ0 : Unit -> T β) : T β := xz xd (qV a0 g2 a3 a4 a5 a6 b7 κ0) a1
theorem xbz {β γ : Type} (a0 : Int) (g2 : Geo) (a3 a4 a5 a6 : Int) (b7 : Bool) (a1 : Int) (κ0 : Unit -> T β) (κ : β -> T γ) : (wg a0 g2 a3 a4 a5 a6 b7 a1 κ0).bind κ = wg a0 g2 a3 a4 a5 a6 b7 a1 (fun u => (κ0 u).bind κ) := by
 unfold wg
 refine xn κ (fun i k => ?_) _ _
 unfold qV
 first | rfl | (simp only [xa, xb, xe, xc, T.bind_assoc])
def xbq : Pat := ⟨xu 38 0 [(0, .c (.raw (.ptr 0 0))), (5, .c (.int .i64)), (6, .c (.int .i64))], [some ⟨[.raw (.port), .geo, .int .i64, .int .i64, .int .i64, .int .i64, .bool], 179, false, none⟩]⟩
def Kj : Pat := ⟨xu 38 0 [], [some ⟨[.raw (.port), .geo, .int .i64, .int .i64, .int .i64, .int .i64, .bool], 179, false, none⟩]⟩
def qW : St -> (Ex -> St -> T R) -> Option (T R) := fun st K => match xx xbq st with
 | some [.i a0, .i a1, .g g2, .i a3, .i a4, .i a5, .i a6, .b b7] => some (wg a0 g2 a3 a4 a5 a6 b7 a1 (fun _ => K (.exit 0) (xf Kj [.g g2, .i a3, .i a4, .i a5, .i a6, .b b7])))
 | _ => none
theorem xlS : ∀ st K t, qW st K = some t -> xF xd (lf ka6 xd 1 .no [1, 0] Tryz.f194 K) st = t := by
 intro st K t h
 unfold qW at h
 split at h
 ·rename_i a0 a1 g2 a3 a4 a5 a6 b7 hm
  cases h
  rw [xp hm]
  exact cast (by kernel_rfl) (xy (F := lf ka6 xd 1 .no [1, 0] Tryz.f194 K) (S := fun i => xf xbq [.i a0, .i i, .g g2, .i a3, .i a4, .i a5, .i a6, .b b7]) (B := qV a0 g2 a3 a4 a5 a6 b7 (fun _ => K (.exit 0) (xf Kj [.g g2, .i a3, .i a4, .i a5, .i a6, .b b7]))) (fun i k => by kernel_rfl) xd a1)
 ·cases h
def Kk {β : Type} (g : Geo) (x : Rn) (n : Int) (κ : (Unit × Rn) -> T β) : T β :=
 wg (n) (g) (x.grain) (x.size) (x.to) (x.usable) (x.has) (0) (fun y0_0 =>
 κ ((), ⟨(x.grain), (x.size), (x.to), (x.usable), (x.has)⟩))
def jj (g : Geo) (x : Rn) (n : Int) : T (Unit × Rn) := Kk g x n .ret
theorem xiW {β : Type} (g : Geo) (x : Rn) (n : Int) (κ : (Unit × Rn) -> T β) : (jj g x n).bind κ = Kk g x n κ := by
 unfold jj Kk
 first | rfl | (simp only [xa, xb, xe, xc, T.bind_assoc, xbz])
def xaM {β : Type} (s : Int) (κ : Bool -> T β) : T β :=
 bif decide (s > 0) then (κ (bits BinOp.and i64 s (i64.wrap (s - 1)) == 0)) else
 κ (false)
def xeC (s : Int) : T Bool := xaM s .ret
theorem xfm {β : Type} (s : Int) (κ : Bool -> T β) : (xeC s).bind κ = xaM s κ := by
 unfold xeC xaM
 first | rfl | (simp only [xa, xb, xe, xc, T.bind_assoc])
def Wz : Sm := fun args H => match args, H with
 | [.c .port, .agg gc], [] => (match xr gc with
   | some g => some (mkS (Int) (vq g) fun r => some (.c (.int .i64 r), []))
   | _ => none)
 | _, _ => none
theorem xfn : Good Tryz.prog (xw ka6) xd 0 (lsAt jh .no [1, 1, 1, 0, 1, 0]) (Tryz.f170.body.getD .skip) (xC Tryz.f170.results.toList) := xL (xo (by kernel_rfl)) xK xiP
variable {σ : Type} {I : Port Tryz.prog σ}
theorem xiX (hl : SoundL I ka6) : SoundF I 170 Wz := by
 refine sq hl xd Tryz.func170 fun args H t ht => ?_
 unfold Wz at ht
 split at ht
 ·rename_i gc
  split at ht
  ·rename_i g hg
   obtain rfl := xi hg
   cases ht
   refine (xP (P := Tryz.prog) (n := xd) (x := (lsAt jh .no [1, 1, 1, 0, 1, 0])) (fn := Tryz.f170) (H := []) (c := Tryz.f170.body.getD .skip) (xo (by kernel_rfl)) xfn).symm.trans ?_
   refine Eq.trans ?_ (xfk g _).symm
   kernel_rfl
  ·cases ht
 ·cases ht
def WA : Sm := fun args H => match args, H with
 | [.c .port, .agg gc, .c (.int .i64 p)], [] => (match xr gc with
   | some g => some (mkS (Bool) (kL g p) fun r => some (.c (.bool r), []))
   | _ => none)
 | _, _ => none
theorem xiY (hl : SoundL I ka6) : SoundF I 270 WA := by
 refine sq hl 1 Tryz.func270 fun args H t ht => ?_
 unfold WA at ht
 split at ht
 ·rename_i gc p
  split at ht
  ·rename_i g hg
   obtain rfl := xi hg
   cases ht
   refine Eq.trans ?_ (xfl g p _).symm
   kernel_rfl
  ·cases ht
 ·cases ht
def xaN : Sm := fun args H => match args, H with
 | [.c .port, .agg gc, .c .nils], [] => (match xr gc with
   | some g => some (mkS (Bool) (wR g) fun r => some (.c (.bool r), []))
   | _ => none)
 | _, _ => none
theorem xlT (hl : SoundL I ka6) : SoundF I 200 xaN := by
 refine sq hl 5 Tryz.func200 fun args H t ht => ?_
 unfold xaN at ht
 split at ht
 ·rename_i gc
  split at ht
  ·rename_i g hg
   obtain rfl := xi hg
   cases ht
   refine Eq.trans ?_ (xiQ g _).symm
   kernel_rfl
  ·cases ht
 ·cases ht
def xaO : Sm := fun args H => match args, H with
 | [.c .port, .agg gc, .c (.sl 0 0 1 1)], [some ⟨[.int .i64 k], 3, false, none⟩] => (match xr gc with
   | some g => some (mkS (Bool) (qU g k) fun r => some (.c (.bool r), [some ⟨[.int .i64 k], 3, false, none⟩]))
   | _ => none)
 | _, _ => none
theorem xlU (hl : SoundL I ka6) : SoundF I 200 xaO := by
 refine sq hl 5 Tryz.func200 fun args H t ht => ?_
 unfold xaO at ht
 split at ht
 ·rename_i gc k
  split at ht
  ·rename_i g hg
   obtain rfl := xi hg
   cases ht
   refine Eq.trans ?_ (xiR g k _).symm
   kernel_rfl
  ·cases ht
 ·cases ht
def xaP : Sm := fun args H => match args, H with
 | [.c .port, .agg gc, .c (.sl 0 0 2 2)], [some ⟨[.int .i64 k, .int .i64 j], 3, false, none⟩] => (match xr gc with
   | some g => some (mkS (Bool) (xiS g k j) fun r => some (.c (.bool r), [some ⟨[.int .i64 k, .int .i64 j], 3, false, none⟩]))
   | _ => none)
 | _, _ => none
theorem xlV (hl : SoundL I ka6) : SoundF I 200 xaP := by
 refine sq hl 5 Tryz.func200 fun args H t ht => ?_
 unfold xaP at ht
 split at ht
 ·rename_i gc k j
  split at ht
  ·rename_i g hg
   obtain rfl := xi hg
   cases ht
   refine Eq.trans ?_ (xiT g k j _).symm
   kernel_rfl
  ·cases ht
 ·cases ht
def xiZ : Sm := fun args H => match args, H with
 | [.c (.ptr 0 0), .c (.int .i64 k)], [some ⟨.port :: gc, 150, false, none⟩] => (match hdOf gc with
   | some (g, o) => some (mkS ((Unit × Int)) (xl g o k) fun r => some (.tup [], [some ⟨.port :: (g.cells ++ [.int .u64 r.2]), 150, false, none⟩]))
   | _ => none)
 | _, _ => none
theorem xrH (hl : SoundL I ka6) : SoundF I 213 xiZ := by
 refine sq hl 1 Tryz.func213 fun args H t ht => ?_
 unfold xiZ at ht
 split at ht
 ·rename_i k gc
  split at ht
  ·rename_i g o hg
   obtain rfl := yz hg
   cases ht
   refine Eq.trans ?_ (xoL g o k _).symm
   kernel_rfl
  ·cases ht
 ·cases ht
def xeD : Sm := fun args H => match args, H with
 | [.c (.ptr 0 0), .c (.int .i64 c)], [some ⟨.port :: gc, 150, false, none⟩] => (match hdOf gc with
   | some (g, o) => some (mkS ((Fnd × Int)) (Wx g o c) fun r => some (.agg r.1.cells, [some ⟨.port :: (g.cells ++ [.int .u64 r.2]), 150, false, none⟩]))
   | _ => none)
 | _, _ => none
theorem xlW : Good Tryz.prog (xw ka6) xd 1 (lsAt Ye .no [1, 0, 1, 0]) (Tryz.f227.body.getD .skip) (xC Tryz.f227.results.toList) := xL (xo (by kernel_rfl)) xK xoM
theorem xoN (hl : SoundL I ka6) : SoundF I 227 xeD := by
 refine sq hl xd Tryz.func227 fun args H t ht => ?_
 unfold xeD at ht
 split at ht
 ·rename_i c gc
  split at ht
  ·rename_i g o hg
   obtain rfl := yz hg
   cases ht
   refine (xP (P := Tryz.prog) (n := xd) (x := (lsAt Ye .no [1, 0, 1, 0])) (fn := Tryz.f227) (H := [some ⟨.port :: (g.cells ++ [.int .u64 o]), 150, false, none⟩]) (c := Tryz.f227.body.getD .skip) (xo (by kernel_rfl)) xlW).symm.trans ?_
   refine Eq.trans ?_ (xlO g o c _).symm
   kernel_rfl
  ·cases ht
 ·cases ht
def xeE : Sm := fun args H => match args, H with
 | [.c (.ptr 0 0), .c (.int .i64 c)], [some ⟨.port :: gc, 150, false, none⟩] => (match hdOf gc with
   | some (g, o) => some (mkS ((Fnd × Int)) (Wy g o c) fun r => some (.agg r.1.cells, [some ⟨.port :: (g.cells ++ [.int .u64 r.2]), 150, false, none⟩]))
   | _ => none)
 | _, _ => none
theorem xoO (hl : SoundL I ka6) : SoundF I 228 xeE := by
 refine sq hl 1 Tryz.func228 fun args H t ht => ?_
 unfold xeE at ht
 split at ht
 ·rename_i c gc
  split at ht
  ·rename_i g o hg
   obtain rfl := yz hg
   cases ht
   refine Eq.trans ?_ (xlP g o c _).symm
   kernel_rfl
  ·cases ht
 ·cases ht
def xaQ : Sm := fun args H => match args, H with
 | [.agg gc, .c (.int .i64 a), .c (.int .i64 s)], [] => (match xr gc with
   | some g => some (mkS (Int) (Yf g a s) fun r => some (.c (.int .i64 r), []))
   | _ => none)
 | _, _ => none
theorem xlX (hl : SoundL I ka6) : SoundF I 113 xaQ := by
 refine sq hl 1 Tryz.func113 fun args H t ht => ?_
 unfold xaQ at ht
 split at ht
 ·rename_i gc a s
  split at ht
  ·rename_i g hg
   obtain rfl := xi hg
   cases ht
   refine Eq.trans ?_ (xiV g a s _).symm
   kernel_rfl
  ·cases ht
 ·cases ht
def xeF : Sm := fun args H => match args, H with
 | [.c (.ptr 0 0), .agg r0c], [some ⟨.port :: gc, 179, false, none⟩] => (match rnOf gc with
   | some (g, x) => (match Res.of r0c with
   | some r0 => some (mkS ((Res × Rn)) (wB g x r0) fun r => some (.agg r.1.cells, [some ⟨.port :: (g.cells ++ r.2.cells), 179, false, none⟩]))
   | _ => none)
   | _ => none)
 | _, _ => none
theorem xoP (hl : SoundL I ka6) : SoundF I 114 xeF := by
 refine sq hl 1 Tryz.func114 fun args H t ht => ?_
 unfold xeF at ht
 split at ht
 ·rename_i r0c gc
  split at ht
  ·rename_i g x hg
   obtain rfl := Yp hg
   split at ht
   ·rename_i r0 hr0
    obtain rfl := Res.of_eq hr0
    cases ht
    refine Eq.trans ?_ (xlQ g x r0 _).symm
    kernel_rfl
   ·cases ht
  ·cases ht
 ·cases ht
def xeG : Sm := fun args H => match args, H with
 | [.c (.ptr 0 0)], [some ⟨.port :: gc, 179, false, none⟩] => (match rnOf gc with
   | some (g, x) => some (mkS ((Int × Rn)) (xaL g x) fun r => some (.c (.int .i64 r.1), [some ⟨.port :: (g.cells ++ r.2.cells), 179, false, none⟩]))
   | _ => none)
 | _, _ => none
theorem xoQ (hl : SoundL I ka6) : SoundF I 117 xeG := by
 refine sq hl 1 Tryz.func117 fun args H t ht => ?_
 unfold xeG at ht
 split at ht
 ·rename_i gc
  split at ht
  ·rename_i g x hg
   obtain rfl := Yp hg
   cases ht
   refine Eq.trans ?_ (xlR g x _).symm
   kernel_rfl
  ·cases ht
 ·cases ht
def xaR : Sm := fun args H => match args, H with
 | [.c (.ptr 0 0), .c (.int .i64 n)], [some ⟨.port :: gc, 179, false, none⟩] => (match rnOf gc with
   | some (g, x) => some (mkS ((Unit × Rn)) (jj g x n) fun r => some (.tup [], [some ⟨.port :: (g.cells ++ r.2.cells), 179, false, none⟩]))
   | _ => none)
 | _, _ => none
theorem xi0 : Good Tryz.prog (xw ka6) xd 1 (lsAt qW .no [1, 0]) (Tryz.f194.body.getD .skip) (xC Tryz.f194.results.toList) := xL (xo (by kernel_rfl)) xK xlS
theorem xlY (hl : SoundL I ka6) : SoundF I 194 xaR := by
 refine sq hl xd Tryz.func194 fun args H t ht => ?_
 unfold xaR at ht
 split at ht
 ·rename_i n gc
  split at ht
  ·rename_i g x hg
   obtain rfl := Yp hg
   cases ht
   refine (xP (P := Tryz.prog) (n := xd) (x := (lsAt qW .no [1, 0])) (fn := Tryz.f194) (H := [some ⟨.port :: (g.cells ++ x.cells), 179, false, none⟩]) (c := Tryz.f194.body.getD .skip) (xo (by kernel_rfl)) xi0).symm.trans ?_
   refine Eq.trans ?_ (xiW g x n _).symm
   kernel_rfl
  ·cases ht
 ·cases ht
def WB : Sm := fun args H => match args, H with
 | [.c (.int .i64 s)], [] => some (mkS (Bool) (xeC s) fun r => some (.c (.bool r), []))
 | _, _ => none
theorem xi1 (hl : SoundL I ka6) : SoundF I 153 WB := by
 refine sq hl 1 Tryz.func153 fun args H t ht => ?_
 unfold WB at ht
 split at ht
 ·rename_i s
  cases ht
  refine Eq.trans ?_ (xfm s _).symm
  kernel_rfl
 ·cases ht
def ka7 : List (Nat × Sm) := (170, Wz) :: (270, WA) :: (200, (orSm xaN (orSm xaO xaP))) :: (213, xiZ) :: (227, xeD) :: (228, xeE) :: (113, xaQ) :: (114, xeF) :: (117, xeG) :: (194, xaR) :: (153, WB) :: ka6
theorem Zm : SoundL I ka7 := (.cons (xiX jg) (.cons (xiY jg) (.cons (SoundF.or (xlT jg) (SoundF.or (xlU jg) (xlV jg))) (.cons (xrH jg) (.cons (xoN jg) (.cons (xoO jg) (.cons (xlX jg) (.cons (xoP jg) (.cons (xoQ jg) (.cons (xlY jg) (.cons (xi1 jg) jg)))))))))))
end Go.Proofs.YtaegelbaghaooaaGreat.Lx
