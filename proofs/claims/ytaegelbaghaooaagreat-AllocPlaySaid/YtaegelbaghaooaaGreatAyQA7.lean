/- Summaries: runs, slab, pool, tally. (trees printed by program, wip/auto.py) -/
import Derived.Test.YtaegelbaghaooaaGreatAyQA6
import Derived.WalkKit
set_option linter.unusedSimpArgs false
set_option linter.unusedVariables false
set_option linter.unusedSectionVars false
namespace Go.Proofs.YtaegelbaghaooaaGreat.Lx
open Go
set_option maxRecDepth 1000000

def yx {β : Type} (a0 : Int) (g3 g4 : Geo) (κ0 : Int → T β) (i : Int × Int) (k : Int × Int → T β) : T β :=
 bif decide (i.2 < g3.pages) then ((Yz g4 i.2).bind fun r1 =>
 bif r1.kind == 5 then ((Ws g3 i.2 r1.len).bind fun r3 =>
 bif r3 then ((vU { kind := r1.kind, len := r1.len, cls := r1.cls, owner := r1.owner }).bind fun r5 =>
 k (IntKind.i64.wrap (i.1 + 1), IntKind.i64.wrap (i.2 + r5))) else
 (vU { kind := r1.kind, len := r1.len, cls := r1.cls, owner := r1.owner }).bind fun r5 =>
 k (i.1, IntKind.i64.wrap (i.2 + r5))) else
 (vU { kind := r1.kind, len := r1.len, cls := r1.cls, owner := r1.owner }).bind fun r3 =>
 k (i.1, IntKind.i64.wrap (i.2 + r3))) else
 κ0 (i.1)
def vm {β : Type} (a0 : Int) (g3 g4 : Geo) (a1 a2 : Int) (κ0 : Int → T β) : T β := xA xd (yx a0 g3 g4 κ0) (a1, a2)
theorem xaJ {β γ : Type} (a0 : Int) (g3 g4 : Geo) (a1 a2 : Int) (κ0 : Int → T β) (κ : β → T γ) : (vm a0 g3 g4 a1 a2 κ0).bind κ = vm a0 g3 g4 a1 a2 (fun ae1 => (κ0 ae1).bind κ) := by
 unfold vm
 refine xp κ (fun i k => ?_) _ _
 unfold yx
 first | rfl | (simp only [xa, xb, xe, xc, T.bind_assoc])
def Kj : Pat := ⟨xr 37 0 [(0, .c (.raw (.port))), (3, .c (.raw (.ptr 0 0))), (4, .c (.int .i64)), (5, .c (.raw (.ptr 1 0))), (6, .c (.int .i64)), (7, .c (.int .i64))], [some ⟨[.geo], 24, false, none⟩, some ⟨[.raw (.port), .geo], 212, false, none⟩]⟩
def YE : Pat := ⟨xr 37 0 [(4, .c (.int .i64)), (6, .c (.int .i64))], []⟩
def je : St → (Ex → St → T R) → Option (T R) := fun st K => match xy Kj st with
 | some [.i a0, .i a1, .i a2, .g g3, .g g4] => some (vm a0 g3 g4 a1 a2 (fun ae1 => K (.exit 0) (xf YE [.i a0, .i ae1])))
 | _ => none
theorem xiO : ∀ st K t, je st K = some t → xK xd (lf ka6 xd 0 .no [1, 1, 1, 0, 1, 0] Tryz.f170 K) st = t := by
 intro st K t h
 unfold je at h
 split at h
 ·rename_i a0 a1 a2 g3 g4 hm
  cases h
  rw [xn hm]
  exact cast (by kernel_rfl) (xB (F := lf ka6 xd 0 .no [1, 1, 1, 0, 1, 0] Tryz.f170 K) (S := fun i => xf Kj [.i a0, .i (i.1), .i (i.2), .g g3, .g g4]) (B := yx a0 g3 g4 (fun ae1 => K (.exit 0) (xf YE [.i a0, .i ae1]))) (fun i k => by kernel_rfl) xd (a1, a2))
 ·cases h
def jZ {β : Type} (g : Geo) (κ : Int → T β) : T β :=
 vm (0) (g) (g) (0) (0) (fun y0_0 =>
 κ (y0_0))
def vz (g : Geo) : T Int := jZ g .ret
theorem xfl {β : Type} (g : Geo) (κ : Int → T β) : (vz g).bind κ = jZ g κ := by
 unfold vz jZ
 first | rfl | (simp only [xa, xb, xe, xc, T.bind_assoc, xaJ])
def XY {β : Type} (g : Geo) (p : Int) (κ : Bool → T β) : T β :=
 (isT g p 0).bind fun r0 =>
 bif !r0 then (κ (false)) else
 (YA g p).bind fun r2 =>
 bif !r2.has then (κ (false)) else
 bif decide (r2.cls ≥ 4) then (κ (false)) else
 bif decide (0 ≤ r2.cls ∧ r2.cls < 4) then ((xbr (Bt.mk r2.map r2.has r2.cls r2.ver) (bif r2.cls == 0 then (8 : Int) else bif r2.cls == 0 + 1 then (4 : Int) else bif r2.cls == 0 + 1 + 1 then (2 : Int) else (2 : Int))).bind fun r6 =>
 bif !r6 then (κ (false)) else
 (ZU g p (Bt.mk r2.map r2.has r2.cls r2.ver) (Bt.mk 0 false 0 (IntKind.u32.wrap (r2.ver + 1)))).bind fun r8 =>
 bif r8 then ((Ws g p 1).bind fun r10 =>
 κ (r10)) else
 κ (false)) else
 .fail
def kL (g : Geo) (p : Int) : T Bool := XY g p .ret
theorem xfm {β : Type} (g : Geo) (p : Int) (κ : Bool → T β) : (kL g p).bind κ = XY g p κ := by
 unfold kL XY
 first | rfl | (simp only [xa, xb, xe, xc, T.bind_assoc])
def ZZ {β : Type} (g : Geo) (κ : Bool → T β) : T β :=
 bif g.pages == 0 then (κ (true)) else
 κ (decide ((-1) ≥ 0))
def wQ (g : Geo) : T Bool := ZZ g .ret
theorem xiP {β : Type} (g : Geo) (κ : Bool → T β) : (wQ g).bind κ = ZZ g κ := by
 unfold wQ ZZ
 first | rfl | (simp only [xa, xb, xe, xc, T.bind_assoc])
def Kk {β : Type} (g : Geo) (k : Int) (κ : Bool → T β) : T β :=
 bif g.pages == 0 then (κ (true)) else
 (xef (-1) k).bind fun r1 =>
 κ (r1)
def qX (g : Geo) (k : Int) : T Bool := Kk g k .ret
theorem xiQ {β : Type} (g : Geo) (k : Int) (κ : Bool → T β) : (qX g k).bind κ = Kk g k κ := by
 unfold qX Kk
 first | rfl | (simp only [xa, xb, xe, xc, T.bind_assoc])
def xeo {β : Type} (g : Geo) (k j : Int) (κ : Bool → T β) : T β :=
 bif g.pages == 0 then (κ (true)) else
 (xiJ (-1) k j).bind fun r1 =>
 κ (r1)
def xiR (g : Geo) (k j : Int) : T Bool := xeo g k j .ret
theorem xiS {β : Type} (g : Geo) (k j : Int) (κ : Bool → T β) : (xiR g k j).bind κ = xeo g k j κ := by
 unfold xiR xeo
 first | rfl | (simp only [xa, xb, xe, xc, T.bind_assoc])
def xiT {β : Type} (g : Geo) (o k : Int) (κ : (Unit × Int) → T β) : T β :=
 (Wp g k).bind fun r0 =>
 (yF g o 1).bind fun r1 =>
 κ ((), (r1.2))
def xj (g : Geo) (o k : Int) : T (Unit × Int) := xiT g o k .ret
theorem xop {β : Type} (g : Geo) (o k : Int) (κ : (Unit × Int) → T β) : (xj g o k).bind κ = xiT g o k κ := by
 unfold xj xiT
 first | rfl | (simp only [xa, xb, xe, xc, T.bind_assoc])
def XZ {β : Type} (a0 a1 : Int) (g3 : Geo) (a5 : Int) (b6 : Bool) (a7 : Int) (κ0 : Int → Int → T β) (κ1 : Int → T β) (i : Int × Int) (k : Int × Int → T β) : T β :=
 bif decide (i.1 < a1) then ((hofT g3 i.2 i.1 a0).bind fun r1 =>
 bif !r1.1 then (k (IntKind.i64.wrap (i.1 + 1), r1.2)) else
 (xaA g3 i.1 a0).bind fun r3 =>
 bif r3.2 then (κ0 (r1.2) (r3.1)) else
 k (IntKind.i64.wrap (i.1 + 1), r1.2)) else
 κ1 (i.2)
def km {β : Type} (a0 a1 : Int) (g3 : Geo) (a5 : Int) (b6 : Bool) (a7 a2 a4 : Int) (κ0 : Int → Int → T β) (κ1 : Int → T β) : T β := xA xd (XZ a0 a1 g3 a5 b6 a7 κ0 κ1) (a2, a4)
theorem xep {β γ : Type} (a0 a1 : Int) (g3 : Geo) (a5 : Int) (b6 : Bool) (a7 a2 a4 : Int) (κ0 : Int → Int → T β) (κ1 : Int → T β) (κ : β → T γ) : (km a0 a1 g3 a5 b6 a7 a2 a4 κ0 κ1).bind κ = km a0 a1 g3 a5 b6 a7 a2 a4 (fun ae1 ae2 => (κ0 ae1 ae2).bind κ) (fun ae1 => (κ1 ae1).bind κ) := by
 unfold km
 refine xp κ (fun i k => ?_) _ _
 unfold XZ
 first | rfl | (simp only [xa, xb, xe, xc, T.bind_assoc])
def xeq : Pat := ⟨xr 40 0 [(0, .c (.raw (.ptr 0 0))), (1, .c (.int .i64)), (4, .c (.raw (.ptr 1 0))), (12, .c (.int .i64)), (13, .c (.int .i64))], [some ⟨[.raw (.port), .geo, .int .u64], 150, false, none⟩, some ⟨[.int .i64, .bool, .int .i64], 221, false, none⟩]⟩
def jf : Pat := ⟨xr 40 0 [(4, .c (.raw (.ptr 1 0)))], [some ⟨[.raw (.port), .geo, .int .u64], 150, false, none⟩, some ⟨[.int .i64, .bool, .int .i64], 221, false, none⟩]⟩
def Ya : St → (Ex → St → T R) → Option (T R) := fun st K => match xy xeq st with
 | some [.i a0, .i a1, .i a2, .g g3, .i a4, .i a5, .b b6, .i a7] => some (km a0 a1 g3 a5 b6 a7 a2 a4 (fun ae1 ae2 => K (.ret) (xf jf [.g g3, .i ae1, .i ae2, .b true, .i 0])) (fun ae1 => K (.exit 0) (xf jf [.g g3, .i ae1, .i a5, .b b6, .i a7])))
 | _ => none
theorem xoq : ∀ st K t, Ya st K = some t → xK xd (lf ka6 xd 1 .no [1, 0, 1, 0] Tryz.f227 K) st = t := by
 intro st K t h
 unfold Ya at h
 split at h
 ·rename_i a0 a1 a2 g3 a4 a5 b6 a7 hm
  cases h
  rw [xn hm]
  exact cast (by kernel_rfl) (xB (F := lf ka6 xd 1 .no [1, 0, 1, 0] Tryz.f227 K) (S := fun i => xf xeq [.i a0, .i a1, .i (i.1), .g g3, .i (i.2), .i a5, .b b6, .i a7]) (B := XZ a0 a1 g3 a5 b6 a7 (fun ae1 ae2 => K (.ret) (xf jf [.g g3, .i ae1, .i ae2, .b true, .i 0])) (fun ae1 => K (.exit 0) (xf jf [.g g3, .i ae1, .i a5, .b b6, .i a7]))) (fun i k => by kernel_rfl) xd (a2, a4))
 ·cases h
def xch {β : Type} (g : Geo) (o c : Int) (κ : (Fnd × Int) → T β) : T β :=
 km (c) (g.pages) (g) (0) (false) (0) (0) (o) (fun y0_0 y0_1 =>
 κ (⟨(y0_1), (true), (0)⟩, (y0_0))) (fun y0_0 =>
 κ (⟨(0), (false), (0)⟩, (y0_0)))
def Wt (g : Geo) (o c : Int) : T (Fnd × Int) := xch g o c .ret
theorem xlw {β : Type} (g : Geo) (o c : Int) (κ : (Fnd × Int) → T β) : (Wt g o c).bind κ = xch g o c κ := by
 unfold Wt xch
 first | rfl | (simp only [xa, xb, xe, xc, T.bind_assoc, xep])
def xci {β : Type} (g : Geo) (o c : Int) (κ : (Fnd × Int) → T β) : T β :=
 (tryT g).bind fun r0 =>
 bif !r0 then (κ (⟨(0), (false), (5)⟩, (o))) else
 (wP g 1 1).bind fun r2 =>
 bif r2.2 then ((xgE g r2.1 c).bind fun r4 =>
 (yF g o 1).bind fun r5 =>
 (ZW g).bind fun r6 =>
 κ (⟨(r4), (r2.2), (0)⟩, (r5.2))) else
 (ZW g).bind fun r4 =>
 κ (⟨(0), (r2.2), (0)⟩, (o))
def Wu (g : Geo) (o c : Int) : T (Fnd × Int) := xci g o c .ret
theorem xlx {β : Type} (g : Geo) (o c : Int) (κ : (Fnd × Int) → T β) : (Wu g o c).bind κ = xci g o c κ := by
 unfold Wu xci
 first | rfl | (simp only [xa, xb, xe, xc, T.bind_assoc])
def xaK {β : Type} (s : Int) (κ : Bool → T β) : T β :=
 bif decide (s > 0) then (κ (bits BinOp.and IntKind.i64 s (IntKind.i64.wrap (s - 1)) == 0)) else
 κ (false)
def xer (s : Int) : T Bool := xaK s .ret
theorem xfn {β : Type} (s : Int) (κ : Bool → T β) : (xer s).bind κ = xaK s κ := by
 unfold xer xaK
 first | rfl | (simp only [xa, xb, xe, xc, T.bind_assoc])
def Wv : Sm := fun args H => match args, H with
 | [.c .port, .agg gc], [] => (match xu gc with
   | some g => some (mkS (Int) (vz g) fun r => some (.c (.int .i64 r), []))
   | _ => none)
 | _, _ => none
theorem xfo : Good Tryz.prog (xt ka6) xd 0 (lsAt je .no [1, 1, 1, 0, 1, 0]) (Tryz.f170.body.getD .skip) (xv Tryz.f170.results.toList) := xH (xl (by kernel_rfl)) xE xiO
variable {σ : Type} {I : Port Tryz.prog σ}
theorem xiU (hl : SoundL I ka6) : SoundF I 170 Wv := by
 refine sq hl xd Tryz.func170 fun args H t ht => ?_
 unfold Wv at ht
 split at ht
 ·rename_i gc
  split at ht
  ·rename_i g hg
   obtain rfl := xh hg
   cases ht
   refine (xG (P := Tryz.prog) (n := xd) (x := (lsAt je .no [1, 1, 1, 0, 1, 0])) (fn := Tryz.f170) (H := []) (c := Tryz.f170.body.getD .skip) (xl (by kernel_rfl)) xfo).symm.trans ?_
   refine Eq.trans ?_ (xfl g _).symm
   kernel_rfl
  ·cases ht
 ·cases ht
def Ww : Sm := fun args H => match args, H with
 | [.c .port, .agg gc, .c (.int .i64 p)], [] => (match xu gc with
   | some g => some (mkS (Bool) (kL g p) fun r => some (.c (.bool r), []))
   | _ => none)
 | _, _ => none
theorem xiV (hl : SoundL I ka6) : SoundF I 270 Ww := by
 refine sq hl 1 Tryz.func270 fun args H t ht => ?_
 unfold Ww at ht
 split at ht
 ·rename_i gc p
  split at ht
  ·rename_i g hg
   obtain rfl := xh hg
   cases ht
   refine Eq.trans ?_ (xfm g p _).symm
   kernel_rfl
  ·cases ht
 ·cases ht
def xaL : Sm := fun args H => match args, H with
 | [.c .port, .agg gc, .c .nils], [] => (match xu gc with
   | some g => some (mkS (Bool) (wQ g) fun r => some (.c (.bool r), []))
   | _ => none)
 | _, _ => none
theorem xly (hl : SoundL I ka6) : SoundF I 200 xaL := by
 refine sq hl 5 Tryz.func200 fun args H t ht => ?_
 unfold xaL at ht
 split at ht
 ·rename_i gc
  split at ht
  ·rename_i g hg
   obtain rfl := xh hg
   cases ht
   refine Eq.trans ?_ (xiP g _).symm
   kernel_rfl
  ·cases ht
 ·cases ht
def xaM : Sm := fun args H => match args, H with
 | [.c .port, .agg gc, .c (.sl 0 0 1 1)], [some ⟨[.int .i64 k], 3, false, none⟩] => (match xu gc with
   | some g => some (mkS (Bool) (qX g k) fun r => some (.c (.bool r), [some ⟨[.int .i64 k], 3, false, none⟩]))
   | _ => none)
 | _, _ => none
theorem xlz (hl : SoundL I ka6) : SoundF I 200 xaM := by
 refine sq hl 5 Tryz.func200 fun args H t ht => ?_
 unfold xaM at ht
 split at ht
 ·rename_i gc k
  split at ht
  ·rename_i g hg
   obtain rfl := xh hg
   cases ht
   refine Eq.trans ?_ (xiQ g k _).symm
   kernel_rfl
  ·cases ht
 ·cases ht
def xaN : Sm := fun args H => match args, H with
 | [.c .port, .agg gc, .c (.sl 0 0 2 2)], [some ⟨[.int .i64 k, .int .i64 j], 3, false, none⟩] => (match xu gc with
   | some g => some (mkS (Bool) (xiR g k j) fun r => some (.c (.bool r), [some ⟨[.int .i64 k, .int .i64 j], 3, false, none⟩]))
   | _ => none)
 | _, _ => none
theorem xlA (hl : SoundL I ka6) : SoundF I 200 xaN := by
 refine sq hl 5 Tryz.func200 fun args H t ht => ?_
 unfold xaN at ht
 split at ht
 ·rename_i gc k j
  split at ht
  ·rename_i g hg
   obtain rfl := xh hg
   cases ht
   refine Eq.trans ?_ (xiS g k j _).symm
   kernel_rfl
  ·cases ht
 ·cases ht
def xiW : Sm := fun args H => match args, H with
 | [.c (.ptr 0 0), .c (.int .i64 k)], [some ⟨.port :: gc, 150, false, none⟩] => (match hdOf gc with
   | some (g, o) => some (mkS ((Unit × Int)) (xj g o k) fun r => some (.tup [], [some ⟨.port :: (g.cells ++ [.int .u64 r.2]), 150, false, none⟩]))
   | _ => none)
 | _, _ => none
theorem xrG (hl : SoundL I ka6) : SoundF I 213 xiW := by
 refine sq hl 1 Tryz.func213 fun args H t ht => ?_
 unfold xiW at ht
 split at ht
 ·rename_i k gc
  split at ht
  ·rename_i g o hg
   obtain rfl := yy hg
   cases ht
   refine Eq.trans ?_ (xop g o k _).symm
   kernel_rfl
  ·cases ht
 ·cases ht
def xes : Sm := fun args H => match args, H with
 | [.c (.ptr 0 0), .c (.int .i64 c)], [some ⟨.port :: gc, 150, false, none⟩] => (match hdOf gc with
   | some (g, o) => some (mkS ((Fnd × Int)) (Wt g o c) fun r => some (.agg r.1.cells, [some ⟨.port :: (g.cells ++ [.int .u64 r.2]), 150, false, none⟩]))
   | _ => none)
 | _, _ => none
theorem xlB : Good Tryz.prog (xt ka6) xd 1 (lsAt Ya .no [1, 0, 1, 0]) (Tryz.f227.body.getD .skip) (xv Tryz.f227.results.toList) := xH (xl (by kernel_rfl)) xE xoq
theorem xos (hl : SoundL I ka6) : SoundF I 227 xes := by
 refine sq hl xd Tryz.func227 fun args H t ht => ?_
 unfold xes at ht
 split at ht
 ·rename_i c gc
  split at ht
  ·rename_i g o hg
   obtain rfl := yy hg
   cases ht
   refine (xG (P := Tryz.prog) (n := xd) (x := (lsAt Ya .no [1, 0, 1, 0])) (fn := Tryz.f227) (H := [some ⟨.port :: (g.cells ++ [.int .u64 o]), 150, false, none⟩]) (c := Tryz.f227.body.getD .skip) (xl (by kernel_rfl)) xlB).symm.trans ?_
   refine Eq.trans ?_ (xlw g o c _).symm
   kernel_rfl
  ·cases ht
 ·cases ht
def xet : Sm := fun args H => match args, H with
 | [.c (.ptr 0 0), .c (.int .i64 c)], [some ⟨.port :: gc, 150, false, none⟩] => (match hdOf gc with
   | some (g, o) => some (mkS ((Fnd × Int)) (Wu g o c) fun r => some (.agg r.1.cells, [some ⟨.port :: (g.cells ++ [.int .u64 r.2]), 150, false, none⟩]))
   | _ => none)
 | _, _ => none
theorem xot (hl : SoundL I ka6) : SoundF I 228 xet := by
 refine sq hl 1 Tryz.func228 fun args H t ht => ?_
 unfold xet at ht
 split at ht
 ·rename_i c gc
  split at ht
  ·rename_i g o hg
   obtain rfl := yy hg
   cases ht
   refine Eq.trans ?_ (xlx g o c _).symm
   kernel_rfl
  ·cases ht
 ·cases ht
def Wx : Sm := fun args H => match args, H with
 | [.c (.int .i64 s)], [] => some (mkS (Bool) (xer s) fun r => some (.c (.bool r), []))
 | _, _ => none
theorem xiX (hl : SoundL I ka6) : SoundF I 153 Wx := by
 refine sq hl 1 Tryz.func153 fun args H t ht => ?_
 unfold Wx at ht
 split at ht
 ·rename_i s
  cases ht
  refine Eq.trans ?_ (xfn s _).symm
  kernel_rfl
 ·cases ht
def ka7 : List (Nat × Sm) := (170, Wv) :: (270, Ww) :: (200, (orSm xaL (orSm xaM xaN))) :: (213, xiW) :: (227, xes) :: (228, xet) :: (153, Wx) :: ka6
theorem Zl : SoundL I ka7 := (.cons (xiU YD) (.cons (xiV YD) (.cons (SoundF.or (xly YD) (SoundF.or (xlz YD) (xlA YD))) (.cons (xrG YD) (.cons (xos YD) (.cons (xot YD) (.cons (xiX YD) YD)))))))
end Go.Proofs.YtaegelbaghaooaaGreat.Lx
