/- Part. -/
import Derived.Test.YtaegelbaghaooaaGreatCfQA5
set_option linter.all false
open Go.IntKind (i64 u64 u32 u8)
namespace Go.Proofs.YtaegelbaghaooaaGreat.Lx
open Go
set_option maxRecDepth 1000000
def xkx {β : Type} (x : Int) (κ : Bool -> T β) : T β :=
 κ (decide (-1 >= 0))
def xq3 (x : Int) : T Bool := xkx x .ret
theorem xnK {β : Type} (x : Int) (κ : Bool -> T β) : (xq3 x).bind κ = xkx x κ := by
 unfold xq3 xkx
 first | rfl | simp only [bz]
def xdr {β : Type} (x k : Int) (κ : Bool -> T β) : T β :=
 (Xn x k).bind fun r0 =>
 κ (decide (r0 >= 0))
def xfF (x k : Int) : T Bool := xdr x k .ret
theorem xnL {β : Type} (x k : Int) (κ : Bool -> T β) : (xfF x k).bind κ = xdr x k κ := by
 unfold xfF xdr
 first | rfl | simp only [bz]
def xds {β : Type} (x k j : Int) (κ : Bool -> T β) : T β :=
 (KY x k j).bind fun r0 =>
 κ (decide (r0 >= 0))
def xfG (x k j : Int) : T Bool := xds x k j .ret
theorem xnM {β : Type} (x k j : Int) (κ : Bool -> T β) : (xfG x k j).bind κ = xds x k j κ := by
 unfold xfG xds
 first | rfl | simp only [bz]
def Zi {β : Type} (a0 a1 : Int) (b2 : Bool) (g4 : Geo) (a5 a6 a7 : Int) (κ0 : Unit -> T β) (i : Int) (k : Int -> T β) : T β :=
 bif decide (i < i64.wrap (a7 + a0)) then ((ji g4 i 0 0).bind fun r1 =>
 k (i64.wrap (i + 1))) else
 κ0 ()
def vm {β : Type} (a0 a1 : Int) (b2 : Bool) (g4 : Geo) (a5 a6 a7 a3 : Int) (κ0 : Unit -> T β) : T β := xr xa (Zi a0 a1 b2 g4 a5 a6 a7 κ0) a3
theorem xcG {β γ : Type} (a0 a1 : Int) (b2 : Bool) (g4 : Geo) (a5 a6 a7 a3 : Int) (κ0 : Unit -> T β) (κ : β -> T γ) : (vm a0 a1 b2 g4 a5 a6 a7 a3 κ0).bind κ = vm a0 a1 b2 g4 a5 a6 a7 a3 (fun u => (κ0 u).bind κ) := by
 unfold vm
 refine xj κ (fun i k => ?_) _ _
 unfold Zi
 first | rfl | simp only [bz]
def xcw : Pat := ⟨xm 86 0 [(2, .c (.int .i64)), (8, .c (.int .i64)), (9, .c (.bool)), (10, .c (.raw (.ptr 1 0))), (11, .c (.raw (.ptr 2 0))), (12, .c (.int .i64))], [none, some ⟨[.raw (.port), .geo], 212, false, none⟩, some ⟨[.int .i64, .int .i64, .int .i64], 296, false, none⟩]⟩
def KZ : Pat := ⟨xm 86 0 [(2, .c (.int .i64)), (8, .c (.int .i64)), (9, .c (.bool)), (10, .c (.raw (.ptr 1 0))), (11, .c (.raw (.ptr 2 0)))], [none, some ⟨[.raw (.port), .geo], 212, false, none⟩, some ⟨[.int .i64, .int .i64, .int .i64], 296, false, none⟩]⟩
def Zj : LF := fun st K => match xt xcw st with
 | some [.i a0, .i a1, .b b2, .i a3, .g g4, .i a5, .i a6, .i a7] => some (vm a0 a1 b2 g4 a5 a6 a7 a3 (fun _ => K (.exit 0) (xc KZ [.i a0, .i a1, .b b2, .g g4, .i a5, .i a6, .i a7])))
 | _ => none
theorem xnN : ∀ st K t, Zj st K = some t -> xz xa (lf ka5 xa 0 .no [1, 1, 1, 1, 1, 1, 0, 1, 0] Tryz.f229 K) st = t := by
 intro st K t h
 unfold Zj at h
 split at h
 ·rename_i a0 a1 b2 a3 g4 a5 a6 a7 hm
  cases h
  rw [xk hm]
  exact cast (by kernel_rfl) (xv (F := lf ka5 xa 0 .no [1, 1, 1, 1, 1, 1, 0, 1, 0] Tryz.f229 K) (S := fun i => xc xcw [.i a0, .i a1, .b b2, .i i, .g g4, .i a5, .i a6, .i a7]) (B := Zi a0 a1 b2 g4 a5 a6 a7 (fun _ => K (.exit 0) (xc KZ [.i a0, .i a1, .b b2, .g g4, .i a5, .i a6, .i a7]))) (fun i k => by kernel_rfl) xa a3)
 ·cases h
def Xo {β : Type} (g : Geo) (k a : Int) (κ : (Int × Bool) -> T β) : T β :=
 bif decide (k < 1) then (κ ((0), (false))) else
 bif decide (a < 1) then (κ ((0), (false))) else
 bif decide (k > g.pages) then (κ ((0), (false))) else
 (xim g k (if 256 < a then (256 : Int) else a)).bind fun r3 =>
 bif r3.n == 0 then (κ ((0), (false))) else
 (vK g r3.n true).bind fun r5 =>
 vm (k) (0) (false) (g) (r3.page) (r3.n) (r3.at_) (i64.wrap (r3.at_ + 1)) (fun y6_0 =>
 (ji g r3.at_ 4 k).bind fun r7 =>
 (layT g r3.page (i64.wrap (r3.at_ - r3.page))).bind fun r8 =>
 (layT g (i64.wrap (r3.at_ + k)) (i64.wrap (i64.wrap (i64.wrap (r3.page + r3.n) - r3.at_) - k))).bind fun r9 =>
 κ ((r3.at_), (true)))
def wL (g : Geo) (k a : Int) : T (Int × Bool) := Xo g k a .ret
theorem xky {β : Type} (g : Geo) (k a : Int) (κ : (Int × Bool) -> T β) : (wL g k a).bind κ = Xo g k a κ := by
 unfold wL Xo
 first | rfl | simp only [bz, xcG]
def xdt {β : Type} (g : Geo) (p k : Int) (κ : Bool -> T β) : T β :=
 bif decide (p < 0) then (κ (false)) else
 bif decide (k < 1) then (κ (false)) else
 bif decide (p >= g.pages) then (κ (false)) else
 (We g p).bind fun r3 =>
 (xic (Pg.mk r3.kind r3.len r3.cls r3.owner) k).bind fun r4 =>
 bif !r4 then (κ (false)) else
 (xbq g p).bind fun r6 =>
 (Yr g (i64.wrap (p + k))).bind fun r7 =>
 (ji g p 0 0).bind fun r8 =>
 bif decide (r6 > 0) then ((vK g r6 true).bind fun r10 =>
 (ji g (i64.wrap (p - 1)) 0 0).bind fun r11 =>
 bif decide (r7 > 0) then ((vK g r7 true).bind fun r13 =>
 (ji g (i64.wrap (p + k)) 0 0).bind fun r14 =>
 (layT g (i64.wrap (p - r6)) (i64.wrap (i64.wrap (r6 + k) + r7))).bind fun r15 =>
 κ (true)) else
 (layT g (i64.wrap (p - r6)) (i64.wrap (i64.wrap (r6 + k) + r7))).bind fun r13 =>
 κ (true)) else
 bif decide (r7 > 0) then ((vK g r7 true).bind fun r11 =>
 (ji g (i64.wrap (p + k)) 0 0).bind fun r12 =>
 (layT g (i64.wrap (p - r6)) (i64.wrap (i64.wrap (r6 + k) + r7))).bind fun r13 =>
 κ (true)) else
 (layT g (i64.wrap (p - r6)) (i64.wrap (i64.wrap (r6 + k) + r7))).bind fun r11 =>
 κ (true)
def Ve (g : Geo) (p k : Int) : T Bool := xdt g p k .ret
theorem xnO {β : Type} (g : Geo) (p k : Int) (κ : Bool -> T β) : (Ve g p k).bind κ = xdt g p k κ := by
 unfold Ve xdt
 first | rfl | simp only [bz]
def xdu {β : Type} (g : Geo) (κ : Unit -> T β) : T β :=
 (layT g 0 g.pages).bind fun r0 =>
 κ ()
def Xp (g : Geo) : T Unit := xdu g .ret
theorem xnP {β : Type} (g : Geo) (κ : Unit -> T β) : (Xp g).bind κ = xdu g κ := by
 unfold Xp xdu
 first | rfl | simp only [bz]
def xaa {β : Type} (g : Geo) (o n : Int) (κ : (Unit × Int) -> T β) : T β :=
 bif decide (n > 0) then (.op (.add (atF g 1 0) (u64.wrap n)) fun x1 =>
 κ ((), (u64.wrap (o + u64.wrap n)))) else
 κ ((), (o))
def yC (g : Geo) (o n : Int) : T (Unit × Int) := xaa g o n .ret
theorem xnQ {β : Type} (g : Geo) (o n : Int) (κ : (Unit × Int) -> T β) : (yC g o n).bind κ = xaa g o n κ := by
 unfold yC xaa
 first | rfl | simp only [bz]
def xst {β : Type} (g : Geo) (o p c : Int) (κ : (Bool × Int) -> T β) : T β :=
 .op (.load (atF g 8 p)) fun x0 =>
 bif if ofW i64 x0 8 3 > 0 then true else false then (κ (((bif decide (ofW i64 x0 8 3 > 0) then i64.wrap (ofW i64 x0 8 3 - 1) else (0 : Int)) == c), (o))) else
 κ ((false), (o))
def hofT (g : Geo) (o p c : Int) : T (Bool × Int) := xst g o p c .ret
theorem xuA {β : Type} (g : Geo) (o p c : Int) (κ : (Bool × Int) -> T β) : (hofT g o p c).bind κ = xst g o p c κ := by
 unfold hofT xst
 first | rfl | simp only [bz]
def xab {β : Type} (g : Geo) (o c : Int) (κ : (Fnd × Int) -> T β) : T β :=
 (jD g c).bind fun r0 =>
 κ (⟨(i64.wrap (i64.wrap r0.1 - 1)), (r0.2), (0)⟩, (o))
def YH (g : Geo) (o c : Int) : T (Fnd × Int) := xab g o c .ret
theorem xkz {β : Type} (g : Geo) (o c : Int) (κ : (Fnd × Int) -> T β) : (YH g o c).bind κ = xab g o c κ := by
 unfold YH xab
 first | rfl | simp only [bz]
def xdv {β : Type} (e l : Int) (κ : Res -> T β) : T β :=
 .op (.tell [.int .i64 (0), .int .i64 (0), .int .u8 (0), .int .u64 (0), .int .u64 (0), .int .u64 (0), .int .u64 (0), .int .u64 (0), .int .i64 (e), .int .i64 (l), .int .i64 (0)]) fun _ =>
 κ ⟨(0), (0), (0), (0), (0), (0), (0), (0), (e), (l), (0)⟩
def yZ (e l : Int) : T Res := xdv e l .ret
theorem xnR {β : Type} (e l : Int) (κ : Res -> T β) : (yZ e l).bind κ = xdv e l κ := by
 unfold yZ xdv
 first | rfl | simp only [bz]
def xfH {β : Type} (g : Geo) (k u z : Int) (κ : Res -> T β) : T β :=
 (xbr g k z).bind fun r0 =>
 .op (.steps ) fun x1 =>
 .op (.tell [.int .i64 (i64.wrap (k * 8)), .int .i64 (u), .int .u8 (0), .int .u64 (0), .int .u64 (0), .int .u64 (0), .int .u64 (0), .int .u64 (0), .int .i64 (0), .int .i64 x1, .int .i64 (0)]) fun _ =>
 κ ⟨(i64.wrap (k * 8)), (u), (0), (0), (0), (0), (0), (0), (0), x1, (0)⟩
def xac (g : Geo) (k u z : Int) : T Res := xfH g k u z .ret
theorem xq4 {β : Type} (g : Geo) (k u z : Int) (κ : Res -> T β) : (xac g k u z).bind κ = xfH g k u z κ := by
 unfold xac xfH
 first | rfl | simp only [bz]
def xkA {β : Type} (r0 : Res) (κ : Res -> T β) : T β :=
 .op (.steps ) fun x0 =>
 .op (.tell [.int .i64 (r0.at_), .int .i64 (r0.n), .int .u8 (r0.byte), .int .u64 (r0.c1), .int .u64 (r0.c2), .int .u64 (r0.c3), .int .u64 (r0.c4), .int .u64 (r0.c5), .int .i64 (r0.e), .int .i64 x0, .int .i64 (r0.touch)]) fun _ =>
 κ ⟨(r0.at_), (r0.n), (r0.byte), (r0.c1), (r0.c2), (r0.c3), (r0.c4), (r0.c5), (r0.e), x0, (r0.touch)⟩
def Wj (r0 : Res) : T Res := xkA r0 .ret
theorem xq5 {β : Type} (r0 : Res) (κ : Res -> T β) : (Wj r0).bind κ = xkA r0 κ := by
 unfold Wj xkA
 first | rfl | simp only [bz]
def xad {β : Type} (c : Cal) (κ : Int -> T β) : T β :=
 bif c.op == 2 then (κ (i64.wrap (c.size * c.n))) else
 κ (c.size)
def kR (c : Cal) : T Int := xad c .ret
theorem xnS {β : Type} (c : Cal) (κ : Int -> T β) : (kR c).bind κ = xad c κ := by
 unfold kR xad
 first | rfl | simp only [bz]
def Xq {β : Type} (r0 : Res) (κ : Bool -> T β) : T β :=
 bif r0.e == 15 then (κ (true)) else
 κ (r0.e == 5)
def wo (r0 : Res) : T Bool := Xq r0 .ret
theorem xkB {β : Type} (r0 : Res) (κ : Bool -> T β) : (wo r0).bind κ = Xq r0 κ := by
 unfold wo Xq
 first | rfl | simp only [bz]
def xdw {β : Type} (w : Pg) (κ : Int -> T β) : T β :=
 bif w.kind == 3 then (bif decide (0 <= w.cls /\ w.cls < 4) then (κ (bif w.cls == 0 then (8 : Int) else bif w.cls == 1 then (16 : Int) else bif w.cls == 2 then (24 : Int) else (32 : Int))) else
 .fail) else
 κ (i64.wrap (w.len * 64))
def xbF (w : Pg) : T Int := xdw w .ret
theorem xnT {β : Type} (w : Pg) (κ : Int -> T β) : (xbF w).bind κ = xdw w κ := by
 unfold xbF xdw
 first | rfl | simp only [bz]
def xae {β : Type} (r0 : Res) (κ : Res -> T β) : T β :=
 .op (.tell [.int .i64 (r0.at_), .int .i64 (r0.n), .int .u8 (r0.byte), .int .u64 (r0.c1), .int .u64 (r0.c2), .int .u64 (r0.c3), .int .u64 (r0.c4), .int .u64 (r0.c5), .int .i64 (r0.e), .int .i64 (r0.lin), .int .i64 (r0.touch)]) fun _ =>
 κ r0
def yi (r0 : Res) : T Res := xae r0 .ret
theorem xkC {β : Type} (r0 : Res) (κ : Res -> T β) : (yi r0).bind κ = xae r0 κ := by
 unfold yi xae
 first | rfl | simp only [bz]
def xfI : Sm := fun
 | [.c .nils, .c (.int .i64 x)], [] => some (mkS (Bool) (xq3 x) fun r => some (.c (.bool r), []))
 | _, _ => none
variable {σ : Type} {I : Port Tryz.prog σ}
theorem xq6 (hl : SoundL I ka5) : SoundF I 251 xfI := by
 refine sq hl 5 Tryz.func251 fun args H t ht => ?_
 unfold xfI at ht
 split at ht
 ·rename_i x
  cases ht
  refine Eq.trans ?_ (xnK x _).symm
  kernel_rfl
 ·cases ht
def xfJ : Sm := fun
 | [.c (.sl 0 0 1 1), .c (.int .i64 x)], [some ⟨[.int .i64 k], 3, false, none⟩] => some (mkS (Bool) (xfF x k) fun r => some (.c (.bool r), [some ⟨[.int .i64 k], 3, false, none⟩]))
 | _, _ => none
theorem xq7 (hl : SoundL I ka5) : SoundF I 251 xfJ := by
 refine sq hl 5 Tryz.func251 fun args H t ht => ?_
 unfold xfJ at ht
 split at ht
 ·rename_i x k
  cases ht
  refine Eq.trans ?_ (xnL x k _).symm
  kernel_rfl
 ·cases ht
def xfK : Sm := fun
 | [.c (.sl 0 0 2 2), .c (.int .i64 x)], [some ⟨[.int .i64 k, .int .i64 j], 3, false, none⟩] => some (mkS (Bool) (xfG x k j) fun r => some (.c (.bool r), [some ⟨[.int .i64 k, .int .i64 j], 3, false, none⟩]))
 | _, _ => none
theorem xq8 (hl : SoundL I ka5) : SoundF I 251 xfK := by
 refine sq hl 5 Tryz.func251 fun args H t ht => ?_
 unfold xfK at ht
 split at ht
 ·rename_i x k j
  cases ht
  refine Eq.trans ?_ (xnM x k j _).symm
  kernel_rfl
 ·cases ht
def xbG : Sm := fun
 | [.c .port, .agg gc, .c (.int .i64 k), .c (.int .i64 a)], [] => (match xu gc with
   | some g => some (mkS ((Int × Bool)) (wL g k a) fun r => some (.tup [.c (.int .i64 r.1), .c (.bool r.2)], []))
   | _ => none)
 | _, _ => none
theorem xkD : Good Tryz.prog (xo ka5) xa 0 (lsAt Zj .no [1, 1, 1, 1, 1, 1, 0, 1, 0]) (Tryz.f229.body.getD .skip) (xq Tryz.f229.results.toList) := xB (xi (by kernel_rfl)) xA xnN
theorem xnU (hl : SoundL I ka5) : SoundF I 229 xbG := by
 refine sq hl xa Tryz.func229 fun args H t ht => ?_
 unfold xbG at ht
 split at ht
 ·rename_i gc k a
  split at ht
  ·rename_i g hg
   obtain rfl := xe hg
   cases ht
   refine (xE (P := Tryz.prog) (n := xa) (x := (lsAt Zj .no [1, 1, 1, 1, 1, 1, 0, 1, 0])) (fn := Tryz.f229) (H := []) (c := Tryz.f229.body.getD .skip) (xi (by kernel_rfl)) xkD).symm.trans ?_
   refine Eq.trans ?_ (xky g k a _).symm
   kernel_rfl
  ·cases ht
 ·cases ht
def xnV : Sm := gS fun
 | g, [.c (.int .i64 p), .c (.int .i64 k)] => some (mkS (Bool) (Ve g p k) fun r => some (.c (.bool r), []))
 | _, _ => none
theorem xq9 (hl : SoundL I ka5) : SoundF I 235 xnV := by
 refine gsq hl 1 Tryz.func235 fun g l t ht => ?_
 split at ht
 ·rename_i p k
  cases ht
  refine Eq.trans ?_ (xnO g p k _).symm
  kernel_rfl
 ·cases ht
def xfL : Sm := gS fun
 | g, [] => some (mkS (Unit) (Xp g) fun r => some (.tup [], []))
 | _, _ => none
theorem xfM (hl : SoundL I ka5) : SoundF I 72 xfL := by
 refine gsq hl 1 Tryz.func72 fun g l t ht => ?_
 split at ht
 ·cases ht
  refine Eq.trans ?_ (xnP g _).symm
  kernel_rfl
 ·cases ht
def xfN : Sm := fun
 | [.c (.ptr 0 0), .c (.int .i64 n)], [some ⟨.port :: gc, 150, false, none⟩] => (match hdOf gc with
   | some (g, o) => some (mkS ((Unit × Int)) (yC g o n) fun r => some (.tup [], [some ⟨.port :: (g.cells ++ [.int .u64 r.2]), 150, false, none⟩]))
   | _ => none)
 | _, _ => none
theorem xra (hl : SoundL I ka5) : SoundF I 86 xfN := by
 refine sq hl 1 Tryz.func86 fun args H t ht => ?_
 unfold xfN at ht
 split at ht
 ·rename_i n gc
  split at ht
  ·rename_i g o hg
   obtain rfl := yt hg
   cases ht
   refine Eq.trans ?_ (xnQ g o n _).symm
   kernel_rfl
  ·cases ht
 ·cases ht
def xrb : Sm := fun
 | [.c (.ptr 0 0), .c (.int .i64 p), .c (.int .i64 c)], [some ⟨.port :: gc, 150, false, none⟩] => (match hdOf gc with
   | some (g, o) => some (mkS ((Bool × Int)) (hofT g o p c) fun r => some (.c (.bool r.1), [some ⟨.port :: (g.cells ++ [.int .u64 r.2]), 150, false, none⟩]))
   | _ => none)
 | _, _ => none
theorem xwu (hl : SoundL I ka5) : SoundF I 259 xrb := by
 refine sq hl 1 Tryz.func259 fun args H t ht => ?_
 unfold xrb at ht
 split at ht
 ·rename_i p c gc
  split at ht
  ·rename_i g o hg
   obtain rfl := yt hg
   cases ht
   refine Eq.trans ?_ (xuA g o p c _).symm
   kernel_rfl
  ·cases ht
 ·cases ht
def xbH : Sm := fun
 | [.c (.ptr 0 0), .c (.int .i64 c)], [some ⟨.port :: gc, 150, false, none⟩] => (match hdOf gc with
   | some (g, o) => some (mkS ((Fnd × Int)) (YH g o c) fun r => some (.agg r.1.cells, [some ⟨.port :: (g.cells ++ [.int .u64 r.2]), 150, false, none⟩]))
   | _ => none)
 | _, _ => none
theorem xnW (hl : SoundL I ka5) : SoundF I 224 xbH := by
 refine sq hl 1 Tryz.func224 fun args H t ht => ?_
 unfold xbH at ht
 split at ht
 ·rename_i c gc
  split at ht
  ·rename_i g o hg
   obtain rfl := yt hg
   cases ht
   refine Eq.trans ?_ (xkz g o c _).symm
   kernel_rfl
  ·cases ht
 ·cases ht
def xfO : Sm := fun
 | [.c .port, .c (.int .i64 e), .c (.int .i64 l)], [] => some (mkS (Res) (yZ e l) fun r => some (.agg r.cells, []))
 | _, _ => none
theorem xrc (hl : SoundL I ka5) : SoundF I 80 xfO := by
 refine sq hl 1 Tryz.func80 fun args H t ht => ?_
 unfold xfO at ht
 split at ht
 ·rename_i e l
  cases ht
  refine Eq.trans ?_ (xnR e l _).symm
  kernel_rfl
 ·cases ht
def xsu : Sm := gS fun
 | g, [.c (.int .i64 k), .c (.int .i64 u), .c (.int .i64 z)] => some (mkS (Res) (xac g k u z) fun r => some (.agg r.cells, []))
 | _, _ => none
theorem xuB (hl : SoundL I ka5) : SoundF I 81 xsu := by
 refine gsq hl 1 Tryz.func81 fun g l t ht => ?_
 split at ht
 ·rename_i k u z
  cases ht
  refine Eq.trans ?_ (xq4 g k u z _).symm
  kernel_rfl
 ·cases ht
def xkE : Sm := fun
 | [.c .port, .agg r0c], [] => (match Res.of r0c with
   | some r0 => some (mkS (Res) (Wj r0) fun r => some (.agg r.cells, []))
   | _ => none)
 | _, _ => none
theorem xuC (hl : SoundL I ka5) : SoundF I 135 xkE := by
 refine sq hl 1 Tryz.func135 fun args H t ht => ?_
 unfold xkE at ht
 split at ht
 ·rename_i r0c
  split at ht
  ·rename_i r0 hr0
   obtain rfl := Res.of_eq hr0
   cases ht
   refine Eq.trans ?_ (xq5 r0 _).symm
   kernel_rfl
  ·cases ht
 ·cases ht
def xfP : Sm := fun
 | [.agg cc], [] => (match Cal.of cc with
   | some c => some (mkS (Int) (kR c) fun r => some (.c (.int .i64 r), []))
   | _ => none)
 | _, _ => none
theorem xrd (hl : SoundL I ka5) : SoundF I 149 xfP := by
 refine sq hl 1 Tryz.func149 fun args H t ht => ?_
 unfold xfP at ht
 split at ht
 ·rename_i cc
  split at ht
  ·rename_i c hc
   obtain rfl := Cal.of_eq hc
   cases ht
   refine Eq.trans ?_ (xnS c _).symm
   kernel_rfl
  ·cases ht
 ·cases ht
def xbI : Sm := fun
 | [.agg r0c], [] => (match Res.of r0c with
   | some r0 => some (mkS (Bool) (wo r0) fun r => some (.c (.bool r), []))
   | _ => none)
 | _, _ => none
theorem xnX (hl : SoundL I ka5) : SoundF I 148 xbI := by
 refine sq hl 1 Tryz.func148 fun args H t ht => ?_
 unfold xbI at ht
 split at ht
 ·rename_i r0c
  split at ht
  ·rename_i r0 hr0
   obtain rfl := Res.of_eq hr0
   cases ht
   refine Eq.trans ?_ (xkB r0 _).symm
   kernel_rfl
  ·cases ht
 ·cases ht
def xfQ : Sm := fun
 | [.agg wc], [] => (match Pg.of wc with
   | some w => some (mkS (Int) (xbF w) fun r => some (.c (.int .i64 r), []))
   | _ => none)
 | _, _ => none
theorem xre (hl : SoundL I ka5) : SoundF I 208 xfQ := by
 refine sq hl 1 Tryz.func208 fun args H t ht => ?_
 unfold xfQ at ht
 split at ht
 ·rename_i wc
  split at ht
  ·rename_i w hw
   obtain rfl := Pg.of_eq hw
   cases ht
   refine Eq.trans ?_ (xnT w _).symm
   kernel_rfl
  ·cases ht
 ·cases ht
def xbJ : Sm := fun
 | [.c .port, .agg r0c], [] => (match Res.of r0c with
   | some r0 => some (mkS (Res) (yi r0) fun r => some (.agg r.cells, []))
   | _ => none)
 | _, _ => none
theorem xnY (hl : SoundL I ka5) : SoundF I 209 xbJ := by
 refine sq hl 1 Tryz.func209 fun args H t ht => ?_
 unfold xbJ at ht
 split at ht
 ·rename_i r0c
  split at ht
  ·rename_i r0 hr0
   obtain rfl := Res.of_eq hr0
   cases ht
   refine Eq.trans ?_ (xkC r0 _).symm
   kernel_rfl
  ·cases ht
 ·cases ht
def ka6 : List (Nat × Sm) := (251, (orSm xfI (orSm xfJ xfK))) :: (229, xbG) :: (235, xnV) :: (72, xfL) :: (86, xfN) :: (259, xrb) :: (224, xbH) :: (80, xfO) :: (81, xsu) :: (135, xkE) :: (149, xfP) :: (148, xbI) :: (208, xfQ) :: (209, xbJ) :: ka5
theorem wv : SoundL I ka6 := (.cons (SoundF.or (xq6 vS) (SoundF.or (xq7 vS) (xq8 vS))) (.cons (xnU vS) (.cons (xq9 vS) (.cons (xfM vS) (.cons (xra vS) (.cons (xwu vS) (.cons (xnW vS) (.cons (xrc vS) (.cons (xuB vS) (.cons (xuC vS) (.cons (xrd vS) (.cons (xnX vS) (.cons (xre vS) (.cons (xnY vS) vS))))))))))))))
end Go.Proofs.YtaegelbaghaooaaGreat.Lx
