/- Part. -/
import Derived.Test.YtaegelbaghaooaaGreatCrM10
set_option linter.all false
open Go.IntKind (i64 u64 u32 u8)
set_option maxRecDepth 1000000
namespace Go.Proofs.YtaegelbaghaooaaGreat
namespace Lx
variable {β : Type} (g : Geo)
open Go
def xjA (x : Int) (κ : Bool -> T β) : T β :=
 κ (decide (-1 >= 0))
def xpU (x : Int) : T Bool := xjA x .ret
theorem xmo (x : Int) (κ : Bool -> T β) : (xpU x).bind κ = xjA x κ := by
 unfold xpU xjA
 simp only [bz]
def xcG (x k : Int) (κ : Bool -> T β) : T β :=
 (Zm x k).bind fun r0 =>
 κ (decide (r0 >= 0))
def xd9 (x k : Int) : T Bool := xcG x k .ret
theorem xmp (x k : Int) (κ : Bool -> T β) : (xd9 x k).bind κ = xcG x k κ := by
 unfold xd9 xcG
 simp only [bz]
def xcH (x k j : Int) (κ : Bool -> T β) : T β :=
 (Vu x k j).bind fun r0 =>
 κ (decide (r0 >= 0))
def xea (x k j : Int) : T Bool := xcH x k j .ret
theorem xmq (x k j : Int) (κ : Bool -> T β) : (xea x k j).bind κ = xcH x k j κ := by
 unfold xea xcH
 simp only [bz]
def YX (a0 a1 : Int) (b2 : Bool) (g4 : Geo) (a5 a6 a7 : Int) (κ0 : Unit -> T β) (i : Int) (k : Int -> T β) : T β :=
 bif decide (i < i64.wrap (a7 + a0)) then ((kZ g4 i 0 0).bind fun r1 =>
 k (i64.wrap (i + 1))) else
 κ0 ()
def va (a0 a1 : Int) (b2 : Bool) (g4 : Geo) (a5 a6 a7 a3 : Int) (κ0 : Unit -> T β) : T β := xq xa (YX a0 a1 b2 g4 a5 a6 a7 κ0) a3
theorem xcc {β γ : Type} (a0 a1 : Int) (b2 : Bool) (g4 : Geo) (a5 a6 a7 a3 : Int) (κ0 : Unit -> T β) (κ : β -> T γ) : (va a0 a1 b2 g4 a5 a6 a7 a3 κ0).bind κ = va a0 a1 b2 g4 a5 a6 a7 a3 (fun u => (κ0 u).bind κ) := by
 unfold va
 refine xj κ (fun i k => ?_) _ _
 unfold YX
 simp only [bz]
def xbE : Pat := ⟨xm 86 0 [(2, .c (.int .i64)), (8, .c (.int .i64)), (9, .c (.bool)), (10, .c (.raw (.ptr 1 0))), (11, .c (.raw (.ptr 2 0))), (12, .c (.int .i64))], [none, some ⟨[.raw (.port), .geo], 212, false, none⟩, some ⟨[.int .i64, .int .i64, .int .i64], 296, false, none⟩]⟩
def xjB : Pat := ⟨xm 86 0 [(2, .c (.int .i64)), (8, .c (.int .i64)), (9, .c (.bool)), (10, .c (.raw (.ptr 1 0))), (11, .c (.raw (.ptr 2 0)))], [none, some ⟨[.raw (.port), .geo], 212, false, none⟩, some ⟨[.int .i64, .int .i64, .int .i64], 296, false, none⟩]⟩
def qm : LF := fun st K => match xt xbE st with
 | some [.i a0, .i a1, .b b2, .i a3, .g g4, .i a5, .i a6, .i a7] => some (va a0 a1 b2 g4 a5 a6 a7 a3 (fun _ => K (.exit 0) (xd xjB [.i a0, .i a1, .b b2, .g g4, .i a5, .i a6, .i a7])))
 | _ => none
theorem xmr : ∀ st K t, qm st K = some t -> xB xa (lf ka5 xa 0 .no [1, 1, 1, 1, 1, 1, 0, 1, 0] Tryz.f229 K) st = t := by
 intro st K t h
 unfold qm at h
 split at h
 ·rename_i a0 a1 b2 a3 g4 a5 a6 a7 hm
  cases h
  rw [xk hm]
  unfold va
  exact xu (S := fun (i : Int) => xd xbE [.i a0, .i a1, .b b2, .i i, .g g4, .i a5, .i a6, .i a7]) (fun i k => by kernel_rfl) xa a3
 ·cases h
def Zn (k a : Int) (κ : (Int × Bool) -> T β) : T β :=
 bif decide (k < 1) then (κ ((0), (false))) else
 bif decide (a < 1) then (κ ((0), (false))) else
 bif decide (k > g.pages) then (κ ((0), (false))) else
 (xhg g k (if 256 < a then (256 : Int) else a)).bind fun r3 =>
 bif r3.n == 0 then (κ ((0), (false))) else
 (vP g r3.n true).bind fun r5 =>
 va (k) (0) (false) (g) (r3.page) (r3.n) (r3.at_) (i64.wrap (r3.at_ + 1)) (fun y6_0 =>
 (kZ g r3.at_ 4 k).bind fun r7 =>
 (layT g r3.page (i64.wrap (r3.at_ - r3.page))).bind fun r8 =>
 (layT g (i64.wrap (r3.at_ + k)) (i64.wrap (i64.wrap (i64.wrap (r3.page + r3.n) - r3.at_) - k))).bind fun r9 =>
 κ ((r3.at_), (true)))
def wP (k a : Int) : T (Int × Bool) := Zn g k a .ret
theorem xjC (k a : Int) (κ : (Int × Bool) -> T β) : (wP g k a).bind κ = Zn g k a κ := by
 unfold wP Zn
 simp only [bz, xcc]
def xcI (p k : Int) (κ : Bool -> T β) : T β :=
 bif decide (p < 0) then (κ (false)) else
 bif decide (k < 1) then (κ (false)) else
 bif decide (p >= g.pages) then (κ (false)) else
 (Yx g p).bind fun r3 =>
 (xg6 (Pg.mk r3.kind r3.len r3.cls r3.owner) k).bind fun r4 =>
 bif !r4 then (κ (false)) else
 (xai g p).bind fun r6 =>
 (Xk g (i64.wrap (p + k))).bind fun r7 =>
 (kZ g p 0 0).bind fun r8 =>
 bif decide (r6 > 0) then ((vP g r6 true).bind fun r10 =>
 (kZ g (i64.wrap (p - 1)) 0 0).bind fun r11 =>
 bif decide (r7 > 0) then ((vP g r7 true).bind fun r13 =>
 (kZ g (i64.wrap (p + k)) 0 0).bind fun r14 =>
 (layT g (i64.wrap (p - r6)) (i64.wrap (i64.wrap (r6 + k) + r7))).bind fun r15 =>
 κ (true)) else
 (layT g (i64.wrap (p - r6)) (i64.wrap (i64.wrap (r6 + k) + r7))).bind fun r13 =>
 κ (true)) else
 bif decide (r7 > 0) then ((vP g r7 true).bind fun r11 =>
 (kZ g (i64.wrap (p + k)) 0 0).bind fun r12 =>
 (layT g (i64.wrap (p - r6)) (i64.wrap (i64.wrap (r6 + k) + r7))).bind fun r13 =>
 κ (true)) else
 (layT g (i64.wrap (p - r6)) (i64.wrap (i64.wrap (r6 + k) + r7))).bind fun r11 =>
 κ (true)
def YY (p k : Int) : T Bool := xcI g p k .ret
theorem xms (p k : Int) (κ : Bool -> T β) : (YY g p k).bind κ = xcI g p k κ := by
 unfold YY xcI
 simp only [bz]
def xcJ (κ : Unit -> T β) : T β :=
 (layT g 0 g.pages).bind fun r0 =>
 κ ()
def Zo : T Unit := xcJ g .ret
theorem xmt (κ : Unit -> T β) : (Zo g).bind κ = xcJ g κ := by
 unfold Zo xcJ
 simp only [bz]
def Vv (o n : Int) (κ : (Unit × Int) -> T β) : T β :=
 bif decide (n > 0) then (.op (.add (atF g 1 0) (u64.wrap n)) fun x1 =>
 κ ((), (u64.wrap (o + u64.wrap n)))) else
 κ ((), (o))
def yD (o n : Int) : T (Unit × Int) := Vv g o n .ret
theorem xmu (o n : Int) (κ : (Unit × Int) -> T β) : (yD g o n).bind κ = Vv g o n κ := by
 unfold yD Vv
 simp only [bz]
def xsx (o p c : Int) (κ : (Bool × Int) -> T β) : T β :=
 .op (.load (atF g 8 p)) fun x0 =>
 bif if ofW i64 x0 8 3 > 0 then true else false then (κ (((bif decide (ofW i64 x0 8 3 > 0) then i64.wrap (ofW i64 x0 8 3 - 1) else (0 : Int)) == c), (o))) else
 κ ((false), (o))
def hofT (o p c : Int) : T (Bool × Int) := xsx g o p c .ret
theorem xtL (o p c : Int) (κ : (Bool × Int) -> T β) : (hofT g o p c).bind κ = xsx g o p c κ := by
 unfold hofT xsx
 simp only [bz]
def Vw (o c : Int) (κ : (Fnd × Int) -> T β) : T β :=
 (jr g c).bind fun r0 =>
 κ (⟨(i64.wrap (i64.wrap r0.1 - 1)), (r0.2), (0)⟩, (o))
def XA (o c : Int) : T (Fnd × Int) := Vw g o c .ret
theorem xjD (o c : Int) (κ : (Fnd × Int) -> T β) : (XA g o c).bind κ = Vw g o c κ := by
 unfold XA Vw
 simp only [bz]
def xcK (e l : Int) (κ : Res -> T β) : T β :=
 .op (.tell [.int .i64 (0), .int .i64 (0), .int .u8 (0), .int .u64 (0), .int .u64 (0), .int .u64 (0), .int .u64 (0), .int .u64 (0), .int .i64 (e), .int .i64 (l), .int .i64 (0)]) fun _ =>
 κ ⟨(0), (0), (0), (0), (0), (0), (0), (0), (e), (l), (0)⟩
def vb (e l : Int) : T Res := xcK e l .ret
theorem xmv (e l : Int) (κ : Res -> T β) : (vb e l).bind κ = xcK e l κ := by
 unfold vb xcK
 simp only [bz]
def xeb (k u z : Int) (κ : Res -> T β) : T β :=
 (xaj g k z).bind fun r0 =>
 .op (.steps ) fun x1 =>
 .op (.tell [.int .i64 (i64.wrap (k * 8)), .int .i64 (u), .int .u8 (0), .int .u64 (0), .int .u64 (0), .int .u64 (0), .int .u64 (0), .int .u64 (0), .int .i64 (0), .int .i64 x1, .int .i64 (0)]) fun _ =>
 κ ⟨(i64.wrap (k * 8)), (u), (0), (0), (0), (0), (0), (0), (0), x1, (0)⟩
def Vx (k u z : Int) : T Res := xeb g k u z .ret
theorem xpV (k u z : Int) (κ : Res -> T β) : (Vx g k u z).bind κ = xeb g k u z κ := by
 unfold Vx xeb
 simp only [bz]
def xjE (r0 : Res) (κ : Res -> T β) : T β :=
 .op (.steps ) fun x0 =>
 .op (.tell [.int .i64 (r0.at_), .int .i64 (r0.n), .int .u8 (r0.byte), .int .u64 (r0.c1), .int .u64 (r0.c2), .int .u64 (r0.c3), .int .u64 (r0.c4), .int .u64 (r0.c5), .int .i64 (r0.e), .int .i64 x0, .int .i64 (r0.touch)]) fun _ =>
 κ ⟨(r0.at_), (r0.n), (r0.byte), (r0.c1), (r0.c2), (r0.c3), (r0.c4), (r0.c5), (r0.e), x0, (r0.touch)⟩
def YB (r0 : Res) : T Res := xjE r0 .ret
theorem xpW (r0 : Res) (κ : Res -> T β) : (YB r0).bind κ = xjE r0 κ := by
 unfold YB xjE
 simp only [bz]
def xcL (c : Cal) (κ : Int -> T β) : T β :=
 bif c.op == 2 then (κ (i64.wrap (c.size * c.n))) else
 κ (c.size)
def xaz (c : Cal) : T Int := xcL c .ret
theorem xmw (c : Cal) (κ : Int -> T β) : (xaz c).bind κ = xcL c κ := by
 unfold xaz xcL
 simp only [bz]
def Vy (r0 : Res) (κ : Bool -> T β) : T β :=
 bif r0.e == 15 then (κ (true)) else
 κ (r0.e == 5)
def qn (r0 : Res) : T Bool := Vy r0 .ret
theorem xjF (r0 : Res) (κ : Bool -> T β) : (qn r0).bind κ = Vy r0 κ := by
 unfold qn Vy
 simp only [bz]
def xcM (w : Pg) (κ : Int -> T β) : T β :=
 bif w.kind == 3 then (bif decide (0 <= w.cls /\ w.cls < 4) then (κ (bif w.cls == 0 then (8 : Int) else bif w.cls == 1 then (16 : Int) else bif w.cls == 2 then (24 : Int) else (32 : Int))) else
 .fail) else
 κ (i64.wrap (w.len * 64))
def xaA (w : Pg) : T Int := xcM w .ret
theorem xmx (w : Pg) (κ : Int -> T β) : (xaA w).bind κ = xcM w κ := by
 unfold xaA xcM
 simp only [bz]
def Vz (r0 : Res) (κ : Res -> T β) : T β :=
 .op (.tell [.int .i64 (r0.at_), .int .i64 (r0.n), .int .u8 (r0.byte), .int .u64 (r0.c1), .int .u64 (r0.c2), .int .u64 (r0.c3), .int .u64 (r0.c4), .int .u64 (r0.c5), .int .i64 (r0.e), .int .i64 (r0.lin), .int .i64 (r0.touch)]) fun _ =>
 κ r0
def yl (r0 : Res) : T Res := Vz r0 .ret
theorem xjG (r0 : Res) (κ : Res -> T β) : (yl r0).bind κ = Vz r0 κ := by
 unfold yl Vz
 simp only [bz]
def xec : Sm := fun
 | [.c .nils, .c (.int .i64 x)], [] => some (mkS (Bool) (xpU x) fun r => some (.c (.bool r), []))
 | _, _ => none
variable {σ : Type} {I : Port Tryz.prog σ}
theorem xpX (hl : SoundL I ka5) : SoundF I 251 xec := by
 refine sq hl 5 Tryz.func251 fun _ _ t ht => ?_
 unfold xec at ht
 split at ht
 ·rename_i x
  cases ht
  exact ey (xmo x _)
 ·cases ht
def xed : Sm := fun
 | [.c (.sl 0 0 1 1), .c (.int .i64 x)], [some ⟨[.int .i64 k], 3, false, none⟩] => some (mkS (Bool) (xd9 x k) fun r => some (.c (.bool r), [some ⟨[.int .i64 k], 3, false, none⟩]))
 | _, _ => none
theorem xpY (hl : SoundL I ka5) : SoundF I 251 xed := by
 refine sq hl 5 Tryz.func251 fun _ _ t ht => ?_
 unfold xed at ht
 split at ht
 ·rename_i x k
  cases ht
  exact ey (xmp x k _)
 ·cases ht
def xee : Sm := fun
 | [.c (.sl 0 0 2 2), .c (.int .i64 x)], [some ⟨[.int .i64 k, .int .i64 j], 3, false, none⟩] => some (mkS (Bool) (xea x k j) fun r => some (.c (.bool r), [some ⟨[.int .i64 k, .int .i64 j], 3, false, none⟩]))
 | _, _ => none
theorem xpZ (hl : SoundL I ka5) : SoundF I 251 xee := by
 refine sq hl 5 Tryz.func251 fun _ _ t ht => ?_
 unfold xee at ht
 split at ht
 ·rename_i x k j
  cases ht
  exact ey (xmq x k j _)
 ·cases ht
def xaB : Sm := fun
 | [.c .port, .agg gc, .c (.int .i64 k), .c (.int .i64 a)], [] => (match xv gc with
   | some g => some (mkS ((Int × Bool)) (wP g k a) fun r => some (.tup [.c (.int .i64 r.1), .c (.bool r.2)], []))
   | _ => none)
 | _, _ => none
theorem xjH : Good Tryz.prog (xo ka5) xa 0 (lsAt qm .no [1, 1, 1, 1, 1, 1, 0, 1, 0]) (Tryz.f229.body.getD .skip) (xr Tryz.f229.results.toList) := xA (xh (by kernel_rfl)) xz xmr
theorem xmy (hl : SoundL I ka5) : SoundF I 229 xaB := by
 refine sq hl xa Tryz.func229 fun _ _ t ht => ?_
 unfold xaB at ht
 split at ht
 ·rename_i gc k a
  split at ht
  ·rename_i g hg
   obtain rfl := xe hg
   cases ht
   refine (xD (P := Tryz.prog) (n := xa) (x := (lsAt qm .no [1, 1, 1, 1, 1, 1, 0, 1, 0])) (fn := Tryz.f229) (H := []) (c := Tryz.f229.body.getD .skip) (xh (by kernel_rfl)) xjH).symm.trans ?_
   exact ey (xjC g k a _)
  ·cases ht
 ·cases ht
def xmz : Sm := gS fun
 | g, [.c (.int .i64 p), .c (.int .i64 k)] => some (mkS (Bool) (YY g p k) fun r => some (.c (.bool r), []))
 | _, _ => none
theorem xp0 (hl : SoundL I ka5) : SoundF I 235 xmz := by
 refine gsq hl 1 Tryz.func235 fun g l t ht => ?_
 split at ht
 ·rename_i p k
  cases ht
  exact ey (xms g p k _)
 ·cases ht
def xef : Sm := gS fun
 | g, [] => some (mkS (Unit) (Zo g) fun r => some (.tup [], []))
 | _, _ => none
theorem xeg (hl : SoundL I ka5) : SoundF I 72 xef := by
 refine gsq hl 1 Tryz.func72 fun g l t ht => ?_
 split at ht
 ·cases ht
  exact ey (xmt g _)
 ·cases ht
def xeh : Sm := fun
 | [.c (.ptr 0 0), .c (.int .i64 n)], [some ⟨.port :: gc, 150, false, none⟩] => (match hdOf gc with
   | some (g, o) => some (mkS ((Unit × Int)) (yD g o n) fun r => some (.tup [], [some ⟨.port :: (g.cells ++ [.int .u64 r.2]), 150, false, none⟩]))
   | _ => none)
 | _, _ => none
theorem xp1 (hl : SoundL I ka5) : SoundF I 86 xeh := by
 refine sq hl 1 Tryz.func86 fun _ _ t ht => ?_
 unfold xeh at ht
 split at ht
 ·rename_i n gc
  split at ht
  ·rename_i g o hg
   obtain rfl := yq hg
   cases ht
   exact ey (xmu g o n _)
  ·cases ht
 ·cases ht
def xp2 : Sm := fun
 | [.c (.ptr 0 0), .c (.int .i64 p), .c (.int .i64 c)], [some ⟨.port :: gc, 150, false, none⟩] => (match hdOf gc with
   | some (g, o) => some (mkS ((Bool × Int)) (hofT g o p c) fun r => some (.c (.bool r.1), [some ⟨.port :: (g.cells ++ [.int .u64 r.2]), 150, false, none⟩]))
   | _ => none)
 | _, _ => none
theorem xvP (hl : SoundL I ka5) : SoundF I 259 xp2 := by
 refine sq hl 1 Tryz.func259 fun _ _ t ht => ?_
 unfold xp2 at ht
 split at ht
 ·rename_i p c gc
  split at ht
  ·rename_i g o hg
   obtain rfl := yq hg
   cases ht
   exact ey (xtL g o p c _)
  ·cases ht
 ·cases ht
def xaC : Sm := fun
 | [.c (.ptr 0 0), .c (.int .i64 c)], [some ⟨.port :: gc, 150, false, none⟩] => (match hdOf gc with
   | some (g, o) => some (mkS ((Fnd × Int)) (XA g o c) fun r => some (.agg r.1.cells, [some ⟨.port :: (g.cells ++ [.int .u64 r.2]), 150, false, none⟩]))
   | _ => none)
 | _, _ => none
theorem xmA (hl : SoundL I ka5) : SoundF I 224 xaC := by
 refine sq hl 1 Tryz.func224 fun _ _ t ht => ?_
 unfold xaC at ht
 split at ht
 ·rename_i c gc
  split at ht
  ·rename_i g o hg
   obtain rfl := yq hg
   cases ht
   exact ey (xjD g o c _)
  ·cases ht
 ·cases ht
def xei : Sm := fun
 | [.c .port, .c (.int .i64 e), .c (.int .i64 l)], [] => some (mkS (Res) (vb e l) fun r => some (.agg r.cells, []))
 | _, _ => none
theorem xp3 (hl : SoundL I ka5) : SoundF I 80 xei := by
 refine sq hl 1 Tryz.func80 fun _ _ t ht => ?_
 unfold xei at ht
 split at ht
 ·rename_i e l
  cases ht
  exact ey (xmv e l _)
 ·cases ht
def xsy : Sm := gS fun
 | g, [.c (.int .i64 k), .c (.int .i64 u), .c (.int .i64 z)] => some (mkS (Res) (Vx g k u z) fun r => some (.agg r.cells, []))
 | _, _ => none
theorem xtM (hl : SoundL I ka5) : SoundF I 81 xsy := by
 refine gsq hl 1 Tryz.func81 fun g l t ht => ?_
 split at ht
 ·rename_i k u z
  cases ht
  exact ey (xpV g k u z _)
 ·cases ht
def xjI : Sm := fun
 | [.c .port, .agg r0c], [] => (match Res.of r0c with
   | some r0 => some (mkS (Res) (YB r0) fun r => some (.agg r.cells, []))
   | _ => none)
 | _, _ => none
theorem xtN (hl : SoundL I ka5) : SoundF I 135 xjI := by
 refine sq hl 1 Tryz.func135 fun _ _ t ht => ?_
 unfold xjI at ht
 split at ht
 ·rename_i r0c
  split at ht
  ·rename_i r0 hr0
   obtain rfl := Res.of_eq hr0
   cases ht
   exact ey (xpW r0 _)
  ·cases ht
 ·cases ht
def xej : Sm := fun
 | [.agg cc], [] => (match Cal.of cc with
   | some c => some (mkS (Int) (xaz c) fun r => some (.c (.int .i64 r), []))
   | _ => none)
 | _, _ => none
theorem xp4 (hl : SoundL I ka5) : SoundF I 149 xej := by
 refine sq hl 1 Tryz.func149 fun _ _ t ht => ?_
 unfold xej at ht
 split at ht
 ·rename_i cc
  split at ht
  ·rename_i c hc
   obtain rfl := Cal.of_eq hc
   cases ht
   exact ey (xmw c _)
  ·cases ht
 ·cases ht
def xaD : Sm := fun
 | [.agg r0c], [] => (match Res.of r0c with
   | some r0 => some (mkS (Bool) (qn r0) fun r => some (.c (.bool r), []))
   | _ => none)
 | _, _ => none
theorem xmB (hl : SoundL I ka5) : SoundF I 148 xaD := by
 refine sq hl 1 Tryz.func148 fun _ _ t ht => ?_
 unfold xaD at ht
 split at ht
 ·rename_i r0c
  split at ht
  ·rename_i r0 hr0
   obtain rfl := Res.of_eq hr0
   cases ht
   exact ey (xjF r0 _)
  ·cases ht
 ·cases ht
def xek : Sm := fun
 | [.agg wc], [] => (match Pg.of wc with
   | some w => some (mkS (Int) (xaA w) fun r => some (.c (.int .i64 r), []))
   | _ => none)
 | _, _ => none
theorem xp5 (hl : SoundL I ka5) : SoundF I 208 xek := by
 refine sq hl 1 Tryz.func208 fun _ _ t ht => ?_
 unfold xek at ht
 split at ht
 ·rename_i wc
  split at ht
  ·rename_i w hw
   obtain rfl := Pg.of_eq hw
   cases ht
   exact ey (xmx w _)
  ·cases ht
 ·cases ht
def xaE : Sm := fun
 | [.c .port, .agg r0c], [] => (match Res.of r0c with
   | some r0 => some (mkS (Res) (yl r0) fun r => some (.agg r.cells, []))
   | _ => none)
 | _, _ => none
theorem xmC (hl : SoundL I ka5) : SoundF I 209 xaE := by
 refine sq hl 1 Tryz.func209 fun _ _ t ht => ?_
 unfold xaE at ht
 split at ht
 ·rename_i r0c
  split at ht
  ·rename_i r0 hr0
   obtain rfl := Res.of_eq hr0
   cases ht
   exact ey (xjG r0 _)
  ·cases ht
 ·cases ht
def ka6 : List (Nat × Sm) := (251, (orSm xec (orSm xed xee))) :: (229, xaB) :: (235, xmz) :: (72, xef) :: (86, xeh) :: (259, xp2) :: (224, xaC) :: (80, xei) :: (81, xsy) :: (135, xjI) :: (149, xej) :: (148, xaD) :: (208, xek) :: (209, xaE) :: ka5
theorem wC : SoundL I ka6 := (.cons (SoundF.or (xpX vY) (SoundF.or (xpY vY) (xpZ vY))) (.cons (xmy vY) (.cons (xp0 vY) (.cons (xeg vY) (.cons (xp1 vY) (.cons (xvP vY) (.cons (xmA vY) (.cons (xp3 vY) (.cons (xtM vY) (.cons (xtN vY) (.cons (xp4 vY) (.cons (xmB vY) (.cons (xp5 vY) (.cons (xmC vY) vY))))))))))))))
end Lx
namespace Lx
variable {β : Type} (g : Geo)
open Go
def yH (a0 : Int) (g3 g4 : Geo) (κ0 : Int -> T β) (i : Int × Int) (k : Int × Int -> T β) : T β :=
 bif decide (i.2 < g3.pages) then ((Yx g4 i.2).bind fun r1 =>
 bif r1.kind == 5 then ((YY g3 i.2 r1.len).bind fun r3 =>
 bif r3 then ((vO { kind := r1.kind, len := r1.len, cls := r1.cls, owner := r1.owner }).bind fun r5 =>
 k (i64.wrap (i.1 + 1), i64.wrap (i.2 + r5))) else
 (vO { kind := r1.kind, len := r1.len, cls := r1.cls, owner := r1.owner }).bind fun r5 =>
 k (i.1, i64.wrap (i.2 + r5))) else
 (vO { kind := r1.kind, len := r1.len, cls := r1.cls, owner := r1.owner }).bind fun r3 =>
 k (i.1, i64.wrap (i.2 + r3))) else
 κ0 (i.1)
def yI (a0 : Int) (g3 g4 : Geo) (a1 a2 : Int) (κ0 : Int -> T β) : T β := xq xa (yH a0 g3 g4 κ0) (a1, a2)
theorem xaF {β γ : Type} (a0 : Int) (g3 g4 : Geo) (a1 a2 : Int) (κ0 : Int -> T β) (κ : β -> T γ) : (yI a0 g3 g4 a1 a2 κ0).bind κ = yI a0 g3 g4 a1 a2 (fun ae1 => (κ0 ae1).bind κ) := by
 unfold yI
 refine xj κ (fun i k => ?_) _ _
 unfold yH
 simp only [bz]
def VA : Pat := ⟨xm 37 0 [(0, .c (.raw (.port))), (3, .c (.raw (.ptr 0 0))), (4, .c (.int .i64)), (5, .c (.raw (.ptr 1 0))), (6, .c (.int .i64)), (7, .c (.int .i64))], [some ⟨[.geo], 24, false, none⟩, some ⟨[.raw (.port), .geo], 212, false, none⟩]⟩
def xgl : Pat := ⟨xm 37 0 [(4, .c (.int .i64)), (6, .c (.int .i64))], []⟩
def je : LF := fun st K => match xt VA st with
 | some [.i a0, .i a1, .i a2, .g g3, .g g4] => some (yI a0 g3 g4 a1 a2 (fun ae1 => K (.exit 0) (xd xgl [.i a0, .i ae1])))
 | _ => none
theorem xjJ : ∀ st K t, je st K = some t -> xB xa (lf ka6 xa 0 .no [1, 1, 1, 0, 1, 0] Tryz.f170 K) st = t := by
 intro st K t h
 unfold je at h
 split at h
 ·rename_i a0 a1 a2 g3 g4 hm
  cases h
  rw [xk hm]
  unfold yI
  exact xu (S := fun (i : Int × Int) => xd VA [.i a0, .i (i.1), .i (i.2), .g g3, .g g4]) (fun i k => by kernel_rfl) xa (a1, a2)
 ·cases h
def jE (κ : Int -> T β) : T β :=
 yI (0) (g) (g) (0) (0) (fun y0_0 =>
 κ y0_0)
def vp : T Int := jE g .ret
theorem xgm (κ : Int -> T β) : (vp g).bind κ = jE g κ := by
 unfold vp jE
 simp only [bz, xaF]
def XB (p : Int) (κ : Bool -> T β) : T β :=
 (isT g p 0).bind fun r0 =>
 bif !r0 then (κ (false)) else
 (Yy g p).bind fun r2 =>
 bif !r2.has then (κ (false)) else
 bif decide (r2.cls >= 4) then (κ (false)) else
 bif decide (0 <= r2.cls /\ r2.cls < 4) then ((xbB (Bt.mk r2.map r2.has r2.cls r2.ver) (bif r2.cls == 0 then (8 : Int) else bif r2.cls == 0 + 1 then (4 : Int) else bif r2.cls == 0 + 1 + 1 then (2 : Int) else (2 : Int))).bind fun r6 =>
 bif !r6 then (κ (false)) else
 (Zi g p (Bt.mk r2.map r2.has r2.cls r2.ver) (Bt.mk 0 false 0 (u32.wrap (r2.ver + 1)))).bind fun r8 =>
 bif r8 then ((YY g p 1).bind fun r10 =>
 κ r10) else
 κ (false)) else
 .fail
def kz (p : Int) : T Bool := XB g p .ret
theorem xgn (p : Int) (κ : Bool -> T β) : (kz g p).bind κ = XB g p κ := by
 unfold kz XB
 simp only [bz]
def Zp (κ : Bool -> T β) : T β :=
 bif g.pages == 0 then (κ (true)) else
 κ (decide ((-1) >= 0))
def wQ : T Bool := Zp g .ret
theorem xjK (κ : Bool -> T β) : (wQ g).bind κ = Zp g κ := by
 unfold wQ Zp
 simp only [bz]
def VB (k : Int) (κ : Bool -> T β) : T β :=
 bif g.pages == 0 then (κ (true)) else
 (xd9 (-1) k).bind fun r1 =>
 κ r1
def wR (k : Int) : T Bool := VB g k .ret
theorem xjL (k : Int) (κ : Bool -> T β) : (wR g k).bind κ = VB g k κ := by
 unfold wR VB
 simp only [bz]
def VC (k j : Int) (κ : Bool -> T β) : T β :=
 bif g.pages == 0 then (κ (true)) else
 (xea (-1) k j).bind fun r1 =>
 κ r1
def XC (k j : Int) : T Bool := VC g k j .ret
theorem xjM (k j : Int) (κ : Bool -> T β) : (XC g k j).bind κ = VC g k j κ := by
 unfold XC VC
 simp only [bz]
def xjN (o k : Int) (κ : (Unit × Int) -> T β) : T β :=
 (YU g k).bind fun r0 =>
 (yD g o 1).bind fun r1 =>
 κ ((), (r1.2))
def xf (o k : Int) : T (Unit × Int) := xjN g o k .ret
theorem xp6 (o k : Int) (κ : (Unit × Int) -> T β) : (xf g o k).bind κ = xjN g o k κ := by
 unfold xf xjN
 simp only [bz]
def xaG (a0 a1 : Int) (g3 : Geo) (a5 : Int) (b6 : Bool) (a7 : Int) (κ0 : Int -> Int -> T β) (κ1 : Int -> T β) (i : Int × Int) (k : Int × Int -> T β) : T β :=
 bif decide (i.1 < a1) then ((hofT g3 i.2 i.1 a0).bind fun r1 =>
 bif !r1.1 then (k (i64.wrap (i.1 + 1), r1.2)) else
 (xar g3 i.1 a0).bind fun r3 =>
 bif r3.2 then (κ0 (r1.2) (r3.1)) else
 k (i64.wrap (i.1 + 1), r1.2)) else
 κ1 (i.2)
def wg (a0 a1 : Int) (g3 : Geo) (a5 : Int) (b6 : Bool) (a7 a2 a4 : Int) (κ0 : Int -> Int -> T β) (κ1 : Int -> T β) : T β := xq xa (xaG a0 a1 g3 a5 b6 a7 κ0 κ1) (a2, a4)
theorem xel {β γ : Type} (a0 a1 : Int) (g3 : Geo) (a5 : Int) (b6 : Bool) (a7 a2 a4 : Int) (κ0 : Int -> Int -> T β) (κ1 : Int -> T β) (κ : β -> T γ) : (wg a0 a1 g3 a5 b6 a7 a2 a4 κ0 κ1).bind κ = wg a0 a1 g3 a5 b6 a7 a2 a4 (fun ae1 ae2 => (κ0 ae1 ae2).bind κ) (fun ae1 => (κ1 ae1).bind κ) := by
 unfold wg
 refine xj κ (fun i k => ?_) _ _
 unfold xaG
 simp only [bz]
def xem : Pat := ⟨xm 40 0 [(0, .c (.raw (.ptr 0 0))), (1, .c (.int .i64)), (4, .c (.raw (.ptr 1 0))), (12, .c (.int .i64)), (13, .c (.int .i64))], [some ⟨[.raw (.port), .geo, .int .u64], 150, false, none⟩, some ⟨[.int .i64, .bool, .int .i64], 221, false, none⟩]⟩
def xbF : Pat := ⟨xm 40 0 [(4, .c (.raw (.ptr 1 0)))], [some ⟨[.raw (.port), .geo, .int .u64], 150, false, none⟩, some ⟨[.int .i64, .bool, .int .i64], 221, false, none⟩]⟩
def XD : LF := fun st K => match xt xem st with
 | some [.i a0, .i a1, .i a2, .g g3, .i a4, .i a5, .b b6, .i a7] => some (wg a0 a1 g3 a5 b6 a7 a2 a4 (fun ae1 ae2 => K (.ret) (xd xbF [.g g3, .i ae1, .i ae2, .b true, .i 0])) (fun ae1 => K (.exit 0) (xd xbF [.g g3, .i ae1, .i a5, .b b6, .i a7])))
 | _ => none
theorem xp7 : ∀ st K t, XD st K = some t -> xB xa (lf ka6 xa 1 .no [1, 0, 1, 0] Tryz.f227 K) st = t := by
 intro st K t h
 unfold XD at h
 split at h
 ·rename_i a0 a1 a2 g3 a4 a5 b6 a7 hm
  cases h
  rw [xk hm]
  unfold wg
  exact xu (S := fun (i : Int × Int) => xd xem [.i a0, .i a1, .i (i.1), .g g3, .i (i.2), .i a5, .b b6, .i a7]) (fun i k => by kernel_rfl) xa (a2, a4)
 ·cases h
def xcN (o c : Int) (κ : (Fnd × Int) -> T β) : T β :=
 wg (c) (g.pages) (g) (0) (false) (0) (0) (o) (fun y0_0 y0_1 =>
 κ (⟨(y0_1), (true), (0)⟩, y0_0)) (fun y0_0 =>
 κ (⟨(0), (false), (0)⟩, y0_0))
def YZ (o c : Int) : T (Fnd × Int) := xcN g o c .ret
theorem xmD (o c : Int) (κ : (Fnd × Int) -> T β) : (YZ g o c).bind κ = xcN g o c κ := by
 unfold YZ xcN
 simp only [bz, xel]
def xcO (o c : Int) (κ : (Fnd × Int) -> T β) : T β :=
 (tryT g).bind fun r0 =>
 bif !r0 then (κ (⟨(0), (false), (5)⟩, (o))) else
 (wP g 1 1).bind fun r2 =>
 bif r2.2 then ((xhc g r2.1 c).bind fun r4 =>
 (yD g o 1).bind fun r5 =>
 (Zl g).bind fun r6 =>
 κ (⟨(r4), (r2.2), (0)⟩, (r5.2))) else
 (Zl g).bind fun r4 =>
 κ (⟨(0), (r2.2), (0)⟩, (o))
def Wa (o c : Int) : T (Fnd × Int) := xcO g o c .ret
theorem xmE (o c : Int) (κ : (Fnd × Int) -> T β) : (Wa g o c).bind κ = xcO g o c κ := by
 unfold Wa xcO
 simp only [bz]
def xcP (a b : Int) (κ : Unit -> T β) : T β :=
 .op (.add (atF g 2 a) (u64.wrap b)) fun x0 =>
 κ ()
def Wb (a b : Int) : T Unit := xcP g a b .ret
theorem xmF (a b : Int) (κ : Unit -> T β) : (Wb g a b).bind κ = xcP g a b κ := by
 unfold Wb xcP
 simp only [bz]
def xcQ (a b c d e f : Int) (κ : Unit -> T β) : T β :=
 .op (.add (atF g 2 a) (u64.wrap b)) fun x0 =>
 .op (.add (atF g 2 c) (u64.wrap d)) fun x1 =>
 .op (.add (atF g 2 e) (u64.wrap f)) fun x2 =>
 κ ()
def Wc (a b c d e f : Int) : T Unit := xcQ g a b c d e f .ret
theorem xmG (a b c d e f : Int) (κ : Unit -> T β) : (Wc g a b c d e f).bind κ = xcQ g a b c d e f κ := by
 unfold Wc xcQ
 simp only [bz]
def xcR (κ : Cts -> T β) : T β :=
 .op (.load (atF g 2 0)) fun x0 =>
 .op (.load (atF g 2 1)) fun x1 =>
 .op (.load (atF g 2 2)) fun x2 =>
 .op (.load (atF g 2 3)) fun x3 =>
 .op (.load (atF g 2 4)) fun x4 =>
 κ ⟨(x0), x1, x2, x3, (x4)⟩
def xen : T Cts := xcR g .ret
theorem xmH (κ : Cts -> T β) : (xen g).bind κ = xcR g κ := by
 unfold xen xcR
 simp only [bz]
def VD (a s : Int) (κ : Int -> T β) : T β :=
 bif decide (s < 1) then (κ (11)) else
 bif decide (s > i64.wrap (g.pages * 64)) then (κ (11)) else
 bif decide (a < 0) then (κ (13)) else
 bif decide (a >= i64.wrap (g.pages * 64)) then (κ (13)) else
 bif Int.tmod a 8 != 0 then (κ (13)) else
 κ (0)
def XE (a s : Int) : T Int := VD g a s .ret
theorem xjO (a s : Int) (κ : Int -> T β) : (XE g a s).bind κ = VD g a s κ := by
 unfold XE VD
 simp only [bz]
def xcS (g : Geo) (x : Rn) (r0 : Res) (κ : (Res × Rn) -> T β) : T β :=
 .op (.tell [.int .i64 (r0.at_), .int .i64 (r0.n), .int .u8 (r0.byte), .int .u64 (r0.c1), .int .u64 (r0.c2), .int .u64 (r0.c3), .int .u64 (r0.c4), .int .u64 (r0.c5), .int .i64 (r0.e), .int .i64 (r0.lin), .int .i64 (r0.touch)]) fun _ =>
 κ (r0, x)
def wH (x : Rn) (r0 : Res) : T (Res × Rn) := xcS g x r0 .ret
theorem xmI (x : Rn) (r0 : Res) (κ : (Res × Rn) -> T β) : (wH g x r0).bind κ = xcS g x r0 κ := by
 unfold wH xcS
 simp only [bz]
def VE (x : Rn) (κ : (Int × Rn) -> T β) : T β :=
 (vX g x.grain).bind fun r0 =>
 bif r0.kind == 3 then (bif decide (0 <= r0.cls /\ r0.cls < 4) then (κ ((bif r0.cls == 0 then (8 : Int) else bif r0.cls == 1 then (16 : Int) else bif r0.cls == 2 then (24 : Int) else (32 : Int)), x)) else
 .fail) else
 bif r0.kind == 4 then (κ ((i64.wrap (r0.len * 64)), x)) else
 κ ((0), x)
def Wd (x : Rn) : T (Int × Rn) := VE g x .ret
theorem xmJ (x : Rn) (κ : (Int × Rn) -> T β) : (Wd g x).bind κ = VE g x κ := by
 unfold Wd VE
 simp only [bz]
def We (a0 : Int) (g2 : Geo) (a3 a4 a5 a6 : Int) (b7 : Bool) (κ0 : Unit -> T β) (i : Int) (k : Int -> T β) : T β :=
 bif decide (i < a0) then (.op (.get (i64.wrap (i64.wrap (a3 * 8) + i))) fun x1 =>
 .op (.put (i64.wrap (i64.wrap (a5 * 8) + i)) x1) fun _ =>
 k (i64.wrap (i + 1))) else
 κ0 ()
def vv (a0 : Int) (g2 : Geo) (a3 a4 a5 a6 : Int) (b7 : Bool) (a1 : Int) (κ0 : Unit -> T β) : T β := xq xa (We a0 g2 a3 a4 a5 a6 b7 κ0) a1
theorem xcd {β γ : Type} (a0 : Int) (g2 : Geo) (a3 a4 a5 a6 : Int) (b7 : Bool) (a1 : Int) (κ0 : Unit -> T β) (κ : β -> T γ) : (vv a0 g2 a3 a4 a5 a6 b7 a1 κ0).bind κ = vv a0 g2 a3 a4 a5 a6 b7 a1 (fun u => (κ0 u).bind κ) := by
 unfold vv
 refine xj κ (fun i k => ?_) _ _
 unfold We
 simp only [bz]
def xbG : Pat := ⟨xm 38 0 [(0, .c (.raw (.ptr 0 0))), (5, .c (.int .i64)), (6, .c (.int .i64))], [some ⟨[.raw (.port), .geo, .int .i64, .int .i64, .int .i64, .int .i64, .bool], 179, false, none⟩]⟩
def xjP : Pat := ⟨xm 38 0 [], [some ⟨[.raw (.port), .geo, .int .i64, .int .i64, .int .i64, .int .i64, .bool], 179, false, none⟩]⟩
def qo : LF := fun st K => match xt xbG st with
 | some [.i a0, .i a1, .g g2, .i a3, .i a4, .i a5, .i a6, .b b7] => some (vv a0 g2 a3 a4 a5 a6 b7 a1 (fun _ => K (.exit 0) (xd xjP [.g g2, .i a3, .i a4, .i a5, .i a6, .b b7])))
 | _ => none
theorem xmK : ∀ st K t, qo st K = some t -> xB xa (lf ka6 xa 1 .no [1, 0] Tryz.f194 K) st = t := by
 intro st K t h
 unfold qo at h
 split at h
 ·rename_i a0 a1 g2 a3 a4 a5 a6 b7 hm
  cases h
  rw [xk hm]
  unfold vv
  exact xu (S := fun (i : Int) => xd xbG [.i a0, .i i, .g g2, .i a3, .i a4, .i a5, .i a6, .b b7]) (fun i k => by kernel_rfl) xa a1
 ·cases h
def VF (x : Rn) (n : Int) (κ : (Unit × Rn) -> T β) : T β :=
 vv (n) (g) (x.grain) (x.size) (x.to) (x.usable) (x.has) (0) (fun y0_0 =>
 κ ((), x))
def jf (x : Rn) (n : Int) : T (Unit × Rn) := VF g x n .ret
theorem xjQ (x : Rn) (n : Int) (κ : (Unit × Rn) -> T β) : (jf g x n).bind κ = VF g x n κ := by
 unfold jf VF
 simp only [bz, xcd]
def xaH (s : Int) (κ : Bool -> T β) : T β :=
 bif decide (s > 0) then (κ (bits BinOp.and i64 s (i64.wrap (s - 1)) == 0)) else
 κ (false)
def xeo (s : Int) : T Bool := xaH s .ret
theorem xgo (s : Int) (κ : Bool -> T β) : (xeo s).bind κ = xaH s κ := by
 unfold xeo xaH
 simp only [bz]
def Wf : Sm := fun
 | [.c .port, .agg gc], [] => (match xv gc with
   | some g => some (mkS (Int) (vp g) fun r => some (.c (.int .i64 r), []))
   | _ => none)
 | _, _ => none
theorem xgp : Good Tryz.prog (xo ka6) xa 0 (lsAt je .no [1, 1, 1, 0, 1, 0]) (Tryz.f170.body.getD .skip) (xr Tryz.f170.results.toList) := xA (xh (by kernel_rfl)) xz xjJ
variable {σ : Type} {I : Port Tryz.prog σ}
theorem xjR (hl : SoundL I ka6) : SoundF I 170 Wf := by
 refine sq hl xa Tryz.func170 fun _ _ t ht => ?_
 unfold Wf at ht
 split at ht
 ·rename_i gc
  split at ht
  ·rename_i g hg
   obtain rfl := xe hg
   cases ht
   refine (xD (P := Tryz.prog) (n := xa) (x := (lsAt je .no [1, 1, 1, 0, 1, 0])) (fn := Tryz.f170) (H := []) (c := Tryz.f170.body.getD .skip) (xh (by kernel_rfl)) xgp).symm.trans ?_
   exact ey (xgm g _)
  ·cases ht
 ·cases ht
def xep : Sm := gS fun
 | g, [.c (.int .i64 p)] => some (mkS (Bool) (kz g p) fun r => some (.c (.bool r), []))
 | _, _ => none
theorem xjS (hl : SoundL I ka6) : SoundF I 270 xep := by
 refine gsq hl 1 Tryz.func270 fun g l t ht => ?_
 split at ht
 ·rename_i p
  cases ht
  exact ey (xgn g p _)
 ·cases ht
def xhh : Sm := gS fun
 | g, [.c .nils] => some (mkS (Bool) (wQ g) fun r => some (.c (.bool r), []))
 | _, _ => none
theorem xmL (hl : SoundL I ka6) : SoundF I 200 xhh := by
 refine gsq hl 5 Tryz.func200 fun g l t ht => ?_
 split at ht
 ·cases ht
  exact ey (xjK g _)
 ·cases ht
def xaI : Sm := fun
 | [.c .port, .agg gc, .c (.sl 0 0 1 1)], [some ⟨[.int .i64 k], 3, false, none⟩] => (match xv gc with
   | some g => some (mkS (Bool) (wR g k) fun r => some (.c (.bool r), [some ⟨[.int .i64 k], 3, false, none⟩]))
   | _ => none)
 | _, _ => none
theorem xmM (hl : SoundL I ka6) : SoundF I 200 xaI := by
 refine sq hl 5 Tryz.func200 fun _ _ t ht => ?_
 unfold xaI at ht
 split at ht
 ·rename_i gc k
  split at ht
  ·rename_i g hg
   obtain rfl := xe hg
   cases ht
   exact ey (xjL g k _)
  ·cases ht
 ·cases ht
def xaJ : Sm := fun
 | [.c .port, .agg gc, .c (.sl 0 0 2 2)], [some ⟨[.int .i64 k, .int .i64 j], 3, false, none⟩] => (match xv gc with
   | some g => some (mkS (Bool) (XC g k j) fun r => some (.c (.bool r), [some ⟨[.int .i64 k, .int .i64 j], 3, false, none⟩]))
   | _ => none)
 | _, _ => none
theorem xmN (hl : SoundL I ka6) : SoundF I 200 xaJ := by
 refine sq hl 5 Tryz.func200 fun _ _ t ht => ?_
 unfold xaJ at ht
 split at ht
 ·rename_i gc k j
  split at ht
  ·rename_i g hg
   obtain rfl := xe hg
   cases ht
   exact ey (xjM g k j _)
  ·cases ht
 ·cases ht
def xjT : Sm := fun
 | [.c (.ptr 0 0), .c (.int .i64 k)], [some ⟨.port :: gc, 150, false, none⟩] => (match hdOf gc with
   | some (g, o) => some (mkS ((Unit × Int)) (xf g o k) fun r => some (.tup [], [some ⟨.port :: (g.cells ++ [.int .u64 r.2]), 150, false, none⟩]))
   | _ => none)
 | _, _ => none
theorem xtO (hl : SoundL I ka6) : SoundF I 213 xjT := by
 refine sq hl 1 Tryz.func213 fun _ _ t ht => ?_
 unfold xjT at ht
 split at ht
 ·rename_i k gc
  split at ht
  ·rename_i g o hg
   obtain rfl := yq hg
   cases ht
   exact ey (xp6 g o k _)
  ·cases ht
 ·cases ht
def xeq : Sm := fun
 | [.c (.ptr 0 0), .c (.int .i64 c)], [some ⟨.port :: gc, 150, false, none⟩] => (match hdOf gc with
   | some (g, o) => some (mkS ((Fnd × Int)) (YZ g o c) fun r => some (.agg r.1.cells, [some ⟨.port :: (g.cells ++ [.int .u64 r.2]), 150, false, none⟩]))
   | _ => none)
 | _, _ => none
theorem xmO : Good Tryz.prog (xo ka6) xa 1 (lsAt XD .no [1, 0, 1, 0]) (Tryz.f227.body.getD .skip) (xr Tryz.f227.results.toList) := xA (xh (by kernel_rfl)) xz xp7
theorem xp8 (hl : SoundL I ka6) : SoundF I 227 xeq := by
 refine sq hl xa Tryz.func227 fun _ _ t ht => ?_
 unfold xeq at ht
 split at ht
 ·rename_i c gc
  split at ht
  ·rename_i g o hg
   obtain rfl := yq hg
   cases ht
   refine (xD (P := Tryz.prog) (n := xa) (x := (lsAt XD .no [1, 0, 1, 0])) (fn := Tryz.f227) (H := [some ⟨.port :: (g.cells ++ [.int .u64 o]), 150, false, none⟩]) (c := Tryz.f227.body.getD .skip) (xh (by kernel_rfl)) xmO).symm.trans ?_
   exact ey (xmD g o c _)
  ·cases ht
 ·cases ht
def xer : Sm := fun
 | [.c (.ptr 0 0), .c (.int .i64 c)], [some ⟨.port :: gc, 150, false, none⟩] => (match hdOf gc with
   | some (g, o) => some (mkS ((Fnd × Int)) (Wa g o c) fun r => some (.agg r.1.cells, [some ⟨.port :: (g.cells ++ [.int .u64 r.2]), 150, false, none⟩]))
   | _ => none)
 | _, _ => none
theorem xp9 (hl : SoundL I ka6) : SoundF I 228 xer := by
 refine sq hl 1 Tryz.func228 fun _ _ t ht => ?_
 unfold xer at ht
 split at ht
 ·rename_i c gc
  split at ht
  ·rename_i g o hg
   obtain rfl := yq hg
   cases ht
   exact ey (xmE g o c _)
  ·cases ht
 ·cases ht
def xes : Sm := fun
 | [.c .port, .agg gc, .c (.sl 0 0 1 1)], [some ⟨[.int .i64 a, .int .i64 b], 291, false, none⟩] => (match xv gc with
   | some g => some (mkS (Unit) (Wb g a b) fun r => some (.tup [], [some ⟨[.int .i64 a, .int .i64 b], 291, false, none⟩]))
   | _ => none)
 | _, _ => none
theorem xqa (hl : SoundL I ka6) : SoundF I 252 xes := by
 refine sq hl 5 Tryz.func252 fun _ _ t ht => ?_
 unfold xes at ht
 split at ht
 ·rename_i gc a b
  split at ht
  ·rename_i g hg
   obtain rfl := xe hg
   cases ht
   exact ey (xmF g a b _)
  ·cases ht
 ·cases ht
def xet : Sm := fun
 | [.c .port, .agg gc, .c (.sl 0 0 3 3)], [some ⟨[.int .i64 a, .int .i64 b, .int .i64 c, .int .i64 d, .int .i64 e, .int .i64 f], 291, false, none⟩] => (match xv gc with
   | some g => some (mkS (Unit) (Wc g a b c d e f) fun r => some (.tup [], [some ⟨[.int .i64 a, .int .i64 b, .int .i64 c, .int .i64 d, .int .i64 e, .int .i64 f], 291, false, none⟩]))
   | _ => none)
 | _, _ => none
theorem xqb (hl : SoundL I ka6) : SoundF I 252 xet := by
 refine sq hl 5 Tryz.func252 fun _ _ t ht => ?_
 unfold xet at ht
 split at ht
 ·rename_i gc a b c d e f
  split at ht
  ·rename_i g hg
   obtain rfl := xe hg
   cases ht
   exact ey (xmG g a b c d e f _)
  ·cases ht
 ·cases ht
def xmP : Sm := gS fun
 | g, [] => some (mkS (Cts) (xen g) fun r => some (.agg r.cells, []))
 | _, _ => none
theorem xqc (hl : SoundL I ka6) : SoundF I 136 xmP := by
 refine gsq hl 7 Tryz.func136 fun g l t ht => ?_
 split at ht
 ·cases ht
  exact ey (xmH g _)
 ·cases ht
def xaK : Sm := fun
 | [.agg gc, .c (.int .i64 a), .c (.int .i64 s)], [] => (match xv gc with
   | some g => some (mkS (Int) (XE g a s) fun r => some (.c (.int .i64 r), []))
   | _ => none)
 | _, _ => none
theorem xmQ (hl : SoundL I ka6) : SoundF I 113 xaK := by
 refine sq hl 1 Tryz.func113 fun _ _ t ht => ?_
 unfold xaK at ht
 split at ht
 ·rename_i gc a s
  split at ht
  ·rename_i g hg
   obtain rfl := xe hg
   cases ht
   exact ey (xjO g a s _)
  ·cases ht
 ·cases ht
def xeu : Sm := fun
 | [.c (.ptr 0 0), .agg r0c], [some ⟨.port :: gc, 179, false, none⟩] => (match rnOf gc with
   | some (g, x) => (match Res.of r0c with
   | some r0 => some (mkS ((Res × Rn)) (wH g x r0) fun r => some (.agg r.1.cells, [some ⟨.port :: (g.cells ++ r.2.cells), 179, false, none⟩]))
   | _ => none)
   | _ => none)
 | _, _ => none
theorem xqd (hl : SoundL I ka6) : SoundF I 114 xeu := by
 refine sq hl 1 Tryz.func114 fun _ _ t ht => ?_
 unfold xeu at ht
 split at ht
 ·rename_i r0c gc
  split at ht
  ·rename_i g x hg
   obtain rfl := Xn hg
   split at ht
   ·rename_i r0 hr0
    obtain rfl := Res.of_eq hr0
    cases ht
    exact ey (xmI g x r0 _)
   ·cases ht
  ·cases ht
 ·cases ht
def xev : Sm := fun
 | [.c (.ptr 0 0)], [some ⟨.port :: gc, 179, false, none⟩] => (match rnOf gc with
   | some (g, x) => some (mkS ((Int × Rn)) (Wd g x) fun r => some (.c (.int .i64 r.1), [some ⟨.port :: (g.cells ++ r.2.cells), 179, false, none⟩]))
   | _ => none)
 | _, _ => none
theorem xqe (hl : SoundL I ka6) : SoundF I 117 xev := by
 refine sq hl 1 Tryz.func117 fun _ _ t ht => ?_
 unfold xev at ht
 split at ht
 ·rename_i gc
  split at ht
  ·rename_i g x hg
   obtain rfl := Xn hg
   cases ht
   exact ey (xmJ g x _)
  ·cases ht
 ·cases ht
def xaL : Sm := fun
 | [.c (.ptr 0 0), .c (.int .i64 n)], [some ⟨.port :: gc, 179, false, none⟩] => (match rnOf gc with
   | some (g, x) => some (mkS ((Unit × Rn)) (jf g x n) fun r => some (.tup [], [some ⟨.port :: (g.cells ++ r.2.cells), 179, false, none⟩]))
   | _ => none)
 | _, _ => none
theorem xjU : Good Tryz.prog (xo ka6) xa 1 (lsAt qo .no [1, 0]) (Tryz.f194.body.getD .skip) (xr Tryz.f194.results.toList) := xA (xh (by kernel_rfl)) xz xmK
theorem xmR (hl : SoundL I ka6) : SoundF I 194 xaL := by
 refine sq hl xa Tryz.func194 fun _ _ t ht => ?_
 unfold xaL at ht
 split at ht
 ·rename_i n gc
  split at ht
  ·rename_i g x hg
   obtain rfl := Xn hg
   cases ht
   refine (xD (P := Tryz.prog) (n := xa) (x := (lsAt qo .no [1, 0])) (fn := Tryz.f194) (H := [some ⟨.port :: (g.cells ++ x.cells), 179, false, none⟩]) (c := Tryz.f194.body.getD .skip) (xh (by kernel_rfl)) xjU).symm.trans ?_
   exact ey (xjQ g x n _)
  ·cases ht
 ·cases ht
def Wg : Sm := fun
 | [.c (.int .i64 s)], [] => some (mkS (Bool) (xeo s) fun r => some (.c (.bool r), []))
 | _, _ => none
theorem xjV (hl : SoundL I ka6) : SoundF I 153 Wg := by
 refine sq hl 1 Tryz.func153 fun _ _ t ht => ?_
 unfold Wg at ht
 split at ht
 ·rename_i s
  cases ht
  exact ey (xgo s _)
 ·cases ht
def ka7 : List (Nat × Sm) := (170, Wf) :: (270, xep) :: (200, (orSm xhh (orSm xaI xaJ))) :: (213, xjT) :: (227, xeq) :: (228, xer) :: (252, (orSm xes xet)) :: (136, xmP) :: (113, xaK) :: (114, xeu) :: (117, xev) :: (194, xaL) :: (153, Wg) :: ka6
theorem wD : SoundL I ka7 := (.cons (xjR wC) (.cons (xjS wC) (.cons (SoundF.or (xmL wC) (SoundF.or (xmM wC) (xmN wC))) (.cons (xtO wC) (.cons (xp8 wC) (.cons (xp9 wC) (.cons (SoundF.or (xqa wC) (xqb wC)) (.cons (xqc wC) (.cons (xmQ wC) (.cons (xqd wC) (.cons (xqe wC) (.cons (xmR wC) (.cons (xjV wC) wC)))))))))))))
end Lx
namespace Lx
variable {β : Type} (g : Geo)
open Go
def xaM (g1 : Geo) (κ0 : Unit -> T β) (i : Int) (k : Int -> T β) : T β :=
 bif decide (i <= qK g1) then (bif i == qK g1 then (.op (.store (atF g1 17 (inF (i64.wrap (i - 1)) 0 1)) (0)) fun _ =>
 k (i64.wrap (i + 1))) else
 .op (.store (atF g1 17 (inF (i64.wrap (i - 1)) 0 1)) (Ref.word { idx := i64.wrap (i + 1), mark := false, ver := 0 })) fun _ =>
 k (i64.wrap (i + 1))) else
 κ0 ()
def wh (g1 : Geo) (a0 : Int) (κ0 : Unit -> T β) : T β := xq xa (xaM g1 κ0) a0
theorem xew {β γ : Type} (g1 : Geo) (a0 : Int) (κ0 : Unit -> T β) (κ : β -> T γ) : (wh g1 a0 κ0).bind κ = wh g1 a0 (fun u => (κ0 u).bind κ) := by
 unfold wh
 refine xj κ (fun i k => ?_) _ _
 unfold xaM
 simp only [bz]
def xex : Pat := ⟨xm 42 0 [(0, .c (.raw (.port))), (3, .c (.raw (.ptr 0 0))), (4, .c (.int .i64))], [some ⟨[.geo], 24, false, none⟩]⟩
def xmS : Pat := ⟨xm 42 0 [(0, .c (.raw (.port))), (3, .c (.raw (.ptr 0 0)))], [some ⟨[.geo], 24, false, none⟩]⟩
def XF : LF := fun st K => match xt xex st with
 | some [.i a0, .g g1] => some (wh g1 a0 (fun _ => K (.exit 0) (xd xmS [.g g1])))
 | _ => none
theorem xqf : ∀ st K t, XF st K = some t -> xB xa (lf ka7 xa 0 .no [1, 1, 0, 1, 0] Tryz.f126 K) st = t := by
 intro st K t h
 unfold XF at h
 split at h
 ·rename_i a0 g1 hm
  cases h
  rw [xk hm]
  unfold wh
  exact xu (S := fun (i : Int) => xd xex [.i i, .g g1]) (fun i k => by kernel_rfl) xa a0
 ·cases h
def xcT (κ : Unit -> T β) : T β :=
 (wQ g).bind fun r0 =>
 bif r0 then (κ ()) else
 wh (g) (1) (fun y2_0 =>
 .op (.store (atF g 4 0) (1)) fun _ =>
 κ ())
def Zq : T Unit := xcT g .ret
theorem xmT (κ : Unit -> T β) : (Zq g).bind κ = xcT g κ := by
 unfold Zq xcT
 simp only [bz, xew]
def xjW (a0 : Int) (g1 : Geo) (κ0 : Unit -> T β) (κ1 : Int -> T β) (i : Unit) (k : Unit -> T β) : T β :=
 .op (.load (atF g1 4 0)) fun x0 =>
 bif ofW i64 x0 0 24 == 0 then (κ0 ()) else
 .op (.load (atF g1 17   (inF (i64.wrap (ofW i64 x0 0 24 - 1)) 0 1))) fun x2 =>
 .op (.cas (atF g1 4 0) x0 (Ref.word   { idx := ofW i64 x2 0 24, mark := false,     ver := u32.wrap (ofW u32 x0 32 32 + 1) })) fun b3 =>
 bif b3 then (κ1 (ofW i64 x0 0 24)) else
 k ()
def qp (a0 : Int) (g1 : Geo)  (κ0 : Unit -> T β) (κ1 : Int -> T β) : T β := xq xa (xjW a0 g1 κ0 κ1) ()
theorem xjX {β γ : Type} (a0 : Int) (g1 : Geo)  (κ0 : Unit -> T β) (κ1 : Int -> T β) (κ : β -> T γ) : (qp a0 g1  κ0 κ1).bind κ = qp a0 g1  (fun u => (κ0 u).bind κ) (fun ae0 => (κ1 ae0).bind κ) := by
 unfold qp
 refine xj κ (fun i k => ?_) _ _
 unfold xjW
 simp only [bz]
def xmU : Pat := ⟨xm 52 0 [(0, .c (.raw (.port))), (3, .c (.raw (.ptr 0 0))), (4, .c (.int .i64))], [some ⟨[.geo], 24, false, none⟩]⟩
def xhi : Pat := ⟨xm 52 0 [(4, .c (.int .i64))], []⟩
def xcU : LF := fun st K => match xt xmU st with
 | some [.i a0, .g g1] => some (qp a0 g1  (fun _ => K (.ret) (xd xhi [.i 0])) (fun ae0 => K (.ret) (xd xhi [.i ae0])))
 | _ => none
theorem xvQ : ∀ st K t, xcU st K = some t -> xB xa (lf ka7 xa 0 .no [1, 1, 0] Tryz.f267 K) st = t := by
 intro st K t h
 unfold xcU at h
 split at h
 ·rename_i a0 g1 hm
  cases h
  rw [xk hm]
  unfold qp
  exact xu (S := fun (i : Unit) => xd xmU [.i a0, .g g1]) (fun i k => by kernel_rfl) xa ()
 ·cases h
def xsz (κ : Int -> T β) : T β :=
 (wQ g).bind fun r0 =>
 bif r0 then (κ (0)) else
 qp (0) (g) (fun y2_0 =>
 κ (0)) (fun y2_0 =>
 κ y2_0)
def acqT : T Int := xsz g .ret
theorem xtP (κ : Int -> T β) : (acqT g).bind κ = xsz g κ := by
 unfold acqT xsz
 simp only [bz, xjX]
def xey (a0 : Int) (g1 : Geo) (κ0 : Unit -> T β) (i : Unit) (k : Unit -> T β) : T β :=
 .op (.load (atF g1 4 0)) fun x0 =>
 .op (.store (atF g1 17 (inF (i64.wrap (a0 - 1)) 0 1)) (Ref.word { idx := ofW i64 x0 0 24, mark := false, ver := 0 })) fun _ =>
 .op (.cas (atF g1 4 0) x0 (Ref.word   { idx := a0, mark := false, ver := u32.wrap (ofW u32 x0 32 32 + 1) })) fun b2 =>
 bif b2 then (κ0 ()) else
 k ()
def kA (a0 : Int) (g1 : Geo)  (κ0 : Unit -> T β) : T β := xq xa (xey a0 g1 κ0) ()
theorem xgq {β γ : Type} (a0 : Int) (g1 : Geo)  (κ0 : Unit -> T β) (κ : β -> T γ) : (kA a0 g1  κ0).bind κ = kA a0 g1  (fun u => (κ0 u).bind κ) := by
 unfold kA
 refine xj κ (fun i k => ?_) _ _
 unfold xey
 simp only [bz]
def xhj : Pat := ⟨xm 50 0 [(0, .c (.raw (.port))), (2, .c (.int .i64)), (4, .c (.raw (.ptr 0 0)))], [some ⟨[.geo], 24, false, none⟩]⟩
def xqg : Pat := ⟨xm 50 0 [], []⟩
def VG : LF := fun st K => match xt xhj st with
 | some [.i a0, .g g1] => some (kA a0 g1  (fun _ => K (.ret) (xd xqg [])))
 | _ => none
theorem xtQ : ∀ st K t, VG st K = some t -> xB xa (lf ka7 xa 0 .no [1, 1, 0] Tryz.f284 K) st = t := by
 intro st K t h
 unfold VG at h
 split at h
 ·rename_i a0 g1 hm
  cases h
  rw [xk hm]
  unfold kA
  exact xu (S := fun (i : Unit) => xd xhj [.i a0, .g g1]) (fun i k => by kernel_rfl) xa ()
 ·cases h
def xjY (n : Int) (κ : Unit -> T β) : T β :=
 (wR g (atF g 17 (inF (i64.wrap (n - 1)) 0 1))).bind fun r0 =>
 bif r0 then (κ ()) else
 kA (n) (g) (fun y2_0 =>
 κ ())
def xhk (n : Int) : T Unit := xjY g n .ret
theorem xqh (n : Int) (κ : Unit -> T β) : (xhk g n).bind κ = xjY g n κ := by
 unfold xhk xjY
 simp only [bz, xgq]
def xez (a0 a1 : Int) (g3 : Geo) (a4 : Int) (b5 : Bool) (a6 : Int) (κ0 : Int -> Bool -> Int -> T β) (i : Int) (k : Int -> T β) : T β :=
 .op (.self ) fun x0 =>
 .op (.store (atF g3 14 (inF x0 a0 2)) (u64.wrap (ofW i64 i 0 24))) fun _ =>
 .op (.load a1) fun x2 =>
 bif x2 == i then (κ0 (ofW i64 i 0 24) (ofW i64 i 24 1 == 1) (ofW u32 i 32 32)) else
 k x2
def kB (a0 a1 : Int) (g3 : Geo) (a4 : Int) (b5 : Bool) (a6 a2 : Int) (κ0 : Int -> Bool -> Int -> T β) : T β := xq xa (xez a0 a1 g3 a4 b5 a6 κ0) a2
theorem xgr {β γ : Type} (a0 a1 : Int) (g3 : Geo) (a4 : Int) (b5 : Bool) (a6 a2 : Int) (κ0 : Int -> Bool -> Int -> T β) (κ : β -> T γ) : (kB a0 a1 g3 a4 b5 a6 a2 κ0).bind κ = kB a0 a1 g3 a4 b5 a6 a2 (fun ae0 be1 ae2 => (κ0 ae0 be1 ae2).bind κ) := by
 unfold kB
 refine xj κ (fun i k => ?_) _ _
 unfold xez
 simp only [bz]
def xhl : Pat := ⟨xm 62 0 [(0, .c (.raw (.port))), (2, .c (.int .i64)), (3, .c (.int .i64)), (5, .c (.raw (.ptr 0 0))), (8, .c (.raw (.ptr 1 0))), (9, .c (.int .u64))], [some ⟨[.geo], 24, false, none⟩, some ⟨[.int .i64, .bool, .int .u32], 162, false, none⟩]⟩
def xqi : Pat := ⟨xm 62 0 [(8, .c (.raw (.ptr 1 0)))], [none, some ⟨[.int .i64, .bool, .int .u32], 162, false, none⟩]⟩
def VH : LF := fun st K => match xt xhl st with
 | some [.i a0, .i a1, .i a2, .g g3, .i a4, .b b5, .i a6] => some (kB a0 a1 g3 a4 b5 a6 a2 (fun ae0 be1 ae2 => K (.ret) (xd xqi [.i ae0, .b be1, .i ae2])))
 | _ => none
theorem xtR : ∀ st K t, VH st K = some t -> xB xa (lf ka7 xa 0 .no [1, 1, 1, 0] Tryz.f285 K) st = t := by
 intro st K t h
 unfold VH at h
 split at h
 ·rename_i a0 a1 a2 g3 a4 b5 a6 hm
  cases h
  rw [xk hm]
  unfold kB
  exact xu (S := fun (i : Int) => xd xhl [.i a0, .i a1, .i i, .g g3, .i a4, .b b5, .i a6]) (fun i k => by kernel_rfl) xa a2
 ·cases h
def xjZ (s a : Int) (κ : Ref -> T β) : T β :=
 .op (.self ) fun x0 =>
 (wR g (atF g 14 (inF x0 s 2))).bind fun r1 =>
 bif r1 then (κ ⟨(0), (false), (0)⟩) else
 bif decide (a < 0) then (κ ⟨(0), (false), (0)⟩) else
 bif decide (a >= g.b19) then (κ ⟨(0), (false), (0)⟩) else
 .op (.load (a)) fun x5 =>
 kB (s) (a) (g) (0) (false) (0) x5 (fun y6_0 y6_1 y6_2 =>
 κ ⟨(y6_0), y6_1, (y6_2)⟩)
def xbH (s a : Int) : T Ref := xjZ g s a .ret
theorem xqj (s a : Int) (κ : Ref -> T β) : (xbH g s a).bind κ = xjZ g s a κ := by
 unfold xbH xjZ
 simp only [bz, xgr]
def xcV (s : Int) (κ : Unit -> T β) : T β :=
 .op (.self ) fun x0 =>
 (wR g (atF g 14 (inF x0 s 2))).bind fun r1 =>
 bif !r1 then (.op (.self ) fun x3 =>
 .op (.store (atF g 14 (inF x3 s 2)) (0)) fun _ =>
 κ ()) else
 κ ()
def Wh (s : Int) : T Unit := xcV g s .ret
theorem xmV (s : Int) (κ : Unit -> T β) : (Wh g s).bind κ = xcV g s κ := by
 unfold Wh xcV
 simp only [bz]
def Wj (a0 a1 : Int) (g3 : Geo) (a5 : Int) (b6 : Bool) (a7 : Int) (κ0 : Int -> Int -> T β) (κ1 : Int -> T β) (i : Int × Int) (k : Int × Int -> T β) : T β :=
 bif decide (i.1 < a1) then ((hofT g3 i.2 i.1 a0).bind fun r1 =>
 bif !r1.1 then (k (i64.wrap (i.1 + 1), r1.2)) else
 (isT g3 i.1 0).bind fun r3 =>
 bif !r3 then (k (i64.wrap (i.1 + 1), r1.2)) else
 .op (.load (atF g3 9 i.1)) fun x5 =>
 yf (i.1) g3 (i.1) x5 (fun y6_0 =>
 bif y6_0 != 0 then (.op (.load (atF g3 10 (i64.wrap (i64.wrap y6_0 - 1)))) fun x8 =>
 bif x8 !=   (0 :     POp.Ans       (POp.load         (atF           {             pages :=               g3.pages,             threads :=               g3.threads,             b0 :=               g3.b0,             b1 :=               g3.b1,             b2 :=               g3.b2,             b3 :=               g3.b3,             b4 :=               g3.b4,             b5 :=               g3.b5,             b6 :=               g3.b6,             b7 :=               g3.b7,             b8 :=               g3.b8,             b9 :=               g3.b9,             b10 :=               g3.b10,             b11 :=               g3.b11,             b12 :=               g3.b12,             b13 :=               g3.b13,             b14 :=               g3.b14,             b15 :=               g3.b15,             b16 :=               g3.b16,             b17 :=               g3.b17,             b18 :=               g3.b18,             b19 :=               g3.b19 }           10 (i64.wrap (i64.wrap y6_0 - 1))))) then (.op (.load (atF g3 10 (i64.wrap (i64.wrap x8 - 1)))) fun x10 =>
 bif x10 !=   (0 :     POp.Ans       (POp.load         (atF           {             pages :=               g3.pages,             threads :=               g3.threads,             b0 :=               g3.b0,             b1 :=               g3.b1,             b2 :=               g3.b2,             b3 :=               g3.b3,             b4 :=               g3.b4,             b5 :=               g3.b5,             b6 :=               g3.b6,             b7 :=               g3.b7,             b8 :=               g3.b8,             b9 :=               g3.b9,             b10 :=               g3.b10,             b11 :=               g3.b11,             b12 :=               g3.b12,             b13 :=               g3.b13,             b14 :=               g3.b14,             b15 :=               g3.b15,             b16 :=               g3.b16,             b17 :=               g3.b17,             b18 :=               g3.b18,             b19 :=               g3.b19 }           10 (i64.wrap (i64.wrap x8 - 1))))) then (.op (.load (atF g3 10 (i64.wrap (i64.wrap x10 - 1)))) fun x12 =>
 bif x12 !=   (0 :     POp.Ans       (POp.load         (atF           {             pages :=               g3.pages,             threads :=               g3.threads,             b0 :=               g3.b0,             b1 :=               g3.b1,             b2 :=               g3.b2,             b3 :=               g3.b3,             b4 :=               g3.b4,             b5 :=               g3.b5,             b6 :=               g3.b6,             b7 :=               g3.b7,             b8 :=               g3.b8,             b9 :=               g3.b9,             b10 :=               g3.b10,             b11 :=               g3.b11,             b12 :=               g3.b12,             b13 :=               g3.b13,             b14 :=               g3.b14,             b15 :=               g3.b15,             b16 :=               g3.b16,             b17 :=               g3.b17,             b18 :=               g3.b18,             b19 :=               g3.b19 }           10 (i64.wrap (i64.wrap x10 - 1))))) then (.op (.load (atF g3 10 (i64.wrap (i64.wrap x12 - 1)))) fun x14 =>
 bif x14 !=   (0 :     POp.Ans       (POp.load         (atF           {             pages :=               g3.pages,             threads :=               g3.threads,             b0 :=               g3.b0,             b1 :=               g3.b1,             b2 :=               g3.b2,             b3 :=               g3.b3,             b4 :=               g3.b4,             b5 :=               g3.b5,             b6 :=               g3.b6,             b7 :=               g3.b7,             b8 :=               g3.b8,             b9 :=               g3.b9,             b10 :=               g3.b10,             b11 :=               g3.b11,             b12 :=               g3.b12,             b13 :=               g3.b13,             b14 :=               g3.b14,             b15 :=               g3.b15,             b16 :=               g3.b16,             b17 :=               g3.b17,             b18 :=               g3.b18,             b19 :=               g3.b19 }           10 (i64.wrap (i64.wrap x12 - 1))))) then (.op (.load (atF g3 10 (i64.wrap (i64.wrap x14 - 1)))) fun x16 =>
 bif x16 !=   (0 :     POp.Ans       (POp.load         (atF           {             pages :=               g3.pages,             threads :=               g3.threads,             b0 :=               g3.b0,             b1 :=               g3.b1,             b2 :=               g3.b2,             b3 :=               g3.b3,             b4 :=               g3.b4,             b5 :=               g3.b5,             b6 :=               g3.b6,             b7 :=               g3.b7,             b8 :=               g3.b8,             b9 :=               g3.b9,             b10 :=               g3.b10,             b11 :=               g3.b11,             b12 :=               g3.b12,             b13 :=               g3.b13,             b14 :=               g3.b14,             b15 :=               g3.b15,             b16 :=               g3.b16,             b17 :=               g3.b17,             b18 :=               g3.b18,             b19 :=               g3.b19 }           10 (i64.wrap (i64.wrap x14 - 1))))) then (.op (.load (atF g3 10 (i64.wrap (i64.wrap x16 - 1)))) fun x18 =>
 bif x18 !=   (0 :     POp.Ans       (POp.load         (atF           {             pages :=               g3.pages,             threads :=               g3.threads,             b0 :=               g3.b0,             b1 :=               g3.b1,             b2 :=               g3.b2,             b3 :=               g3.b3,             b4 :=               g3.b4,             b5 :=               g3.b5,             b6 :=               g3.b6,             b7 :=               g3.b7,             b8 :=               g3.b8,             b9 :=               g3.b9,             b10 :=               g3.b10,             b11 :=               g3.b11,             b12 :=               g3.b12,             b13 :=               g3.b13,             b14 :=               g3.b14,             b15 :=               g3.b15,             b16 :=               g3.b16,             b17 :=               g3.b17,             b18 :=               g3.b18,             b19 :=               g3.b19 }           10 (i64.wrap (i64.wrap x16 - 1))))) then (.op (.load (atF g3 10 (i64.wrap (i64.wrap x18 - 1)))) fun x20 =>
 bif x20 !=   (0 :     POp.Ans       (POp.load         (atF           {             pages :=               g3.pages,             threads :=               g3.threads,             b0 :=               g3.b0,             b1 :=               g3.b1,             b2 :=               g3.b2,             b3 :=               g3.b3,             b4 :=               g3.b4,             b5 :=               g3.b5,             b6 :=               g3.b6,             b7 :=               g3.b7,             b8 :=               g3.b8,             b9 :=               g3.b9,             b10 :=               g3.b10,             b11 :=               g3.b11,             b12 :=               g3.b12,             b13 :=               g3.b13,             b14 :=               g3.b14,             b15 :=               g3.b15,             b16 :=               g3.b16,             b17 :=               g3.b17,             b18 :=               g3.b18,             b19 :=               g3.b19 }           10 (i64.wrap (i64.wrap x18 - 1))))) then (.op (.load (atF g3 10 (i64.wrap (i64.wrap x20 - 1)))) fun x22 =>
 bif x22 !=   (0 :     POp.Ans       (POp.load         (atF           {             pages :=               g3.pages,             threads :=               g3.threads,             b0 :=               g3.b0,             b1 :=               g3.b1,             b2 :=               g3.b2,             b3 :=               g3.b3,             b4 :=               g3.b4,             b5 :=               g3.b5,             b6 :=               g3.b6,             b7 :=               g3.b7,             b8 :=               g3.b8,             b9 :=               g3.b9,             b10 :=               g3.b10,             b11 :=               g3.b11,             b12 :=               g3.b12,             b13 :=               g3.b13,             b14 :=               g3.b14,             b15 :=               g3.b15,             b16 :=               g3.b16,             b17 :=               g3.b17,             b18 :=               g3.b18,             b19 :=               g3.b19 }           10 (i64.wrap (i64.wrap x20 - 1))))) then ((vX g3 (i64.wrap (i64.wrap y6_0 - 1))).bind fun r24 =>
 bif r24.cls != a0 then ((xf g3 r1.2 (i64.wrap (i64.wrap y6_0 - 1))).bind fun r26 =>
 (xf g3 r26.2 (i64.wrap (i64.wrap x8 - 1))).bind fun r27 =>
 (xf g3 r27.2 (i64.wrap (i64.wrap x10 - 1))).bind fun r28 =>
 (xf g3 r28.2 (i64.wrap (i64.wrap x12 - 1))).bind fun r29 =>
 (xf g3 r29.2 (i64.wrap (i64.wrap x14 - 1))).bind fun r30 =>
 (xf g3 r30.2 (i64.wrap (i64.wrap x16 - 1))).bind fun r31 =>
 (xf g3 r31.2 (i64.wrap (i64.wrap x18 - 1))).bind fun r32 =>
 (xf g3 r32.2 (i64.wrap (i64.wrap x20 - 1))).bind fun r33 =>
 k (i64.wrap (i.1 + 1), r33.2)) else
 (xf g3 r1.2 (i64.wrap (i64.wrap x8 - 1))).bind fun r26 =>
 (xf g3 r26.2 (i64.wrap (i64.wrap x10 - 1))).bind fun r27 =>
 (xf g3 r27.2 (i64.wrap (i64.wrap x12 - 1))).bind fun r28 =>
 (xf g3 r28.2 (i64.wrap (i64.wrap x14 - 1))).bind fun r29 =>
 (xf g3 r29.2 (i64.wrap (i64.wrap x16 - 1))).bind fun r30 =>
 (xf g3 r30.2 (i64.wrap (i64.wrap x18 - 1))).bind fun r31 =>
 (xf g3 r31.2 (i64.wrap (i64.wrap x20 - 1))).bind fun r32 =>
 κ0 (r32.2) (i64.wrap (i64.wrap y6_0 - 1))) else
 (vX g3 (i64.wrap (i64.wrap y6_0 - 1))).bind fun r24 =>
 bif r24.cls != a0 then ((xf g3 r1.2 (i64.wrap (i64.wrap y6_0 - 1))).bind fun r26 =>
 (xf g3 r26.2 (i64.wrap (i64.wrap x8 - 1))).bind fun r27 =>
 (xf g3 r27.2 (i64.wrap (i64.wrap x10 - 1))).bind fun r28 =>
 (xf g3 r28.2 (i64.wrap (i64.wrap x12 - 1))).bind fun r29 =>
 (xf g3 r29.2 (i64.wrap (i64.wrap x14 - 1))).bind fun r30 =>
 (xf g3 r30.2 (i64.wrap (i64.wrap x16 - 1))).bind fun r31 =>
 (xf g3 r31.2 (i64.wrap (i64.wrap x18 - 1))).bind fun r32 =>
 (xf g3 r32.2 (i64.wrap (i64.wrap x20 - 1))).bind fun r33 =>
 k (i64.wrap (i.1 + 1), r33.2)) else
 (xf g3 r1.2 (i64.wrap (i64.wrap x8 - 1))).bind fun r26 =>
 (xf g3 r26.2 (i64.wrap (i64.wrap x10 - 1))).bind fun r27 =>
 (xf g3 r27.2 (i64.wrap (i64.wrap x12 - 1))).bind fun r28 =>
 (xf g3 r28.2 (i64.wrap (i64.wrap x14 - 1))).bind fun r29 =>
 (xf g3 r29.2 (i64.wrap (i64.wrap x16 - 1))).bind fun r30 =>
 (xf g3 r30.2 (i64.wrap (i64.wrap x18 - 1))).bind fun r31 =>
 (xf g3 r31.2 (i64.wrap (i64.wrap x20 - 1))).bind fun r32 =>
 κ0 (r32.2) (i64.wrap (i64.wrap y6_0 - 1))) else
 (vX g3 (i64.wrap (i64.wrap y6_0 - 1))).bind fun r22 =>
 bif r22.cls != a0 then ((xf g3 r1.2 (i64.wrap (i64.wrap y6_0 - 1))).bind fun r24 =>
 (xf g3 r24.2 (i64.wrap (i64.wrap x8 - 1))).bind fun r25 =>
 (xf g3 r25.2 (i64.wrap (i64.wrap x10 - 1))).bind fun r26 =>
 (xf g3 r26.2 (i64.wrap (i64.wrap x12 - 1))).bind fun r27 =>
 (xf g3 r27.2 (i64.wrap (i64.wrap x14 - 1))).bind fun r28 =>
 (xf g3 r28.2 (i64.wrap (i64.wrap x16 - 1))).bind fun r29 =>
 (xf g3 r29.2 (i64.wrap (i64.wrap x18 - 1))).bind fun r30 =>
 k (i64.wrap (i.1 + 1), r30.2)) else
 (xf g3 r1.2 (i64.wrap (i64.wrap x8 - 1))).bind fun r24 =>
 (xf g3 r24.2 (i64.wrap (i64.wrap x10 - 1))).bind fun r25 =>
 (xf g3 r25.2 (i64.wrap (i64.wrap x12 - 1))).bind fun r26 =>
 (xf g3 r26.2 (i64.wrap (i64.wrap x14 - 1))).bind fun r27 =>
 (xf g3 r27.2 (i64.wrap (i64.wrap x16 - 1))).bind fun r28 =>
 (xf g3 r28.2 (i64.wrap (i64.wrap x18 - 1))).bind fun r29 =>
 κ0 (r29.2) (i64.wrap (i64.wrap y6_0 - 1))) else
 (vX g3 (i64.wrap (i64.wrap y6_0 - 1))).bind fun r20 =>
 bif r20.cls != a0 then ((xf g3 r1.2 (i64.wrap (i64.wrap y6_0 - 1))).bind fun r22 =>
 (xf g3 r22.2 (i64.wrap (i64.wrap x8 - 1))).bind fun r23 =>
 (xf g3 r23.2 (i64.wrap (i64.wrap x10 - 1))).bind fun r24 =>
 (xf g3 r24.2 (i64.wrap (i64.wrap x12 - 1))).bind fun r25 =>
 (xf g3 r25.2 (i64.wrap (i64.wrap x14 - 1))).bind fun r26 =>
 (xf g3 r26.2 (i64.wrap (i64.wrap x16 - 1))).bind fun r27 =>
 k (i64.wrap (i.1 + 1), r27.2)) else
 (xf g3 r1.2 (i64.wrap (i64.wrap x8 - 1))).bind fun r22 =>
 (xf g3 r22.2 (i64.wrap (i64.wrap x10 - 1))).bind fun r23 =>
 (xf g3 r23.2 (i64.wrap (i64.wrap x12 - 1))).bind fun r24 =>
 (xf g3 r24.2 (i64.wrap (i64.wrap x14 - 1))).bind fun r25 =>
 (xf g3 r25.2 (i64.wrap (i64.wrap x16 - 1))).bind fun r26 =>
 κ0 (r26.2) (i64.wrap (i64.wrap y6_0 - 1))) else
 (vX g3 (i64.wrap (i64.wrap y6_0 - 1))).bind fun r18 =>
 bif r18.cls != a0 then ((xf g3 r1.2 (i64.wrap (i64.wrap y6_0 - 1))).bind fun r20 =>
 (xf g3 r20.2 (i64.wrap (i64.wrap x8 - 1))).bind fun r21 =>
 (xf g3 r21.2 (i64.wrap (i64.wrap x10 - 1))).bind fun r22 =>
 (xf g3 r22.2 (i64.wrap (i64.wrap x12 - 1))).bind fun r23 =>
 (xf g3 r23.2 (i64.wrap (i64.wrap x14 - 1))).bind fun r24 =>
 k (i64.wrap (i.1 + 1), r24.2)) else
 (xf g3 r1.2 (i64.wrap (i64.wrap x8 - 1))).bind fun r20 =>
 (xf g3 r20.2 (i64.wrap (i64.wrap x10 - 1))).bind fun r21 =>
 (xf g3 r21.2 (i64.wrap (i64.wrap x12 - 1))).bind fun r22 =>
 (xf g3 r22.2 (i64.wrap (i64.wrap x14 - 1))).bind fun r23 =>
 κ0 (r23.2) (i64.wrap (i64.wrap y6_0 - 1))) else
 (vX g3 (i64.wrap (i64.wrap y6_0 - 1))).bind fun r16 =>
 bif r16.cls != a0 then ((xf g3 r1.2 (i64.wrap (i64.wrap y6_0 - 1))).bind fun r18 =>
 (xf g3 r18.2 (i64.wrap (i64.wrap x8 - 1))).bind fun r19 =>
 (xf g3 r19.2 (i64.wrap (i64.wrap x10 - 1))).bind fun r20 =>
 (xf g3 r20.2 (i64.wrap (i64.wrap x12 - 1))).bind fun r21 =>
 k (i64.wrap (i.1 + 1), r21.2)) else
 (xf g3 r1.2 (i64.wrap (i64.wrap x8 - 1))).bind fun r18 =>
 (xf g3 r18.2 (i64.wrap (i64.wrap x10 - 1))).bind fun r19 =>
 (xf g3 r19.2 (i64.wrap (i64.wrap x12 - 1))).bind fun r20 =>
 κ0 (r20.2) (i64.wrap (i64.wrap y6_0 - 1))) else
 (vX g3 (i64.wrap (i64.wrap y6_0 - 1))).bind fun r14 =>
 bif r14.cls != a0 then ((xf g3 r1.2 (i64.wrap (i64.wrap y6_0 - 1))).bind fun r16 =>
 (xf g3 r16.2 (i64.wrap (i64.wrap x8 - 1))).bind fun r17 =>
 (xf g3 r17.2 (i64.wrap (i64.wrap x10 - 1))).bind fun r18 =>
 k (i64.wrap (i.1 + 1), r18.2)) else
 (xf g3 r1.2 (i64.wrap (i64.wrap x8 - 1))).bind fun r16 =>
 (xf g3 r16.2 (i64.wrap (i64.wrap x10 - 1))).bind fun r17 =>
 κ0 (r17.2) (i64.wrap (i64.wrap y6_0 - 1))) else
 (vX g3 (i64.wrap (i64.wrap y6_0 - 1))).bind fun r12 =>
 bif r12.cls != a0 then ((xf g3 r1.2 (i64.wrap (i64.wrap y6_0 - 1))).bind fun r14 =>
 (xf g3 r14.2 (i64.wrap (i64.wrap x8 - 1))).bind fun r15 =>
 k (i64.wrap (i.1 + 1), r15.2)) else
 (xf g3 r1.2 (i64.wrap (i64.wrap x8 - 1))).bind fun r14 =>
 κ0 (r14.2) (i64.wrap (i64.wrap y6_0 - 1))) else
 (vX g3 (i64.wrap (i64.wrap y6_0 - 1))).bind fun r10 =>
 bif r10.cls != a0 then ((xf g3 r1.2 (i64.wrap (i64.wrap y6_0 - 1))).bind fun r12 =>
 k (i64.wrap (i.1 + 1), r12.2)) else
 κ0 (r1.2) (i64.wrap (i64.wrap y6_0 - 1))) else
 k (i64.wrap (i.1 + 1), r1.2))) else
 κ1 (i.2)
def vw (a0 a1 : Int) (g3 : Geo) (a5 : Int) (b6 : Bool) (a7 a2 a4 : Int) (κ0 : Int -> Int -> T β) (κ1 : Int -> T β) : T β := xq xa (Wj a0 a1 g3 a5 b6 a7 κ0 κ1) (a2, a4)
theorem xce {β γ : Type} (a0 a1 : Int) (g3 : Geo) (a5 : Int) (b6 : Bool) (a7 a2 a4 : Int) (κ0 : Int -> Int -> T β) (κ1 : Int -> T β) (κ : β -> T γ) : (vw a0 a1 g3 a5 b6 a7 a2 a4 κ0 κ1).bind κ = vw a0 a1 g3 a5 b6 a7 a2 a4 (fun ae1 ae2 => (κ0 ae1 ae2).bind κ) (fun ae1 => (κ1 ae1).bind κ) := by
 unfold vw
 refine xj κ (fun i k => ?_) _ _
 unfold Wj
 simp only [bz, kx]
def xbI : Pat := ⟨xm 71 0 [(0, .c (.raw (.ptr 0 0))), (1, .c (.int .i64)), (4, .c (.raw (.ptr 1 0))), (14, .c (.int .i64)), (15, .c (.int .i64))], [some ⟨[.raw (.port), .geo, .int .u64], 150, false, none⟩, some ⟨[.int .i64, .bool, .int .i64], 221, false, none⟩]⟩
def VI : Pat := ⟨xm 71 0 [(4, .c (.raw (.ptr 1 0)))], [some ⟨[.raw (.port), .geo, .int .u64], 150, false, none⟩, some ⟨[.int .i64, .bool, .int .i64], 221, false, none⟩]⟩
def qq : LF := fun st K => match xt xbI st with
 | some [.i a0, .i a1, .i a2, .g g3, .i a4, .i a5, .b b6, .i a7] => some (vw a0 a1 g3 a5 b6 a7 a2 a4 (fun ae1 ae2 => K (.ret) (xd VI [.g g3, .i ae1, .i ae2, .b true, .i 0])) (fun ae1 => K (.exit 0) (xd VI [.g g3, .i ae1, .i a5, .b b6, .i a7])))
 | _ => none
theorem xmW : ∀ st K t, qq st K = some t -> xB xa (lf ka7 xa 1 .no [1, 0, 1, 0] Tryz.f226 K) st = t := by
 intro st K t h
 unfold qq at h
 split at h
 ·rename_i a0 a1 a2 g3 a4 a5 b6 a7 hm
  cases h
  rw [xk hm]
  unfold vw
  exact xu (S := fun (i : Int × Int) => xd xbI [.i a0, .i a1, .i (i.1), .g g3, .i (i.2), .i a5, .b b6, .i a7]) (fun i k => by kernel_rfl) xa (a2, a4)
 ·cases h
def VJ (o c : Int) (κ : (Fnd × Int) -> T β) : T β :=
 vw (c) (g.pages) (g) (0) (false) (0) (0) (o) (fun y0_0 y0_1 =>
 κ (⟨(y0_1), (true), (0)⟩, y0_0)) (fun y0_0 =>
 κ (⟨(0), (false), (0)⟩, y0_0))
def XG (o c : Int) : T (Fnd × Int) := VJ g o c .ret
theorem xj0 (o c : Int) (κ : (Fnd × Int) -> T β) : (XG g o c).bind κ = VJ g o c κ := by
 unfold XG VJ
 simp only [bz, xce]
def Zs (a0 : Int) (g2 : Geo) (κ0 : Int -> T β) (i : Int × Int) (k : Int × Int -> T β) : T β :=
 bif decide (i.1 < a0) then ((isT g2 i.1 0).bind fun r1 =>
 bif !r1 then (k (i64.wrap (i.1 + 1), i.2)) else
 .op (.load (atF g2 9 i.1)) fun x3 =>
 yf (i.1) g2 (i.1) x3 (fun y4_0 =>
 bif y4_0 != 0 then (.op (.load (atF g2 10 (i64.wrap (i64.wrap y4_0 - 1)))) fun x6 =>
 bif x6 !=   (0 :     POp.Ans       (POp.load         (atF           g2           10 (i64.wrap (i64.wrap y4_0 - 1))))) then (.op (.load (atF g2 10 (i64.wrap (i64.wrap x6 - 1)))) fun x8 =>
 bif x8 !=   (0 :     POp.Ans       (POp.load         (atF           g2           10 (i64.wrap (i64.wrap x6 - 1))))) then (.op (.load (atF g2 10 (i64.wrap (i64.wrap x8 - 1)))) fun x10 =>
 bif x10 !=   (0 :     POp.Ans       (POp.load         (atF           g2           10 (i64.wrap (i64.wrap x8 - 1))))) then (.op (.load (atF g2 10 (i64.wrap (i64.wrap x10 - 1)))) fun x12 =>
 bif x12 !=   (0 :     POp.Ans       (POp.load         (atF           g2           10 (i64.wrap (i64.wrap x10 - 1))))) then (.op (.load (atF g2 10 (i64.wrap (i64.wrap x12 - 1)))) fun x14 =>
 bif x14 !=   (0 :     POp.Ans       (POp.load         (atF           g2           10 (i64.wrap (i64.wrap x12 - 1))))) then (.op (.load (atF g2 10 (i64.wrap (i64.wrap x14 - 1)))) fun x16 =>
 bif x16 !=   (0 :     POp.Ans       (POp.load         (atF           g2           10 (i64.wrap (i64.wrap x14 - 1))))) then (.op (.load (atF g2 10 (i64.wrap (i64.wrap x16 - 1)))) fun x18 =>
 bif x18 !=   (0 :     POp.Ans       (POp.load         (atF           g2           10 (i64.wrap (i64.wrap x16 - 1))))) then (.op (.load (atF g2 10 (i64.wrap (i64.wrap x18 - 1)))) fun x20 =>
 bif x20 !=   (0 :     POp.Ans       (POp.load         (atF           g2           10 (i64.wrap (i64.wrap x18 - 1))))) then ((xf g2 i.2 (i64.wrap (i64.wrap y4_0 - 1))).bind fun r22 =>
 (xf g2 r22.2 (i64.wrap (i64.wrap x6 - 1))).bind fun r23 =>
 (xf g2 r23.2 (i64.wrap (i64.wrap x8 - 1))).bind fun r24 =>
 (xf g2 r24.2 (i64.wrap (i64.wrap x10 - 1))).bind fun r25 =>
 (xf g2 r25.2 (i64.wrap (i64.wrap x12 - 1))).bind fun r26 =>
 (xf g2 r26.2 (i64.wrap (i64.wrap x14 - 1))).bind fun r27 =>
 (xf g2 r27.2 (i64.wrap (i64.wrap x16 - 1))).bind fun r28 =>
 (xf g2 r28.2 (i64.wrap (i64.wrap x18 - 1))).bind fun r29 =>
 k (i64.wrap (i.1 + 1), r29.2)) else
 (xf g2 i.2 (i64.wrap (i64.wrap y4_0 - 1))).bind fun r22 =>
 (xf g2 r22.2 (i64.wrap (i64.wrap x6 - 1))).bind fun r23 =>
 (xf g2 r23.2 (i64.wrap (i64.wrap x8 - 1))).bind fun r24 =>
 (xf g2 r24.2 (i64.wrap (i64.wrap x10 - 1))).bind fun r25 =>
 (xf g2 r25.2 (i64.wrap (i64.wrap x12 - 1))).bind fun r26 =>
 (xf g2 r26.2 (i64.wrap (i64.wrap x14 - 1))).bind fun r27 =>
 (xf g2 r27.2 (i64.wrap (i64.wrap x16 - 1))).bind fun r28 =>
 (xf g2 r28.2 (i64.wrap (i64.wrap x18 - 1))).bind fun r29 =>
 k (i64.wrap (i.1 + 1), r29.2)) else
 (xf g2 i.2 (i64.wrap (i64.wrap y4_0 - 1))).bind fun r20 =>
 (xf g2 r20.2 (i64.wrap (i64.wrap x6 - 1))).bind fun r21 =>
 (xf g2 r21.2 (i64.wrap (i64.wrap x8 - 1))).bind fun r22 =>
 (xf g2 r22.2 (i64.wrap (i64.wrap x10 - 1))).bind fun r23 =>
 (xf g2 r23.2 (i64.wrap (i64.wrap x12 - 1))).bind fun r24 =>
 (xf g2 r24.2 (i64.wrap (i64.wrap x14 - 1))).bind fun r25 =>
 (xf g2 r25.2 (i64.wrap (i64.wrap x16 - 1))).bind fun r26 =>
 k (i64.wrap (i.1 + 1), r26.2)) else
 (xf g2 i.2 (i64.wrap (i64.wrap y4_0 - 1))).bind fun r18 =>
 (xf g2 r18.2 (i64.wrap (i64.wrap x6 - 1))).bind fun r19 =>
 (xf g2 r19.2 (i64.wrap (i64.wrap x8 - 1))).bind fun r20 =>
 (xf g2 r20.2 (i64.wrap (i64.wrap x10 - 1))).bind fun r21 =>
 (xf g2 r21.2 (i64.wrap (i64.wrap x12 - 1))).bind fun r22 =>
 (xf g2 r22.2 (i64.wrap (i64.wrap x14 - 1))).bind fun r23 =>
 k (i64.wrap (i.1 + 1), r23.2)) else
 (xf g2 i.2 (i64.wrap (i64.wrap y4_0 - 1))).bind fun r16 =>
 (xf g2 r16.2 (i64.wrap (i64.wrap x6 - 1))).bind fun r17 =>
 (xf g2 r17.2 (i64.wrap (i64.wrap x8 - 1))).bind fun r18 =>
 (xf g2 r18.2 (i64.wrap (i64.wrap x10 - 1))).bind fun r19 =>
 (xf g2 r19.2 (i64.wrap (i64.wrap x12 - 1))).bind fun r20 =>
 k (i64.wrap (i.1 + 1), r20.2)) else
 (xf g2 i.2 (i64.wrap (i64.wrap y4_0 - 1))).bind fun r14 =>
 (xf g2 r14.2 (i64.wrap (i64.wrap x6 - 1))).bind fun r15 =>
 (xf g2 r15.2 (i64.wrap (i64.wrap x8 - 1))).bind fun r16 =>
 (xf g2 r16.2 (i64.wrap (i64.wrap x10 - 1))).bind fun r17 =>
 k (i64.wrap (i.1 + 1), r17.2)) else
 (xf g2 i.2 (i64.wrap (i64.wrap y4_0 - 1))).bind fun r12 =>
 (xf g2 r12.2 (i64.wrap (i64.wrap x6 - 1))).bind fun r13 =>
 (xf g2 r13.2 (i64.wrap (i64.wrap x8 - 1))).bind fun r14 =>
 k (i64.wrap (i.1 + 1), r14.2)) else
 (xf g2 i.2 (i64.wrap (i64.wrap y4_0 - 1))).bind fun r10 =>
 (xf g2 r10.2 (i64.wrap (i64.wrap x6 - 1))).bind fun r11 =>
 k (i64.wrap (i.1 + 1), r11.2)) else
 (xf g2 i.2 (i64.wrap (i64.wrap y4_0 - 1))).bind fun r8 =>
 k (i64.wrap (i.1 + 1), r8.2)) else
 k (i64.wrap (i.1 + 1), i.2))) else
 κ0 (i.2)
def vc (a0 : Int) (g2 : Geo) (a1 a3 : Int) (κ0 : Int -> T β) : T β := xq xa (Zs a0 g2 κ0) (a1, a3)
theorem xaN {β γ : Type} (a0 : Int) (g2 : Geo) (a1 a3 : Int) (κ0 : Int -> T β) (κ : β -> T γ) : (vc a0 g2 a1 a3 κ0).bind κ = vc a0 g2 a1 a3 (fun ae1 => (κ0 ae1).bind κ) := by
 unfold vc
 refine xj κ (fun i k => ?_) _ _
 unfold Zs
 simp only [bz, kx]
def VK : Pat := ⟨xm 33 0 [(0, .c (.raw (.ptr 0 0))), (9, .c (.int .i64)), (10, .c (.int .i64))], [some ⟨[.raw (.port), .geo, .int .u64], 150, false, none⟩]⟩
def xgs : Pat := ⟨xm 33 0 [], [some ⟨[.raw (.port), .geo, .int .u64], 150, false, none⟩]⟩
def jg : LF := fun st K => match xt VK st with
 | some [.i a0, .i a1, .g g2, .i a3] => some (vc a0 g2 a1 a3 (fun ae1 => K (.exit 0) (xd xgs [.g g2, .i ae1])))
 | _ => none
theorem xj1 : ∀ st K t, jg st K = some t -> xB xa (lf ka7 xa 1 .no [1, 0] Tryz.f242 K) st = t := by
 intro st K t h
 unfold jg at h
 split at h
 ·rename_i a0 a1 g2 a3 hm
  cases h
  rw [xk hm]
  unfold vc
  exact xu (S := fun (i : Int × Int) => xd VK [.i a0, .i (i.1), .g g2, .i (i.2)]) (fun i k => by kernel_rfl) xa (a1, a3)
 ·cases h
def XH (o : Int) (κ : (Unit × Int) -> T β) : T β :=
 vc (g.pages) (g) (0) (o) (fun y0_0 =>
 κ ((), y0_0))
def jF (o : Int) : T (Unit × Int) := XH g o .ret
theorem xgt (o : Int) (κ : (Unit × Int) -> T β) : (jF g o).bind κ = XH g o κ := by
 unfold jF XH
 simp only [bz, xaN]
def Zt (a0 : Int) (g2 : Geo) (κ0 : Int -> T β) (i : Int × Int) (k : Int × Int -> T β) : T β :=
 bif decide (i.1 < a0) then (.op (.load (atF g2 8 i.1)) fun x1 =>
 bif decide (ofW i64 x1 8 3 > 0) then (bif decide   ((bif decide (ofW i64 x1 8 3 > 0) then       i64.wrap (ofW i64 x1 8 3 - 1)     else (0 : Int)) <     4) then (bif decide (0 <= (btOf x1).cls /\ (btOf x1).cls < 4) then ((xbB   { map := ofW u8 x1 0 8, has := decide (ofW i64 x1 8 3 > 0),     cls :=       bif decide (ofW i64 x1 8 3 > 0) then         i64.wrap (ofW i64 x1 8 3 - 1)       else (0 : Int),     ver := ofW u32 x1 32 32 }   (bif       (bif decide (ofW i64 x1 8 3 > 0) then           i64.wrap (ofW i64 x1 8 3 - 1)         else (0 : Int)) ==         0 then     8   else     bif         (bif decide (ofW i64 x1 8 3 > 0) then             i64.wrap (ofW i64 x1 8 3 - 1)           else (0 : Int)) ==           0 + 1 then       4     else       bif           (bif decide (ofW i64 x1 8 3 > 0) then               i64.wrap (ofW i64 x1 8 3 - 1)             else (0 : Int)) ==             0 + 1 + 1 then         2       else (2 : Int))).bind fun r5 =>
 bif r5 then ((kz g2 i.1).bind fun r7 =>
 bif r7 then ((yD g2 i.2 1).bind fun r9 =>
 k (i64.wrap (i.1 + 1), r9.2)) else
 k (i64.wrap (i.1 + 1), i.2)) else
 k (i64.wrap (i.1 + 1), i.2)) else
 .fail) else
 k (i64.wrap (i.1 + 1), i.2)) else
 k (i64.wrap (i.1 + 1), i.2)) else
 κ0 (i.2)
def vd (a0 : Int) (g2 : Geo) (a1 a3 : Int) (κ0 : Int -> T β) : T β := xq xa (Zt a0 g2 κ0) (a1, a3)
theorem xaO {β γ : Type} (a0 : Int) (g2 : Geo) (a1 a3 : Int) (κ0 : Int -> T β) (κ : β -> T γ) : (vd a0 g2 a1 a3 κ0).bind κ = vd a0 g2 a1 a3 (fun ae1 => (κ0 ae1).bind κ) := by
 unfold vd
 refine xj κ (fun i k => ?_) _ _
 unfold Zt
 simp only [bz]
def VL : Pat := ⟨xm 57 0 [(0, .c (.raw (.ptr 0 0))), (8, .c (.int .i64)), (9, .c (.int .i64))], [some ⟨[.raw (.port), .geo, .int .u64], 150, false, none⟩]⟩
def xgu : Pat := ⟨xm 57 0 [], [some ⟨[.raw (.port), .geo, .int .u64], 150, false, none⟩]⟩
def jh : LF := fun st K => match xt VL st with
 | some [.i a0, .i a1, .g g2, .i a3] => some (vd a0 g2 a1 a3 (fun ae1 => K (.exit 0) (xd xgu [.g g2, .i ae1])))
 | _ => none
theorem xj2 : ∀ st K t, jh st K = some t -> xB xa (lf ka7 xa 1 .no [1, 0] Tryz.f243 K) st = t := by
 intro st K t h
 unfold jh at h
 split at h
 ·rename_i a0 a1 g2 a3 hm
  cases h
  rw [xk hm]
  unfold vd
  exact xu (S := fun (i : Int × Int) => xd VL [.i a0, .i (i.1), .g g2, .i (i.2)]) (fun i k => by kernel_rfl) xa (a1, a3)
 ·cases h
def XI (o : Int) (κ : (Unit × Int) -> T β) : T β :=
 vd (g.pages) (g) (0) (o) (fun y0_0 =>
 κ ((), y0_0))
def jG (o : Int) : T (Unit × Int) := XI g o .ret
theorem xgv (o : Int) (κ : (Unit × Int) -> T β) : (jG g o).bind κ = XI g o κ := by
 unfold jG XI
 simp only [bz, xaO]
def qr (o : Int) (κ : (Unit × Int) -> T β) : T β :=
 (tryT g).bind fun r0 =>
 bif r0 then ((vp g).bind fun r2 =>
 (yD g o r2).bind fun r3 =>
 (Zl g).bind fun r4 =>
 κ ((), (r3.2))) else
 κ ((), (o))
def jH (o : Int) : T (Unit × Int) := qr g o .ret
theorem xeA (o : Int) (κ : (Unit × Int) -> T β) : (jH g o).bind κ = qr g o κ := by
 unfold jH qr
 simp only [bz]
def xj3 (o k a : Int) (κ : (Fnd × Int) -> T β) : T β :=
 (tryT g).bind fun r0 =>
 bif !r0 then (κ (⟨(0), (false), (5)⟩, (o))) else
 (vp g).bind fun r2 =>
 (yD g o r2).bind fun r3 =>
 (wP g k a).bind fun r4 =>
 (Zl g).bind fun r5 =>
 κ (⟨(i64.wrap (r4.1 * 8)), (r4.2), (0)⟩, (r3.2))
def xeB (o k a : Int) : T (Fnd × Int) := xj3 g o k a .ret
theorem xqk (o k a : Int) (κ : (Fnd × Int) -> T β) : (xeB g o k a).bind κ = xj3 g o k a κ := by
 unfold xeB xj3
 simp only [bz]
def Wk (a0 a1 a4 a5 a6 : Int) (g7 : Geo) (κ0 : Int -> T β) (i : Int × Bool × Int) (k : Int × Bool × Int -> T β) : T β :=
 bif i.2.1 then ((xf g7 i.2.2 (i64.wrap (i64.wrap i.1 - 1))).bind fun r1 =>
 (qi g7 a0 a1).bind fun r2 =>
 k (r2.1, r2.2, r1.2)) else
 κ0 (i.2.2)
def vz (a0 a1 a4 a5 a6 : Int) (g7 : Geo) (a2 : Int) (b3 : Bool) (a8 : Int) (κ0 : Int -> T β) : T β := xq xa (Wk a0 a1 a4 a5 a6 g7 κ0) (a2, b3, a8)
theorem xcf {β γ : Type} (a0 a1 a4 a5 a6 : Int) (g7 : Geo) (a2 : Int) (b3 : Bool) (a8 : Int) (κ0 : Int -> T β) (κ : β -> T γ) : (vz a0 a1 a4 a5 a6 g7 a2 b3 a8 κ0).bind κ = vz a0 a1 a4 a5 a6 g7 a2 b3 a8 (fun ae5 => (κ0 ae5).bind κ) := by
 unfold vz
 refine xj κ (fun i k => ?_) _ _
 unfold Wk
 simp only [bz]
def xbJ : Pat := ⟨xm 52 0 [(0, .c (.raw (.ptr 0 0))), (2, .c (.int .i64)), (3, .c (.int .i64)), (4, .c (.int .u64)), (5, .c (.bool)), (10, .c (.int .i64)), (11, .c (.int .i64)), (14, .c (.int .i64))], [some ⟨[.raw (.port), .geo, .int .u64], 150, false, none⟩]⟩
def qs : Pat := ⟨xm 52 0 [(0, .c (.raw (.ptr 0 0))), (2, .c (.int .i64)), (10, .c (.int .i64)), (11, .c (.int .i64)), (14, .c (.int .i64))], [some ⟨[.raw (.port), .geo, .int .u64], 150, false, none⟩]⟩
def wi : LF := fun st K => match xt xbJ st with
 | some [.i a0, .i a1, .i a2, .b b3, .i a4, .i a5, .i a6, .g g7, .i a8] => some (vz a0 a1 a4 a5 a6 g7 a2 b3 a8 (fun ae5 => K (.exit 4) (xd qs [.i a0, .i a4, .i a5, .i a6, .g g7, .i ae5])))
 | _ => none
theorem xmX : ∀ st K t, wi st K = some t -> xB xa (lf ka7 xa 1 .no [1, 0, 0, 1, 1, 0, 0, 1, 1, 0, 0, 1, 1, 0, 0, 1, 1, 0] Tryz.f240 K) st = t := by
 intro st K t h
 unfold wi at h
 split at h
 ·rename_i a0 a1 a2 b3 a4 a5 a6 g7 a8 hm
  cases h
  rw [xk hm]
  unfold vz
  exact xu (S := fun (i : Int × Bool × Int) => xd xbJ [.i a0, .i a1, .i (i.1), .b (i.2.1), .i a4, .i a5, .i a6, .g g7, .i (i.2.2)]) (fun i k => by kernel_rfl) xa (a2, b3, a8)
 ·cases h
def Wl (a0 a1 a2 : Int) (g4 : Geo) (κ0 : Int -> T β) (i : Int × Int) (k : Int × Int -> T β) : T β :=
 bif decide (i.1 < 4) then ((qi g4 a0 i.1).bind fun r1 =>
 vz a0 (i.1) a1 a2 (i.1) g4 (r1.1) (r1.2) (i.2) (fun y2_0 =>
 k (i64.wrap (i.1 + 1), y2_0))) else
 κ0 (i.2)
def ve (a0 a1 a2 : Int) (g4 : Geo) (a3 a5 : Int) (κ0 : Int -> T β) : T β := xq xa (Wl a0 a1 a2 g4 κ0) (a3, a5)
theorem xcg {β γ : Type} (a0 a1 a2 : Int) (g4 : Geo) (a3 a5 : Int) (κ0 : Int -> T β) (κ : β -> T γ) : (ve a0 a1 a2 g4 a3 a5 κ0).bind κ = ve a0 a1 a2 g4 a3 a5 (fun ae3 => (κ0 ae3).bind κ) := by
 unfold ve
 refine xj κ (fun i k => ?_) _ _
 unfold Wl
 simp only [bz, xcf]
def qt : Pat := ⟨xm 52 0 [(0, .c (.raw (.ptr 0 0))), (10, .c (.int .i64)), (11, .c (.int .i64))], [some ⟨[.raw (.port), .geo, .int .u64], 150, false, none⟩]⟩
def kC : LF := fun st K => match xt qs st with
 | some [.i a0, .i a1, .i a2, .i a3, .g g4, .i a5] => some (ve a0 a1 a2 g4 a3 a5 (fun ae3 => K (.exit 2) (xd qt [.i a1, .i a2, .g g4, .i ae3])))
 | _ => none
theorem xmY : ∀ st K t, kC st K = some t -> xB xa (lf ka7 xa 1 (lsAt wi .no [1, 1, 0, 0, 1, 1, 0]) [1, 0, 0, 1, 1, 0, 0, 1, 1, 0] Tryz.f240 K) st = t := by
 intro st K t h
 unfold kC at h
 split at h
 ·rename_i a0 a1 a2 a3 g4 a5 hm
  cases h
  rw [xk hm]
  unfold ve
  exact xu (S := fun (i : Int × Int) => xd qs [.i a0, .i a1, .i a2, .i (i.1), .g g4, .i (i.2)]) (fun i k => by kernel_rfl) xa (a3, a5)
 ·cases h
def Wm (a0 : Int) (g2 : Geo) (κ0 : Int -> T β) (i : Int × Int) (k : Int × Int -> T β) : T β :=
 bif decide (i.1 < a0) then (ve (i.1) a0 (i.1) g2 (0) (i.2) (fun y1_0 =>
 k (i64.wrap (i.1 + 1), y1_0))) else
 κ0 (i.2)
def vA (a0 : Int) (g2 : Geo) (a1 a3 : Int) (κ0 : Int -> T β) : T β := xq xa (Wm a0 g2 κ0) (a1, a3)
theorem xch {β γ : Type} (a0 : Int) (g2 : Geo) (a1 a3 : Int) (κ0 : Int -> T β) (κ : β -> T γ) : (vA a0 g2 a1 a3 κ0).bind κ = vA a0 g2 a1 a3 (fun ae1 => (κ0 ae1).bind κ) := by
 unfold vA
 refine xj κ (fun i k => ?_) _ _
 unfold Wm
 simp only [bz, xcg]
def xj4 : Pat := ⟨xm 52 0 [], [some ⟨[.raw (.port), .geo, .int .u64], 150, false, none⟩]⟩
def qu : LF := fun st K => match xt qt st with
 | some [.i a0, .i a1, .g g2, .i a3] => some (vA a0 g2 a1 a3 (fun ae1 => K (.exit 0) (xd xj4 [.g g2, .i ae1])))
 | _ => none
theorem xmZ : ∀ st K t, qu st K = some t -> xB xa (lf ka7 xa 1 (lsAt kC (lsAt wi .no [1, 1, 0, 0, 1, 1, 0]) [1, 1, 0, 0, 1, 1, 0]) [1, 0] Tryz.f240 K) st = t := by
 intro st K t h
 unfold qu at h
 split at h
 ·rename_i a0 a1 g2 a3 hm
  cases h
  rw [xk hm]
  unfold vA
  exact xu (S := fun (i : Int × Int) => xd qt [.i a0, .i (i.1), .g g2, .i (i.2)]) (fun i k => by kernel_rfl) xa (a1, a3)
 ·cases h
def VM (o : Int) (κ : (Unit × Int) -> T β) : T β :=
 vA (g.threads) (g) (0) (o) (fun y0_0 =>
 κ ((), y0_0))
def XJ (o : Int) : T (Unit × Int) := VM g o .ret
theorem xj5 (o : Int) (κ : (Unit × Int) -> T β) : (XJ g o).bind κ = VM g o κ := by
 unfold XJ VM
 simp only [bz, xch]
def VN (z : Int) (κ : Unit -> T β) : T β :=
 (Wc g 0 1 3 1 4 z).bind fun r0 =>
 κ ()
def XK (z : Int) : T Unit := VN g z .ret
theorem xj6 (z : Int) (κ : Unit -> T β) : (XK g z).bind κ = VN g z κ := by
 unfold XK VN
 simp only [bz]
def VO (z : Int) (κ : Unit -> T β) : T β :=
 (Wc g 1 1 3 (-1) 4 (i64.wrap (0 - z))).bind fun r0 =>
 κ ()
def XL (z : Int) : T Unit := VO g z .ret
theorem xj7 (z : Int) (κ : Unit -> T β) : (XL g z).bind κ = VO g z κ := by
 unfold XL VO
 simp only [bz]
def XM (κ : Unit -> T β) : T β :=
 (Wb g 2 1).bind fun r0 =>
 κ ()
def kD : T Unit := XM g .ret
theorem xgw (κ : Unit -> T β) : (kD g).bind κ = XM g κ := by
 unfold kD XM
 simp only [bz]
def qv (w z : Int) (κ : Unit -> T β) : T β :=
 (Wb g 4 (i64.wrap (z - w))).bind fun r0 =>
 κ ()
def wZ (w z : Int) : T Unit := qv g w z .ret
theorem xeC (w z : Int) (κ : Unit -> T β) : (wZ g w z).bind κ = qv g w z κ := by
 unfold wZ qv
 simp only [bz]
def VP : Sm := fun
 | [.c .port, .agg gc], [] => (match xv gc with
   | some g => some (mkS (Unit) (Zq g) fun r => some (.tup [], []))
   | _ => none)
 | _, _ => none
theorem xm0 : Good Tryz.prog (xo ka7) xa 0 (lsAt XF .no [1, 1, 0, 1, 0]) (Tryz.f126.body.getD .skip) (xr Tryz.f126.results.toList) := xA (xh (by kernel_rfl)) xz xqf
variable {σ : Type} {I : Port Tryz.prog σ}
theorem xeD (hl : SoundL I ka7) : SoundF I 126 VP := by
 refine sq hl xa Tryz.func126 fun _ _ t ht => ?_
 unfold VP at ht
 split at ht
 ·rename_i gc
  split at ht
  ·rename_i g hg
   obtain rfl := xe hg
   cases ht
   refine (xD (P := Tryz.prog) (n := xa) (x := (lsAt XF .no [1, 1, 0, 1, 0])) (fn := Tryz.f126) (H := []) (c := Tryz.f126.body.getD .skip) (xh (by kernel_rfl)) xm0).symm.trans ?_
   exact ey (xmT g _)
  ·cases ht
 ·cases ht
def xql : Sm := fun
 | [.c .port, .agg gc], [] => (match xv gc with
   | some g => some (mkS (Int) (acqT g) fun r => some (.c (.int .i64 r), []))
   | _ => none)
 | _, _ => none
theorem xtS : Good Tryz.prog (xo ka7) xa 0 (lsAt xcU .no [1, 1, 0]) (Tryz.f267.body.getD .skip) (xr Tryz.f267.results.toList) := xA (xh (by kernel_rfl)) xz xvQ
theorem xvR (hl : SoundL I ka7) : SoundF I 267 xql := by
 refine sq hl xa Tryz.func267 fun _ _ t ht => ?_
 unfold xql at ht
 split at ht
 ·rename_i gc
  split at ht
  ·rename_i g hg
   obtain rfl := xe hg
   cases ht
   refine (xD (P := Tryz.prog) (n := xa) (x := (lsAt xcU .no [1, 1, 0])) (fn := Tryz.f267) (H := []) (c := Tryz.f267.body.getD .skip) (xh (by kernel_rfl)) xtS).symm.trans ?_
   exact ey (xtP g _)
  ·cases ht
 ·cases ht
def xj8 : Sm := fun
 | [.c .port, .agg gc, .c (.int .i64 n)], [] => (match xv gc with
   | some g => some (mkS (Unit) (xhk g n) fun r => some (.tup [], []))
   | _ => none)
 | _, _ => none
theorem xqm : Good Tryz.prog (xo ka7) xa 0 (lsAt VG .no [1, 1, 0]) (Tryz.f284.body.getD .skip) (xr Tryz.f284.results.toList) := xA (xh (by kernel_rfl)) xz xtQ
theorem xtT (hl : SoundL I ka7) : SoundF I 284 xj8 := by
 refine sq hl xa Tryz.func284 fun _ _ t ht => ?_
 unfold xj8 at ht
 split at ht
 ·rename_i gc n
  split at ht
  ·rename_i g hg
   obtain rfl := xe hg
   cases ht
   refine (xD (P := Tryz.prog) (n := xa) (x := (lsAt VG .no [1, 1, 0])) (fn := Tryz.f284) (H := []) (c := Tryz.f284.body.getD .skip) (xh (by kernel_rfl)) xqm).symm.trans ?_
   exact ey (xqh g n _)
  ·cases ht
 ·cases ht
def xj9 : Sm := fun
 | [.c .port, .agg gc, .c (.int .i64 s), .c (.int .i64 a)], [] => (match xv gc with
   | some g => some (mkS (Ref) (xbH g s a) fun r => some (.agg r.cells, []))
   | _ => none)
 | _, _ => none
theorem xqn : Good Tryz.prog (xo ka7) xa 0 (lsAt VH .no [1, 1, 1, 0]) (Tryz.f285.body.getD .skip) (xr Tryz.f285.results.toList) := xA (xh (by kernel_rfl)) xz xtR
theorem xtU (hl : SoundL I ka7) : SoundF I 285 xj9 := by
 refine sq hl xa Tryz.func285 fun _ _ t ht => ?_
 unfold xj9 at ht
 split at ht
 ·rename_i gc s a
  split at ht
  ·rename_i g hg
   obtain rfl := xe hg
   cases ht
   refine (xD (P := Tryz.prog) (n := xa) (x := (lsAt VH .no [1, 1, 1, 0])) (fn := Tryz.f285) (H := []) (c := Tryz.f285.body.getD .skip) (xh (by kernel_rfl)) xqn).symm.trans ?_
   exact ey (xqj g s a _)
  ·cases ht
 ·cases ht
def xm1 : Sm := gS fun
 | g, [.c (.int .i64 s)] => some (mkS (Unit) (Wh g s) fun r => some (.tup [], []))
 | _, _ => none
theorem xqo (hl : SoundL I ka7) : SoundF I 287 xm1 := by
 refine gsq hl 1 Tryz.func287 fun g l t ht => ?_
 split at ht
 ·rename_i s
  cases ht
  exact ey (xmV g s _)
 ·cases ht
def xaP : Sm := fun
 | [.c (.ptr 0 0), .c (.int .i64 c)], [some ⟨.port :: gc, 150, false, none⟩] => (match hdOf gc with
   | some (g, o) => some (mkS ((Fnd × Int)) (XG g o c) fun r => some (.agg r.1.cells, [some ⟨.port :: (g.cells ++ [.int .u64 r.2]), 150, false, none⟩]))
   | _ => none)
 | _, _ => none
theorem xka : Good Tryz.prog (xo ka7) xa 1 (lsAt qq .no [1, 0, 1, 0]) (Tryz.f226.body.getD .skip) (xr Tryz.f226.results.toList) := xA (xh (by kernel_rfl)) xz xmW
theorem xm2 (hl : SoundL I ka7) : SoundF I 226 xaP := by
 refine sq hl xa Tryz.func226 fun _ _ t ht => ?_
 unfold xaP at ht
 split at ht
 ·rename_i c gc
  split at ht
  ·rename_i g o hg
   obtain rfl := yq hg
   cases ht
   refine (xD (P := Tryz.prog) (n := xa) (x := (lsAt qq .no [1, 0, 1, 0])) (fn := Tryz.f226) (H := [some ⟨.port :: (g.cells ++ [.int .u64 o]), 150, false, none⟩]) (c := Tryz.f226.body.getD .skip) (xh (by kernel_rfl)) xka).symm.trans ?_
   exact ey (xj0 g o c _)
  ·cases ht
 ·cases ht
def Wn : Sm := fun
 | [.c (.ptr 0 0)], [some ⟨.port :: gc, 150, false, none⟩] => (match hdOf gc with
   | some (g, o) => some (mkS ((Unit × Int)) (jF g o) fun r => some (.tup [], [some ⟨.port :: (g.cells ++ [.int .u64 r.2]), 150, false, none⟩]))
   | _ => none)
 | _, _ => none
theorem xgx : Good Tryz.prog (xo ka7) xa 1 (lsAt jg .no [1, 0]) (Tryz.f242.body.getD .skip) (xr Tryz.f242.results.toList) := xA (xh (by kernel_rfl)) xz xj1
theorem xkb (hl : SoundL I ka7) : SoundF I 242 Wn := by
 refine sq hl xa Tryz.func242 fun _ _ t ht => ?_
 unfold Wn at ht
 split at ht
 ·rename_i gc
  split at ht
  ·rename_i g o hg
   obtain rfl := yq hg
   cases ht
   refine (xD (P := Tryz.prog) (n := xa) (x := (lsAt jg .no [1, 0])) (fn := Tryz.f242) (H := [some ⟨.port :: (g.cells ++ [.int .u64 o]), 150, false, none⟩]) (c := Tryz.f242.body.getD .skip) (xh (by kernel_rfl)) xgx).symm.trans ?_
   exact ey (xgt g o _)
  ·cases ht
 ·cases ht
def Wo : Sm := fun
 | [.c (.ptr 0 0)], [some ⟨.port :: gc, 150, false, none⟩] => (match hdOf gc with
   | some (g, o) => some (mkS ((Unit × Int)) (jG g o) fun r => some (.tup [], [some ⟨.port :: (g.cells ++ [.int .u64 r.2]), 150, false, none⟩]))
   | _ => none)
 | _, _ => none
theorem xgy : Good Tryz.prog (xo ka7) xa 1 (lsAt jh .no [1, 0]) (Tryz.f243.body.getD .skip) (xr Tryz.f243.results.toList) := xA (xh (by kernel_rfl)) xz xj2
theorem xkc (hl : SoundL I ka7) : SoundF I 243 Wo := by
 refine sq hl xa Tryz.func243 fun _ _ t ht => ?_
 unfold Wo at ht
 split at ht
 ·rename_i gc
  split at ht
  ·rename_i g o hg
   obtain rfl := yq hg
   cases ht
   refine (xD (P := Tryz.prog) (n := xa) (x := (lsAt jh .no [1, 0])) (fn := Tryz.f243) (H := [some ⟨.port :: (g.cells ++ [.int .u64 o]), 150, false, none⟩]) (c := Tryz.f243.body.getD .skip) (xh (by kernel_rfl)) xgy).symm.trans ?_
   exact ey (xgv g o _)
  ·cases ht
 ·cases ht
def Zu : Sm := fun
 | [.c (.ptr 0 0)], [some ⟨.port :: gc, 150, false, none⟩] => (match hdOf gc with
   | some (g, o) => some (mkS ((Unit × Int)) (jH g o) fun r => some (.tup [], [some ⟨.port :: (g.cells ++ [.int .u64 r.2]), 150, false, none⟩]))
   | _ => none)
 | _, _ => none
theorem xgz (hl : SoundL I ka7) : SoundF I 87 Zu := by
 refine sq hl 1 Tryz.func87 fun _ _ t ht => ?_
 unfold Zu at ht
 split at ht
 ·rename_i gc
  split at ht
  ·rename_i g o hg
   obtain rfl := yq hg
   cases ht
   exact ey (xeA g o _)
  ·cases ht
 ·cases ht
def xkd : Sm := fun
 | [.c (.ptr 0 0), .c (.int .i64 k), .c (.int .i64 a)], [some ⟨.port :: gc, 150, false, none⟩] => (match hdOf gc with
   | some (g, o) => some (mkS ((Fnd × Int)) (xeB g o k a) fun r => some (.agg r.1.cells, [some ⟨.port :: (g.cells ++ [.int .u64 r.2]), 150, false, none⟩]))
   | _ => none)
 | _, _ => none
theorem xtV (hl : SoundL I ka7) : SoundF I 162 xkd := by
 refine sq hl 1 Tryz.func162 fun _ _ t ht => ?_
 unfold xkd at ht
 split at ht
 ·rename_i k a gc
  split at ht
  ·rename_i g o hg
   obtain rfl := yq hg
   cases ht
   exact ey (xqk g o k a _)
  ·cases ht
 ·cases ht
def xaQ : Sm := fun
 | [.c (.ptr 0 0)], [some ⟨.port :: gc, 150, false, none⟩] => (match hdOf gc with
   | some (g, o) => some (mkS ((Unit × Int)) (XJ g o) fun r => some (.tup [], [some ⟨.port :: (g.cells ++ [.int .u64 r.2]), 150, false, none⟩]))
   | _ => none)
 | _, _ => none
theorem xke : Good Tryz.prog (xo ka7) xa 1 (lsAt qu (lsAt kC (lsAt wi .no [1, 1, 0, 0, 1, 1, 0]) [1, 1, 0, 0, 1, 1, 0]) [1, 0]) (Tryz.f240.body.getD .skip) (xr Tryz.f240.results.toList) := xA (xh (by kernel_rfl)) (qJ (p := [1, 0]) (q := [1, 1, 0, 0, 1, 1, 0]) (xh (fn := Tryz.f240) (by kernel_rfl)) (qJ (p := [1, 0, 0, 1, 1, 0, 0, 1, 1, 0]) (q := [1, 1, 0, 0, 1, 1, 0]) (xh (fn := Tryz.f240) (by kernel_rfl)) xz xmX (by kernel_rfl)) xmY (by kernel_rfl)) xmZ
theorem xm3 (hl : SoundL I ka7) : SoundF I 240 xaQ := by
 refine sq hl xa Tryz.func240 fun _ _ t ht => ?_
 unfold xaQ at ht
 split at ht
 ·rename_i gc
  split at ht
  ·rename_i g o hg
   obtain rfl := yq hg
   cases ht
   refine (xD (P := Tryz.prog) (n := xa) (x := (lsAt qu (lsAt kC (lsAt wi .no [1, 1, 0, 0, 1, 1, 0]) [1, 1, 0, 0, 1, 1, 0]) [1, 0])) (fn := Tryz.f240) (H := [some ⟨.port :: (g.cells ++ [.int .u64 o]), 150, false, none⟩]) (c := Tryz.f240.body.getD .skip) (xh (by kernel_rfl)) xke).symm.trans ?_
   exact ey (xj5 g o _)
  ·cases ht
 ·cases ht
def xhm : Sm := gS fun
 | g, [.c (.int .i64 z)] => some (mkS (Unit) (XK g z) fun r => some (.tup [], []))
 | _, _ => none
theorem xm4 (hl : SoundL I ka7) : SoundF I 203 xhm := by
 refine gsq hl 1 Tryz.func203 fun g l t ht => ?_
 split at ht
 ·rename_i z
  cases ht
  exact ey (xj6 g z _)
 ·cases ht
def xhn : Sm := gS fun
 | g, [.c (.int .i64 z)] => some (mkS (Unit) (XL g z) fun r => some (.tup [], []))
 | _, _ => none
theorem xm5 (hl : SoundL I ka7) : SoundF I 206 xhn := by
 refine gsq hl 1 Tryz.func206 fun g l t ht => ?_
 split at ht
 ·rename_i z
  cases ht
  exact ey (xj7 g z _)
 ·cases ht
def xeE : Sm := gS fun
 | g, [] => some (mkS (Unit) (kD g) fun r => some (.tup [], []))
 | _, _ => none
theorem xkf (hl : SoundL I ka7) : SoundF I 204 xeE := by
 refine gsq hl 1 Tryz.func204 fun g l t ht => ?_
 split at ht
 ·cases ht
  exact ey (xgw g _)
 ·cases ht
def xbK : Sm := gS fun
 | g, [.c (.int .i64 w), .c (.int .i64 z)] => some (mkS (Unit) (wZ g w z) fun r => some (.tup [], []))
 | _, _ => none
theorem xgA (hl : SoundL I ka7) : SoundF I 205 xbK := by
 refine gsq hl 1 Tryz.func205 fun g l t ht => ?_
 split at ht
 ·rename_i w z
  cases ht
  exact ey (xeC g w z _)
 ·cases ht
def ka8 : List (Nat × Sm) := (126, VP) :: (267, xql) :: (284, xj8) :: (285, xj9) :: (287, xm1) :: (226, xaP) :: (242, Wn) :: (243, Wo) :: (87, Zu) :: (162, xkd) :: (240, xaQ) :: (203, xhm) :: (206, xhn) :: (204, xeE) :: (205, xbK) :: ka7
theorem s_ka8 : SoundL I ka8 := (.cons (xeD wD) (.cons (xvR wD) (.cons (xtT wD) (.cons (xtU wD) (.cons (xqo wD) (.cons (xm2 wD) (.cons (xkb wD) (.cons (xkc wD) (.cons (xgz wD) (.cons (xtV wD) (.cons (xm3 wD) (.cons (xm4 wD) (.cons (xm5 wD) (.cons (xkf wD) (.cons (xgA wD) wD)))))))))))))))
end Lx
end Go.Proofs.YtaegelbaghaooaaGreat
