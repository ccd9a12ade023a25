/- Summaries: runs, small functions. (trees printed by program, wip/auto.py) -/
import Derived.Test.YtaegelbaghaooaaGreatErQA5
import Derived.WalkKit
set_option linter.all false
open Go.IntKind (i64 u64 u32 u8)
namespace Go.Proofs.YtaegelbaghaooaaGreat.Lx
open Go
set_option maxRecDepth 1000000
def xiH {β : Type} (x : Int) (κ : Bool -> T β) : T β :=
 κ (decide (-1 >= 0))
def xoC (x : Int) : T Bool := xiH x .ret
theorem xlD {β : Type} (x : Int) (κ : Bool -> T β) : (xoC x).bind κ = xiH x κ := by
 unfold xoC xiH
 first | rfl | (simp only [xa, xb, xe, xc, T.bind_assoc])
def xcd {β : Type} (x k : Int) (κ : Bool -> T β) : T β :=
 (ZX x k).bind fun r0 =>
 κ (decide (r0 >= 0))
def xer (x k : Int) : T Bool := xcd x k .ret
theorem xlE {β : Type} (x k : Int) (κ : Bool -> T β) : (xer x k).bind κ = xcd x k κ := by
 unfold xer xcd
 first | rfl | (simp only [xa, xb, xe, xc, T.bind_assoc])
def xiI {β : Type} (x k j : Int) (κ : Bool -> T β) : T β :=
 (xcb x k j).bind fun r0 =>
 κ (decide (r0 >= 0))
def xiJ (x k j : Int) : T Bool := xiI x k j .ret
theorem xlF {β : Type} (x k j : Int) (κ : Bool -> T β) : (xiJ x k j).bind κ = xiI x k j κ := by
 unfold xiJ xiI
 first | rfl | (simp only [xa, xb, xe, xc, T.bind_assoc])
def qS {β : Type} (a0 a1 : Int) (b2 : Bool) (g4 : Geo) (a5 a6 a7 : Int) (κ0 : Unit -> T β) (i : Int) (k : Int -> T β) : T β :=
 bif decide (i < i64.wrap (a7 + a0)) then ((ja g4 i 0 0).bind fun r1 =>
 k (i64.wrap (i + 1))) else
 κ0 ()
def vv {β : Type} (a0 a1 : Int) (b2 : Bool) (g4 : Geo) (a5 a6 a7 a3 : Int) (κ0 : Unit -> T β) : T β := xz xd (qS a0 a1 b2 g4 a5 a6 a7 κ0) a3
theorem xby {β γ : Type} (a0 a1 : Int) (b2 : Bool) (g4 : Geo) (a5 a6 a7 a3 : Int) (κ0 : Unit -> T β) (κ : β -> T γ) : (vv a0 a1 b2 g4 a5 a6 a7 a3 κ0).bind κ = vv a0 a1 b2 g4 a5 a6 a7 a3 (fun u => (κ0 u).bind κ) := by
 unfold vv
 refine xn κ (fun i k => ?_) _ _
 unfold qS
 first | rfl | (simp only [xa, xb, xe, xc, T.bind_assoc])
def xbp : Pat := ⟨xu 86 0 [(2, .c (.int .i64)), (8, .c (.int .i64)), (9, .c (.bool)), (10, .c (.raw (.ptr 1 0))), (11, .c (.raw (.ptr 2 0))), (12, .c (.int .i64))], [none, some ⟨[.raw (.port), .geo], 212, false, none⟩, some ⟨[.int .i64, .int .i64, .int .i64], 296, false, none⟩]⟩
def Kb : Pat := ⟨xu 86 0 [(2, .c (.int .i64)), (8, .c (.int .i64)), (9, .c (.bool)), (10, .c (.raw (.ptr 1 0))), (11, .c (.raw (.ptr 2 0)))], [none, some ⟨[.raw (.port), .geo], 212, false, none⟩, some ⟨[.int .i64, .int .i64, .int .i64], 296, false, none⟩]⟩
def qT : St -> (Ex -> St -> T R) -> Option (T R) := fun st K => match xx xbp st with
 | some [.i a0, .i a1, .b b2, .i a3, .g g4, .i a5, .i a6, .i a7] => some (vv a0 a1 b2 g4 a5 a6 a7 a3 (fun _ => K (.exit 0) (xf Kb [.i a0, .i a1, .b b2, .g g4, .i a5, .i a6, .i a7])))
 | _ => none
theorem xlG : ∀ st K t, qT st K = some t -> xF xd (lf ka5 xd 0 .no [1, 1, 1, 1, 1, 1, 0, 1, 0] Tryz.f229 K) st = t := by
 intro st K t h
 unfold qT at h
 split at h
 ·rename_i a0 a1 b2 a3 g4 a5 a6 a7 hm
  cases h
  rw [xp hm]
  exact cast (by kernel_rfl) (xy (F := lf ka5 xd 0 .no [1, 1, 1, 1, 1, 1, 0, 1, 0] Tryz.f229 K) (S := fun i => xf xbp [.i a0, .i a1, .b b2, .i i, .g g4, .i a5, .i a6, .i a7]) (B := qS a0 a1 b2 g4 a5 a6 a7 (fun _ => K (.exit 0) (xf Kb [.i a0, .i a1, .b b2, .g g4, .i a5, .i a6, .i a7]))) (fun i k => by kernel_rfl) xd a3)
 ·cases h
def ZY {β : Type} (g : Geo) (k a : Int) (κ : (Int × Bool) -> T β) : T β :=
 bif decide (k < 1) then (κ ((0), (false))) else
 bif decide (a < 1) then (κ ((0), (false))) else
 bif decide (k > g.pages) then (κ ((0), (false))) else
 (xgI g k (if 256 < a then (256 : Int) else a)).bind fun r3 =>
 bif r3.n == 0 then (κ ((0), (false))) else
 (vS g r3.n true).bind fun r5 =>
 vv (k) (0) (false) (g) (r3.page) (r3.n) (r3.at_) (i64.wrap (r3.at_ + 1)) (fun y6_0 =>
 (ja g r3.at_ 4 k).bind fun r7 =>
 (layT g r3.page (i64.wrap (r3.at_ - r3.page))).bind fun r8 =>
 (layT g (i64.wrap (r3.at_ + k)) (i64.wrap (i64.wrap (i64.wrap (r3.page + r3.n) - r3.at_) - k))).bind fun r9 =>
 κ ((r3.at_), (true)))
def wQ (g : Geo) (k a : Int) : T (Int × Bool) := ZY g k a .ret
theorem xiK {β : Type} (g : Geo) (k a : Int) (κ : (Int × Bool) -> T β) : (wQ g k a).bind κ = ZY g k a κ := by
 unfold wQ ZY
 first | rfl | (simp only [xa, xb, xe, xc, T.bind_assoc, xby])
def xce {β : Type} (g : Geo) (p k : Int) (κ : Bool -> T β) : T β :=
 bif decide (p < 0) then (κ (false)) else
 bif decide (k < 1) then (κ (false)) else
 bif decide (p >= g.pages) then (κ (false)) else
 (Yy g p).bind fun r3 =>
 (xgD (Pg.mk r3.kind r3.len r3.cls r3.owner) k).bind fun r4 =>
 bif !r4 then (κ (false)) else
 (xaq g p).bind fun r6 =>
 (XL g (i64.wrap (p + k))).bind fun r7 =>
 (ja g p 0 0).bind fun r8 =>
 bif decide (r6 > 0) then ((vS g r6 true).bind fun r10 =>
 (ja g (i64.wrap (p - 1)) 0 0).bind fun r11 =>
 bif decide (r7 > 0) then ((vS g r7 true).bind fun r13 =>
 (ja g (i64.wrap (p + k)) 0 0).bind fun r14 =>
 (layT g (i64.wrap (p - r6)) (i64.wrap (i64.wrap (r6 + k) + r7))).bind fun r15 =>
 κ (true)) else
 (layT g (i64.wrap (p - r6)) (i64.wrap (i64.wrap (r6 + k) + r7))).bind fun r13 =>
 κ (true)) else
 bif decide (r7 > 0) then ((vS g r7 true).bind fun r11 =>
 (ja g (i64.wrap (p + k)) 0 0).bind fun r12 =>
 (layT g (i64.wrap (p - r6)) (i64.wrap (i64.wrap (r6 + k) + r7))).bind fun r13 =>
 κ (true)) else
 (layT g (i64.wrap (p - r6)) (i64.wrap (i64.wrap (r6 + k) + r7))).bind fun r11 =>
 κ (true)
def Ww (g : Geo) (p k : Int) : T Bool := xce g p k .ret
theorem xlH {β : Type} (g : Geo) (p k : Int) (κ : Bool -> T β) : (Ww g p k).bind κ = xce g p k κ := by
 unfold Ww xce
 first | rfl | (simp only [xa, xb, xe, xc, T.bind_assoc])
def xcf {β : Type} (g : Geo) (κ : Unit -> T β) : T β :=
 (layT g 0 g.pages).bind fun r0 =>
 κ ()
def xaH (g : Geo) : T Unit := xcf g .ret
theorem xlI {β : Type} (g : Geo) (κ : Unit -> T β) : (xaH g).bind κ = xcf g κ := by
 unfold xaH xcf
 first | rfl | (simp only [xa, xb, xe, xc, T.bind_assoc])
def Kc {β : Type} (g : Geo) (o n : Int) (κ : (Unit × Int) -> T β) : T β :=
 bif decide (n > 0) then (.op (.add (atF g 1 0) (u64.wrap n)) fun x1 =>
 κ ((), (u64.wrap (o + u64.wrap n)))) else
 κ ((), (o))
def yJ (g : Geo) (o n : Int) : T (Unit × Int) := Kc g o n .ret
theorem xlJ {β : Type} (g : Geo) (o n : Int) (κ : (Unit × Int) -> T β) : (yJ g o n).bind κ = Kc g o n κ := by
 unfold yJ Kc
 first | rfl | (simp only [xa, xb, xe, xc, T.bind_assoc])
def xpI {β : Type} (g : Geo) (o p c : Int) (κ : (Bool × Int) -> T β) : T β :=
 .op (.load (atF g 8 p)) fun x0 =>
 bif if ofW i64 x0 8 3 > 0 then true else false then (κ (((bif decide (ofW i64 x0 8 3 > 0) then i64.wrap (ofW i64 x0 8 3 - 1) else (0 : Int)) == c), (o))) else
 κ ((false), (o))
def hofT (g : Geo) (o p c : Int) : T (Bool × Int) := xpI g o p c .ret
theorem xrF {β : Type} (g : Geo) (o p c : Int) (κ : (Bool × Int) -> T β) : (hofT g o p c).bind κ = xpI g o p c κ := by
 unfold hofT xpI
 first | rfl | (simp only [xa, xb, xe, xc, T.bind_assoc])
def Ke {β : Type} (g : Geo) (o c : Int) (κ : (Fnd × Int) -> T β) : T β :=
 (xdV g c).bind fun r0 =>
 κ (⟨(i64.wrap (i64.wrap r0.1 - 1)), (r0.2), (0)⟩, (o))
def Yb (g : Geo) (o c : Int) : T (Fnd × Int) := Ke g o c .ret
theorem xiL {β : Type} (g : Geo) (o c : Int) (κ : (Fnd × Int) -> T β) : (Yb g o c).bind κ = Ke g o c κ := by
 unfold Yb Ke
 first | rfl | (simp only [xa, xb, xe, xc, T.bind_assoc])
def xcg {β : Type} (e l : Int) (κ : Res -> T β) : T β :=
 .op (.tell [.int .i64 (0), .int .i64 (0), .int .u8 (0), .int .u64 (0), .int .u64 (0), .int .u64 (0), .int .u64 (0), .int .u64 (0), .int .i64 (e), .int .i64 (l), .int .i64 (0)]) fun _ =>
 κ ⟨(0), (0), (0), (0), (0), (0), (0), (0), (e), (l), (0)⟩
def jt (e l : Int) : T Res := xcg e l .ret
theorem xlK {β : Type} (e l : Int) (κ : Res -> T β) : (jt e l).bind κ = xcg e l κ := by
 unfold jt xcg
 first | rfl | (simp only [xa, xb, xe, xc, T.bind_assoc])
def xiM {β : Type} (g : Geo) (k u z : Int) (κ : Res -> T β) : T β :=
 (xar g k z).bind fun r0 =>
 .op (.steps ) fun x1 =>
 .op (.tell [.int .i64 (i64.wrap (k * 8)), .int .i64 (u), .int .u8 (0), .int .u64 (0), .int .u64 (0), .int .u64 (0), .int .u64 (0), .int .u64 (0), .int .i64 (0), .int .i64 x1, .int .i64 (0)]) fun _ =>
 κ ⟨(i64.wrap (k * 8)), (u), (0), (0), (0), (0), (0), (0), (0), x1, (0)⟩
def xlL (g : Geo) (k u z : Int) : T Res := xiM g k u z .ret
theorem xoD {β : Type} (g : Geo) (k u z : Int) (κ : Res -> T β) : (xlL g k u z).bind κ = xiM g k u z κ := by
 unfold xlL xiM
 first | rfl | (simp only [xa, xb, xe, xc, T.bind_assoc])
def xes : Sm := fun args H => match args, H with
 | [.c .nils, .c (.int .i64 x)], [] => some (mkS (Bool) (xoC x) fun r => some (.c (.bool r), []))
 | _, _ => none
variable {σ : Type} {I : Port Tryz.prog σ}
theorem xoE (hl : SoundL I ka5) : SoundF I 251 xes := by
 refine sq hl 5 Tryz.func251 fun args H t ht => ?_
 unfold xes at ht
 split at ht
 ·rename_i x
  cases ht
  refine Eq.trans ?_ (xlD x _).symm
  kernel_rfl
 ·cases ht
def xet : Sm := fun args H => match args, H with
 | [.c (.sl 0 0 1 1), .c (.int .i64 x)], [some ⟨[.int .i64 k], 3, false, none⟩] => some (mkS (Bool) (xer x k) fun r => some (.c (.bool r), [some ⟨[.int .i64 k], 3, false, none⟩]))
 | _, _ => none
theorem xoF (hl : SoundL I ka5) : SoundF I 251 xet := by
 refine sq hl 5 Tryz.func251 fun args H t ht => ?_
 unfold xet at ht
 split at ht
 ·rename_i x k
  cases ht
  refine Eq.trans ?_ (xlE x k _).symm
  kernel_rfl
 ·cases ht
def xeu : Sm := fun args H => match args, H with
 | [.c (.sl 0 0 2 2), .c (.int .i64 x)], [some ⟨[.int .i64 k, .int .i64 j], 3, false, none⟩] => some (mkS (Bool) (xiJ x k j) fun r => some (.c (.bool r), [some ⟨[.int .i64 k, .int .i64 j], 3, false, none⟩]))
 | _, _ => none
theorem xoG (hl : SoundL I ka5) : SoundF I 251 xeu := by
 refine sq hl 5 Tryz.func251 fun args H t ht => ?_
 unfold xeu at ht
 split at ht
 ·rename_i x k j
  cases ht
  refine Eq.trans ?_ (xlF x k j _).symm
  kernel_rfl
 ·cases ht
def xaI : Sm := fun args H => match args, H with
 | [.c .port, .agg gc, .c (.int .i64 k), .c (.int .i64 a)], [] => (match xr gc with
   | some g => some (mkS ((Int × Bool)) (wQ g k a) fun r => some (.tup [.c (.int .i64 r.1), .c (.bool r.2)], []))
   | _ => none)
 | _, _ => none
theorem xiN : Good Tryz.prog (xw ka5) xd 0 (lsAt qT .no [1, 1, 1, 1, 1, 1, 0, 1, 0]) (Tryz.f229.body.getD .skip) (xC Tryz.f229.results.toList) := xL (xo (by kernel_rfl)) xK xlG
theorem xlM (hl : SoundL I ka5) : SoundF I 229 xaI := by
 refine sq hl xd Tryz.func229 fun args H t ht => ?_
 unfold xaI at ht
 split at ht
 ·rename_i gc k a
  split at ht
  ·rename_i g hg
   obtain rfl := xi hg
   cases ht
   refine (xP (P := Tryz.prog) (n := xd) (x := (lsAt qT .no [1, 1, 1, 1, 1, 1, 0, 1, 0])) (fn := Tryz.f229) (H := []) (c := Tryz.f229.body.getD .skip) (xo (by kernel_rfl)) xiN).symm.trans ?_
   refine Eq.trans ?_ (xiK g k a _).symm
   kernel_rfl
  ·cases ht
 ·cases ht
def xev : Sm := fun args H => match args, H with
 | [.c .port, .agg gc, .c (.int .i64 p), .c (.int .i64 k)], [] => (match xr gc with
   | some g => some (mkS (Bool) (Ww g p k) fun r => some (.c (.bool r), []))
   | _ => none)
 | _, _ => none
theorem xoH (hl : SoundL I ka5) : SoundF I 235 xev := by
 refine sq hl 1 Tryz.func235 fun args H t ht => ?_
 unfold xev at ht
 split at ht
 ·rename_i gc p k
  split at ht
  ·rename_i g hg
   obtain rfl := xi hg
   cases ht
   refine Eq.trans ?_ (xlH g p k _).symm
   kernel_rfl
  ·cases ht
 ·cases ht
def Kf : Sm := fun args H => match args, H with
 | [.c .port, .agg gc], [] => (match xr gc with
   | some g => some (mkS (Unit) (xaH g) fun r => some (.tup [], []))
   | _ => none)
 | _, _ => none
theorem xew (hl : SoundL I ka5) : SoundF I 72 Kf := by
 refine sq hl 1 Tryz.func72 fun args H t ht => ?_
 unfold Kf at ht
 split at ht
 ·rename_i gc
  split at ht
  ·rename_i g hg
   obtain rfl := xi hg
   cases ht
   refine Eq.trans ?_ (xlI g _).symm
   kernel_rfl
  ·cases ht
 ·cases ht
def xex : Sm := fun args H => match args, H with
 | [.c (.ptr 0 0), .c (.int .i64 n)], [some ⟨.port :: gc, 150, false, none⟩] => (match hdOf gc with
   | some (g, o) => some (mkS ((Unit × Int)) (yJ g o n) fun r => some (.tup [], [some ⟨.port :: (g.cells ++ [.int .u64 r.2]), 150, false, none⟩]))
   | _ => none)
 | _, _ => none
theorem xoI (hl : SoundL I ka5) : SoundF I 86 xex := by
 refine sq hl 1 Tryz.func86 fun args H t ht => ?_
 unfold xex at ht
 split at ht
 ·rename_i n gc
  split at ht
  ·rename_i g o hg
   obtain rfl := yz hg
   cases ht
   refine Eq.trans ?_ (xlJ g o n _).symm
   kernel_rfl
  ·cases ht
 ·cases ht
def xoJ : Sm := fun args H => match args, H with
 | [.c (.ptr 0 0), .c (.int .i64 p), .c (.int .i64 c)], [some ⟨.port :: gc, 150, false, none⟩] => (match hdOf gc with
   | some (g, o) => some (mkS ((Bool × Int)) (hofT g o p c) fun r => some (.c (.bool r.1), [some ⟨.port :: (g.cells ++ [.int .u64 r.2]), 150, false, none⟩]))
   | _ => none)
 | _, _ => none
theorem xtj (hl : SoundL I ka5) : SoundF I 259 xoJ := by
 refine sq hl 1 Tryz.func259 fun args H t ht => ?_
 unfold xoJ at ht
 split at ht
 ·rename_i p c gc
  split at ht
  ·rename_i g o hg
   obtain rfl := yz hg
   cases ht
   refine Eq.trans ?_ (xrF g o p c _).symm
   kernel_rfl
  ·cases ht
 ·cases ht
def xaJ : Sm := fun args H => match args, H with
 | [.c (.ptr 0 0), .c (.int .i64 c)], [some ⟨.port :: gc, 150, false, none⟩] => (match hdOf gc with
   | some (g, o) => some (mkS ((Fnd × Int)) (Yb g o c) fun r => some (.agg r.1.cells, [some ⟨.port :: (g.cells ++ [.int .u64 r.2]), 150, false, none⟩]))
   | _ => none)
 | _, _ => none
theorem xlN (hl : SoundL I ka5) : SoundF I 224 xaJ := by
 refine sq hl 1 Tryz.func224 fun args H t ht => ?_
 unfold xaJ at ht
 split at ht
 ·rename_i c gc
  split at ht
  ·rename_i g o hg
   obtain rfl := yz hg
   cases ht
   refine Eq.trans ?_ (xiL g o c _).symm
   kernel_rfl
  ·cases ht
 ·cases ht
def xey : Sm := fun args H => match args, H with
 | [.c .port, .c (.int .i64 e), .c (.int .i64 l)], [] => some (mkS (Res) (jt e l) fun r => some (.agg r.cells, []))
 | _, _ => none
theorem xoK (hl : SoundL I ka5) : SoundF I 80 xey := by
 refine sq hl 1 Tryz.func80 fun args H t ht => ?_
 unfold xey at ht
 split at ht
 ·rename_i e l
  cases ht
  refine Eq.trans ?_ (xlK e l _).symm
  kernel_rfl
 ·cases ht
def xiO : Sm := fun args H => match args, H with
 | [.c .port, .agg gc, .c (.int .i64 k), .c (.int .i64 u), .c (.int .i64 z)], [] => (match xr gc with
   | some g => some (mkS (Res) (xlL g k u z) fun r => some (.agg r.cells, []))
   | _ => none)
 | _, _ => none
theorem xrG (hl : SoundL I ka5) : SoundF I 81 xiO := by
 refine sq hl 1 Tryz.func81 fun args H t ht => ?_
 unfold xiO at ht
 split at ht
 ·rename_i gc k u z
  split at ht
  ·rename_i g hg
   obtain rfl := xi hg
   cases ht
   refine Eq.trans ?_ (xoD g k u z _).symm
   kernel_rfl
  ·cases ht
 ·cases ht
def ka6 : List (Nat × Sm) := (251, (orSm xes (orSm xet xeu))) :: (229, xaI) :: (235, xev) :: (72, Kf) :: (86, xex) :: (259, xoJ) :: (224, xaJ) :: (80, xey) :: (81, xiO) :: ka5
theorem jg : SoundL I ka6 := (.cons (SoundF.or (xoE qb) (SoundF.or (xoF qb) (xoG qb))) (.cons (xlM qb) (.cons (xoH qb) (.cons (xew qb) (.cons (xoI qb) (.cons (xtj qb) (.cons (xlN qb) (.cons (xoK qb) (.cons (xrG qb) qb)))))))))
end Go.Proofs.YtaegelbaghaooaaGreat.Lx
