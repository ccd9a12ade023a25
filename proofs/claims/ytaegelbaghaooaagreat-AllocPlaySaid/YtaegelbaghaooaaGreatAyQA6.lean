/- Summaries: runs, small functions. (trees printed by program, wip/auto.py) -/
import Derived.Test.YtaegelbaghaooaaGreatAyQA5
import Derived.WalkKit
set_option linter.unusedSimpArgs false
set_option linter.unusedVariables false
set_option linter.unusedSectionVars false
namespace Go.Proofs.YtaegelbaghaooaaGreat.Lx
open Go
set_option maxRecDepth 1000000

def xiH {β : Type} (x : Int) (κ : Bool → T β) : T β :=
 κ (decide (-1 ≥ 0))
def xog (x : Int) : T Bool := xiH x .ret
theorem xlm {β : Type} (x : Int) (κ : Bool → T β) : (xog x).bind κ = xiH x κ := by
 unfold xog xiH
 first | rfl | (simp only [xa, xb, xe, xc, T.bind_assoc])
def xcd {β : Type} (x k : Int) (κ : Bool → T β) : T β :=
 (ZX x k).bind fun r0 =>
 κ (decide (r0 ≥ 0))
def xef (x k : Int) : T Bool := xcd x k .ret
theorem xln {β : Type} (x k : Int) (κ : Bool → T β) : (xef x k).bind κ = xcd x k κ := by
 unfold xef xcd
 first | rfl | (simp only [xa, xb, xe, xc, T.bind_assoc])
def xiI {β : Type} (x k j : Int) (κ : Bool → T β) : T β :=
 (xcb x k j).bind fun r0 =>
 κ (decide (r0 ≥ 0))
def xiJ (x k j : Int) : T Bool := xiI x k j .ret
theorem xlo {β : Type} (x k j : Int) (κ : Bool → T β) : (xiJ x k j).bind κ = xiI x k j κ := by
 unfold xiJ xiI
 first | rfl | (simp only [xa, xb, xe, xc, T.bind_assoc])
def qV {β : Type} (a0 a1 : Int) (b2 : Bool) (g4 : Geo) (a5 a6 a7 : Int) (κ0 : Unit → T β) (i : Int) (k : Int → T β) : T β :=
 bif decide (i < IntKind.i64.wrap (a7 + a0)) then ((kX g4 i 0 0).bind fun r1 =>
 k (IntKind.i64.wrap (i + 1))) else
 κ0 ()
def vC {β : Type} (a0 a1 : Int) (b2 : Bool) (g4 : Geo) (a5 a6 a7 a3 : Int) (κ0 : Unit → T β) : T β := xA xd (qV a0 a1 b2 g4 a5 a6 a7 κ0) (a3)
theorem xbD {β γ : Type} (a0 a1 : Int) (b2 : Bool) (g4 : Geo) (a5 a6 a7 a3 : Int) (κ0 : Unit → T β) (κ : β → T γ) : (vC a0 a1 b2 g4 a5 a6 a7 a3 κ0).bind κ = vC a0 a1 b2 g4 a5 a6 a7 a3 (fun u => (κ0 u).bind κ) := by
 unfold vC
 refine xp κ (fun i k => ?_) _ _
 unfold qV
 first | rfl | (simp only [xa, xb, xe, xc, T.bind_assoc])
def xbv : Pat := ⟨xr 86 0 [(2, .c (.int .i64)), (8, .c (.int .i64)), (9, .c (.bool)), (10, .c (.raw (.ptr 1 0))), (11, .c (.raw (.ptr 2 0))), (12, .c (.int .i64))], [none, some ⟨[.raw (.port), .geo], 212, false, none⟩, some ⟨[.int .i64, .int .i64, .int .i64], 296, false, none⟩]⟩
def Ke : Pat := ⟨xr 86 0 [(2, .c (.int .i64)), (8, .c (.int .i64)), (9, .c (.bool)), (10, .c (.raw (.ptr 1 0))), (11, .c (.raw (.ptr 2 0)))], [none, some ⟨[.raw (.port), .geo], 212, false, none⟩, some ⟨[.int .i64, .int .i64, .int .i64], 296, false, none⟩]⟩
def qW : St → (Ex → St → T R) → Option (T R) := fun st K => match xy xbv st with
 | some [.i a0, .i a1, .b b2, .i a3, .g g4, .i a5, .i a6, .i a7] => some (vC a0 a1 b2 g4 a5 a6 a7 a3 (fun _ => K (.exit 0) (xf Ke [.i a0, .i a1, .b b2, .g g4, .i a5, .i a6, .i a7])))
 | _ => none
theorem xlp : ∀ st K t, qW st K = some t → xK xd (lf ka5 xd 0 .no [1, 1, 1, 1, 1, 1, 0, 1, 0] Tryz.f229 K) st = t := by
 intro st K t h
 unfold qW at h
 split at h
 ·rename_i a0 a1 b2 a3 g4 a5 a6 a7 hm
  cases h
  rw [xn hm]
  exact cast (by kernel_rfl) (xB (F := lf ka5 xd 0 .no [1, 1, 1, 1, 1, 1, 0, 1, 0] Tryz.f229 K) (S := fun i => xf xbv [.i a0, .i a1, .b b2, .i i, .g g4, .i a5, .i a6, .i a7]) (B := qV a0 a1 b2 g4 a5 a6 a7 (fun _ => K (.exit 0) (xf Ke [.i a0, .i a1, .b b2, .g g4, .i a5, .i a6, .i a7]))) (fun i k => by kernel_rfl) xd (a3))
 ·cases h
def ZY {β : Type} (g : Geo) (k a : Int) (κ : (Int × Bool) → T β) : T β :=
 bif decide (k < 1) then (κ ((0), (false))) else
 bif decide (a < 1) then (κ ((0), (false))) else
 bif decide (k > g.pages) then (κ ((0), (false))) else
 (xgI g k (if 256 < a then (256 : Int) else a)).bind fun r3 =>
 bif r3.n == 0 then (κ ((0), (false))) else
 (vW g r3.n true).bind fun r5 =>
 vC (k) (0) (false) (g) (r3.page) (r3.n) (r3.at_) (IntKind.i64.wrap (r3.at_ + 1)) (fun y6_0 =>
 (kX g r3.at_ 4 k).bind fun r7 =>
 (layT g r3.page (IntKind.i64.wrap (r3.at_ - r3.page))).bind fun r8 =>
 (layT g (IntKind.i64.wrap (r3.at_ + k)) (IntKind.i64.wrap (IntKind.i64.wrap (IntKind.i64.wrap (r3.page + r3.n) - r3.at_) - k))).bind fun r9 =>
 κ ((r3.at_), (true)))
def wP (g : Geo) (k a : Int) : T (Int × Bool) := ZY g k a .ret
theorem xiK {β : Type} (g : Geo) (k a : Int) (κ : (Int × Bool) → T β) : (wP g k a).bind κ = ZY g k a κ := by
 unfold wP ZY
 first | rfl | (simp only [xa, xb, xe, xc, T.bind_assoc, xbD])
def xce {β : Type} (g : Geo) (p k : Int) (κ : Bool → T β) : T β :=
 bif decide (p < 0) then (κ (false)) else
 bif decide (k < 1) then (κ (false)) else
 bif decide (p ≥ g.pages) then (κ (false)) else
 (Yz g p).bind fun r3 =>
 (xgv (Pg.mk r3.kind r3.len r3.cls r3.owner) k).bind fun r4 =>
 bif !r4 then (κ (false)) else
 (xar g p).bind fun r6 =>
 (XJ g (IntKind.i64.wrap (p + k))).bind fun r7 =>
 (kX g p 0 0).bind fun r8 =>
 bif decide (r6 > 0) then ((vW g r6 true).bind fun r10 =>
 (kX g (IntKind.i64.wrap (p - 1)) 0 0).bind fun r11 =>
 bif decide (r7 > 0) then ((vW g r7 true).bind fun r13 =>
 (kX g (IntKind.i64.wrap (p + k)) 0 0).bind fun r14 =>
 (layT g (IntKind.i64.wrap (p - r6)) (IntKind.i64.wrap (IntKind.i64.wrap (r6 + k) + r7))).bind fun r15 =>
 κ (true)) else
 (layT g (IntKind.i64.wrap (p - r6)) (IntKind.i64.wrap (IntKind.i64.wrap (r6 + k) + r7))).bind fun r13 =>
 κ (true)) else
 bif decide (r7 > 0) then ((vW g r7 true).bind fun r11 =>
 (kX g (IntKind.i64.wrap (p + k)) 0 0).bind fun r12 =>
 (layT g (IntKind.i64.wrap (p - r6)) (IntKind.i64.wrap (IntKind.i64.wrap (r6 + k) + r7))).bind fun r13 =>
 κ (true)) else
 (layT g (IntKind.i64.wrap (p - r6)) (IntKind.i64.wrap (IntKind.i64.wrap (r6 + k) + r7))).bind fun r11 =>
 κ (true)
def Ws (g : Geo) (p k : Int) : T Bool := xce g p k .ret
theorem xlq {β : Type} (g : Geo) (p k : Int) (κ : Bool → T β) : (Ws g p k).bind κ = xce g p k κ := by
 unfold Ws xce
 first | rfl | (simp only [xa, xb, xe, xc, T.bind_assoc])
def xcf {β : Type} (g : Geo) (κ : Unit → T β) : T β :=
 (layT g 0 g.pages).bind fun r0 =>
 κ ()
def xaG (g : Geo) : T Unit := xcf g .ret
theorem xlr {β : Type} (g : Geo) (κ : Unit → T β) : (xaG g).bind κ = xcf g κ := by
 unfold xaG xcf
 first | rfl | (simp only [xa, xb, xe, xc, T.bind_assoc])
def Kf {β : Type} (g : Geo) (o n : Int) (κ : (Unit × Int) → T β) : T β :=
 bif decide (n > 0) then (.op (.add (atF g 1 0) (IntKind.u64.wrap n)) fun x1 =>
 κ ((), (IntKind.u64.wrap (o + IntKind.u64.wrap n)))) else
 κ ((), (o))
def yF (g : Geo) (o n : Int) : T (Unit × Int) := Kf g o n .ret
theorem xls {β : Type} (g : Geo) (o n : Int) (κ : (Unit × Int) → T β) : (yF g o n).bind κ = Kf g o n κ := by
 unfold yF Kf
 first | rfl | (simp only [xa, xb, xe, xc, T.bind_assoc])
def xpH {β : Type} (g : Geo) (o p c : Int) (κ : (Bool × Int) → T β) : T β :=
 .op (.load (atF g 8 p)) fun x0 =>
 bif if ofW IntKind.i64 x0 8 3 > 0 then true else false then (κ (((bif decide (ofW IntKind.i64 x0 8 3 > 0) then IntKind.i64.wrap (ofW IntKind.i64 x0 8 3 - 1) else (0 : Int)) == c), (o))) else
 κ ((false), (o))
def hofT (g : Geo) (o p c : Int) : T (Bool × Int) := xpH g o p c .ret
theorem xrE {β : Type} (g : Geo) (o p c : Int) (κ : (Bool × Int) → T β) : (hofT g o p c).bind κ = xpH g o p c κ := by
 unfold hofT xpH
 first | rfl | (simp only [xa, xb, xe, xc, T.bind_assoc])
def Kg {β : Type} (g : Geo) (o c : Int) (κ : (Fnd × Int) → T β) : T β :=
 (xdK g c).bind fun r0 =>
 κ (⟨(IntKind.i64.wrap (IntKind.i64.wrap r0.1 - 1)), (r0.2), (0)⟩, (o))
def XX (g : Geo) (o c : Int) : T (Fnd × Int) := Kg g o c .ret
theorem xiL {β : Type} (g : Geo) (o c : Int) (κ : (Fnd × Int) → T β) : (XX g o c).bind κ = Kg g o c κ := by
 unfold XX Kg
 first | rfl | (simp only [xa, xb, xe, xc, T.bind_assoc])
def xcg {β : Type} (e l : Int) (κ : Res → T β) : T β :=
 .op (.tell [.int .i64 (0), .int .i64 (0), .int .u8 (0), .int .u64 (0), .int .u64 (0), .int .u64 (0), .int .u64 (0), .int .u64 (0), .int .i64 (e), .int .i64 (l), .int .i64 (0)]) fun _ =>
 κ ⟨(0), (0), (0), (0), (0), (0), (0), (0), (e), (l), (0)⟩
def vl (e l : Int) : T Res := xcg e l .ret
theorem xlt {β : Type} (e l : Int) (κ : Res → T β) : (vl e l).bind κ = xcg e l κ := by
 unfold vl xcg
 first | rfl | (simp only [xa, xb, xe, xc, T.bind_assoc])
def xeg {β : Type} (g : Geo) (k u z : Int) (κ : Res → T β) : T β :=
 (xas g k z).bind fun r0 =>
 .op (.steps ) fun x1 =>
 .op (.tell [.int .i64 (IntKind.i64.wrap (k * 8)), .int .i64 (u), .int .u8 (0), .int .u64 (0), .int .u64 (0), .int .u64 (0), .int .u64 (0), .int .u64 (0), .int .i64 (0), .int .i64 (x1), .int .i64 (0)]) fun _ =>
 κ ⟨(IntKind.i64.wrap (k * 8)), (u), (0), (0), (0), (0), (0), (0), (0), (x1), (0)⟩
def Kh (g : Geo) (k u z : Int) : T Res := xeg g k u z .ret
theorem xoh {β : Type} (g : Geo) (k u z : Int) (κ : Res → T β) : (Kh g k u z).bind κ = xeg g k u z κ := by
 unfold Kh xeg
 first | rfl | (simp only [xa, xb, xe, xc, T.bind_assoc])
def xeh : Sm := fun args H => match args, H with
 | [.c .nils, .c (.int .i64 x)], [] => some (mkS (Bool) (xog x) fun r => some (.c (.bool r), []))
 | _, _ => none
variable {σ : Type} {I : Port Tryz.prog σ}
theorem xoi (hl : SoundL I ka5) : SoundF I 251 xeh := by
 refine sq hl 5 Tryz.func251 fun args H t ht => ?_
 unfold xeh at ht
 split at ht
 ·rename_i x
  cases ht
  refine Eq.trans ?_ (xlm x _).symm
  kernel_rfl
 ·cases ht
def xei : Sm := fun args H => match args, H with
 | [.c (.sl 0 0 1 1), .c (.int .i64 x)], [some ⟨[.int .i64 k], 3, false, none⟩] => some (mkS (Bool) (xef x k) fun r => some (.c (.bool r), [some ⟨[.int .i64 k], 3, false, none⟩]))
 | _, _ => none
theorem xoj (hl : SoundL I ka5) : SoundF I 251 xei := by
 refine sq hl 5 Tryz.func251 fun args H t ht => ?_
 unfold xei at ht
 split at ht
 ·rename_i x k
  cases ht
  refine Eq.trans ?_ (xln x k _).symm
  kernel_rfl
 ·cases ht
def xej : Sm := fun args H => match args, H with
 | [.c (.sl 0 0 2 2), .c (.int .i64 x)], [some ⟨[.int .i64 k, .int .i64 j], 3, false, none⟩] => some (mkS (Bool) (xiJ x k j) fun r => some (.c (.bool r), [some ⟨[.int .i64 k, .int .i64 j], 3, false, none⟩]))
 | _, _ => none
theorem xok (hl : SoundL I ka5) : SoundF I 251 xej := by
 refine sq hl 5 Tryz.func251 fun args H t ht => ?_
 unfold xej at ht
 split at ht
 ·rename_i x k j
  cases ht
  refine Eq.trans ?_ (xlo x k j _).symm
  kernel_rfl
 ·cases ht
def xaH : Sm := fun args H => match args, H with
 | [.c .port, .agg gc, .c (.int .i64 k), .c (.int .i64 a)], [] => (match xu gc with
   | some g => some (mkS ((Int × Bool)) (wP g k a) fun r => some (.tup [.c (.int .i64 r.1), .c (.bool r.2)], []))
   | _ => none)
 | _, _ => none
theorem xiM : Good Tryz.prog (xt ka5) xd 0 (lsAt qW .no [1, 1, 1, 1, 1, 1, 0, 1, 0]) (Tryz.f229.body.getD .skip) (xv Tryz.f229.results.toList) := xH (xl (by kernel_rfl)) xE xlp
theorem xlu (hl : SoundL I ka5) : SoundF I 229 xaH := by
 refine sq hl xd Tryz.func229 fun args H t ht => ?_
 unfold xaH at ht
 split at ht
 ·rename_i gc k a
  split at ht
  ·rename_i g hg
   obtain rfl := xh hg
   cases ht
   refine (xG (P := Tryz.prog) (n := xd) (x := (lsAt qW .no [1, 1, 1, 1, 1, 1, 0, 1, 0])) (fn := Tryz.f229) (H := []) (c := Tryz.f229.body.getD .skip) (xl (by kernel_rfl)) xiM).symm.trans ?_
   refine Eq.trans ?_ (xiK g k a _).symm
   kernel_rfl
  ·cases ht
 ·cases ht
def xek : Sm := fun args H => match args, H with
 | [.c .port, .agg gc, .c (.int .i64 p), .c (.int .i64 k)], [] => (match xu gc with
   | some g => some (mkS (Bool) (Ws g p k) fun r => some (.c (.bool r), []))
   | _ => none)
 | _, _ => none
theorem xol (hl : SoundL I ka5) : SoundF I 235 xek := by
 refine sq hl 1 Tryz.func235 fun args H t ht => ?_
 unfold xek at ht
 split at ht
 ·rename_i gc p k
  split at ht
  ·rename_i g hg
   obtain rfl := xh hg
   cases ht
   refine Eq.trans ?_ (xlq g p k _).symm
   kernel_rfl
  ·cases ht
 ·cases ht
def Ki : Sm := fun args H => match args, H with
 | [.c .port, .agg gc], [] => (match xu gc with
   | some g => some (mkS (Unit) (xaG g) fun r => some (.tup [], []))
   | _ => none)
 | _, _ => none
theorem xel (hl : SoundL I ka5) : SoundF I 72 Ki := by
 refine sq hl 1 Tryz.func72 fun args H t ht => ?_
 unfold Ki at ht
 split at ht
 ·rename_i gc
  split at ht
  ·rename_i g hg
   obtain rfl := xh hg
   cases ht
   refine Eq.trans ?_ (xlr g _).symm
   kernel_rfl
  ·cases ht
 ·cases ht
def xem : Sm := fun args H => match args, H with
 | [.c (.ptr 0 0), .c (.int .i64 n)], [some ⟨.port :: gc, 150, false, none⟩] => (match hdOf gc with
   | some (g, o) => some (mkS ((Unit × Int)) (yF g o n) fun r => some (.tup [], [some ⟨.port :: (g.cells ++ [.int .u64 r.2]), 150, false, none⟩]))
   | _ => none)
 | _, _ => none
theorem xom (hl : SoundL I ka5) : SoundF I 86 xem := by
 refine sq hl 1 Tryz.func86 fun args H t ht => ?_
 unfold xem at ht
 split at ht
 ·rename_i n gc
  split at ht
  ·rename_i g o hg
   obtain rfl := yy hg
   cases ht
   refine Eq.trans ?_ (xls g o n _).symm
   kernel_rfl
  ·cases ht
 ·cases ht
def xon : Sm := fun args H => match args, H with
 | [.c (.ptr 0 0), .c (.int .i64 p), .c (.int .i64 c)], [some ⟨.port :: gc, 150, false, none⟩] => (match hdOf gc with
   | some (g, o) => some (mkS ((Bool × Int)) (hofT g o p c) fun r => some (.c (.bool r.1), [some ⟨.port :: (g.cells ++ [.int .u64 r.2]), 150, false, none⟩]))
   | _ => none)
 | _, _ => none
theorem xtr (hl : SoundL I ka5) : SoundF I 259 xon := by
 refine sq hl 1 Tryz.func259 fun args H t ht => ?_
 unfold xon at ht
 split at ht
 ·rename_i p c gc
  split at ht
  ·rename_i g o hg
   obtain rfl := yy hg
   cases ht
   refine Eq.trans ?_ (xrE g o p c _).symm
   kernel_rfl
  ·cases ht
 ·cases ht
def xaI : Sm := fun args H => match args, H with
 | [.c (.ptr 0 0), .c (.int .i64 c)], [some ⟨.port :: gc, 150, false, none⟩] => (match hdOf gc with
   | some (g, o) => some (mkS ((Fnd × Int)) (XX g o c) fun r => some (.agg r.1.cells, [some ⟨.port :: (g.cells ++ [.int .u64 r.2]), 150, false, none⟩]))
   | _ => none)
 | _, _ => none
theorem xlv (hl : SoundL I ka5) : SoundF I 224 xaI := by
 refine sq hl 1 Tryz.func224 fun args H t ht => ?_
 unfold xaI at ht
 split at ht
 ·rename_i c gc
  split at ht
  ·rename_i g o hg
   obtain rfl := yy hg
   cases ht
   refine Eq.trans ?_ (xiL g o c _).symm
   kernel_rfl
  ·cases ht
 ·cases ht
def xen : Sm := fun args H => match args, H with
 | [.c .port, .c (.int .i64 e), .c (.int .i64 l)], [] => some (mkS (Res) (vl e l) fun r => some (.agg r.cells, []))
 | _, _ => none
theorem xoo (hl : SoundL I ka5) : SoundF I 80 xen := by
 refine sq hl 1 Tryz.func80 fun args H t ht => ?_
 unfold xen at ht
 split at ht
 ·rename_i e l
  cases ht
  refine Eq.trans ?_ (xlt e l _).symm
  kernel_rfl
 ·cases ht
def xiN : Sm := fun args H => match args, H with
 | [.c .port, .agg gc, .c (.int .i64 k), .c (.int .i64 u), .c (.int .i64 z)], [] => (match xu gc with
   | some g => some (mkS (Res) (Kh g k u z) fun r => some (.agg r.cells, []))
   | _ => none)
 | _, _ => none
theorem xrF (hl : SoundL I ka5) : SoundF I 81 xiN := by
 refine sq hl 1 Tryz.func81 fun args H t ht => ?_
 unfold xiN at ht
 split at ht
 ·rename_i gc k u z
  split at ht
  ·rename_i g hg
   obtain rfl := xh hg
   cases ht
   refine Eq.trans ?_ (xoh g k u z _).symm
   kernel_rfl
  ·cases ht
 ·cases ht
def ka6 : List (Nat × Sm) := (251, (orSm xeh (orSm xei xej))) :: (229, xaH) :: (235, xek) :: (72, Ki) :: (86, xem) :: (259, xon) :: (224, xaI) :: (80, xen) :: (81, xiN) :: ka5
theorem YD : SoundL I ka6 := (.cons (SoundF.or (xoi jY) (SoundF.or (xoj jY) (xok jY))) (.cons (xlu jY) (.cons (xol jY) (.cons (xel jY) (.cons (xom jY) (.cons (xtr jY) (.cons (xlv jY) (.cons (xoo jY) (.cons (xrF jY) jY)))))))))
end Go.Proofs.YtaegelbaghaooaaGreat.Lx
