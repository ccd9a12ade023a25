/- Part. -/
import Derived.Test.YtaegelbaghaooaaGreatCfQI
set_option linter.all false
open Go.IntKind (i64 u64 u32 u8)
namespace Go.Proofs.YtaegelbaghaooaaGreat
namespace Lx
open Go
set_option maxRecDepth 1000000
def VU {β : Type} (g : Geo) (c : Int) (κ : (Int × Int) -> T β) : T β :=
 (jC g).bind fun r0 =>
 bif r0 then (κ ((0), (15))) else
 bif decide (c < 0) then (κ ((0), (15))) else
 bif decide (c >= 4) then (κ ((0), (15))) else
 .op (.load (atF g 1 0)) fun x4 =>
 (XP g 0 c).bind fun r5 =>
 bif !r5.1.ok then (bif r5.1.e == 0 then ((ZI g r5.2).bind fun r8 =>
 bif !r8.1 then (κ ((0), (5))) else
 (jQ g r8.2 c).bind fun r10 =>
 bif r10.1.e != 0 then (κ ((0), (r10.1.e))) else
 bif r10.1.ok then (κ ((r10.1.grain), (0))) else
 .op (.load (atF g 1 0)) fun x13 =>
 bif x13 == u64.wrap (x4 + r10.2) then (κ ((0), (15))) else
 .fail) else
 bif r5.1.e != 0 then (κ ((0), (r5.1.e))) else
 bif r5.1.ok then (κ ((r5.1.grain), (0))) else
 .op (.load (atF g 1 0)) fun x10 =>
 bif x10 == u64.wrap (x4 + r5.2) then (κ ((0), (15))) else
 .fail) else
 bif r5.1.e != 0 then (κ ((0), (r5.1.e))) else
 bif r5.1.ok then (κ ((r5.1.grain), (0))) else
 .op (.load (atF g 1 0)) fun x9 =>
 bif x9 == u64.wrap (x4 + r5.2) then (κ ((0), (15))) else
 .fail
def qG (g : Geo) (c : Int) : T (Int × Int) := VU g c .ret
theorem xiW {β : Type} (g : Geo) (c : Int) (κ : (Int × Int) -> T β) : (qG g c).bind κ = VU g c κ := by
 unfold qG VU
 first | rfl | simp only [bz]
def xc0 {β : Type} (g : Geo) (k a : Int) (κ : (Int × Int) -> T β) : T β :=
 (jC g).bind fun r0 =>
 bif r0 then (κ ((0), (15))) else
 bif decide (k < 1) then (κ ((0), (15))) else
 bif decide (a < 1) then (κ ((0), (15))) else
 .op (.load (atF g 1 0)) fun x4 =>
 (xf7 g 0 k a).bind fun r5 =>
 bif !r5.1.ok then (bif r5.1.e == 0 then ((ZI g r5.2).bind fun r8 =>
 bif !r8.1 then (κ ((0), (5))) else
 (xf7 g r8.2 k a).bind fun r10 =>
 bif r10.1.e != 0 then (κ ((0), (r10.1.e))) else
 bif r10.1.ok then (κ ((r10.1.grain), (0))) else
 .op (.load (atF g 1 0)) fun x13 =>
 bif x13 == u64.wrap (x4 + r10.2) then (κ ((0), (15))) else
 .fail) else
 bif r5.1.e != 0 then (κ ((0), (r5.1.e))) else
 bif r5.1.ok then (κ ((r5.1.grain), (0))) else
 .op (.load (atF g 1 0)) fun x10 =>
 bif x10 == u64.wrap (x4 + r5.2) then (κ ((0), (15))) else
 .fail) else
 bif r5.1.e != 0 then (κ ((0), (r5.1.e))) else
 bif r5.1.ok then (κ ((r5.1.grain), (0))) else
 .op (.load (atF g 1 0)) fun x9 =>
 bif x9 == u64.wrap (x4 + r5.2) then (κ ((0), (15))) else
 .fail
def Wv (g : Geo) (k a : Int) : T (Int × Int) := xc0 g k a .ret
theorem xlR {β : Type} (g : Geo) (k a : Int) (κ : (Int × Int) -> T β) : (Wv g k a).bind κ = xc0 g k a κ := by
 unfold Wv xc0
 first | rfl | simp only [bz]
def VV {β : Type} (g : Geo) (κ : (Int × Bool) -> T β) : T β :=
 (jC g).bind fun r0 =>
 bif r0 then (κ ((0), (false))) else
 (ZI g 0).bind fun r2 =>
 κ ((r2.2), (r2.1))
def VW (g : Geo) : T (Int × Bool) := VV g .ret
theorem xiX {β : Type} (g : Geo) (κ : (Int × Bool) -> T β) : (VW g).bind κ = VV g κ := by
 unfold VW VV
 first | rfl | simp only [bz]
def xhm : Sm := gS fun
 | g, [.c (.int .i64 c)] => some (mkS ((Int × Int)) (qG g c) fun r => some (.tup [.c (.int .i64 r.1), .c (.int .i64 r.2)], []))
 | _, _ => none
variable {σ : Type} {I : Port Tryz.prog σ}
theorem xlS (hl : SoundL I kI3) : SoundF I 76 xhm := by
 refine gsq hl 1 Tryz.func76 fun g l t ht => ?_
 split at ht
 ·rename_i c
  cases ht
  refine Eq.trans ?_ (xiW g c _).symm
  kernel_rfl
 ·cases ht
def xlT : Sm := gS fun
 | g, [.c (.int .i64 k), .c (.int .i64 a)] => some (mkS ((Int × Int)) (Wv g k a) fun r => some (.tup [.c (.int .i64 r.1), .c (.int .i64 r.2)], []))
 | _, _ => none
theorem xo7 (hl : SoundL I kI3) : SoundF I 79 xlT := by
 refine gsq hl 1 Tryz.func79 fun g l t ht => ?_
 split at ht
 ·rename_i k a
  cases ht
  refine Eq.trans ?_ (xlR g k a _).symm
  kernel_rfl
 ·cases ht
def xhn : Sm := gS fun
 | g, [] => some (mkS ((Int × Bool)) (VW g) fun r => some (.tup [.c (.int .u64 r.1), .c (.bool r.2)], []))
 | _, _ => none
theorem xlU (hl : SoundL I kI3) : SoundF I 92 xhn := by
 refine gsq hl 1 Tryz.func92 fun g l t ht => ?_
 split at ht
 ·cases ht
  refine Eq.trans ?_ (xiX g _).symm
  kernel_rfl
 ·cases ht
noncomputable def ka13 : List (Nat × Sm) := (76, xhm) :: (79, xlT) :: (92, xhn) :: kI3
theorem qH : SoundL I ka13 := (.cons (xlS xsx) (.cons (xo7 xsx) (.cons (xlU xsx) xsx)))
end Lx
namespace Lx
open Go
set_option maxRecDepth 1000000
def xc1 {β : Type} (g : Geo) (s a : Int) (κ : (Int × Int × Int) -> T β) : T β :=
 bif g.pages == 0 then (κ ((0), (0), (15))) else
 bif decide (s < 1) then (κ ((0), (0), (11))) else
 bif decide (s > i64.wrap (g.pages * 64)) then (κ ((0), (0), (11))) else
 (Yq a).bind fun r3 =>
 bif !r3 then (κ ((0), (0), (12))) else
 (cofT s a).bind fun r5 =>
 bif decide (r5 >= 0) then ((qG g r5).bind fun r7 =>
 bif decide (0 <= r5 /\ r5 < 4) then (bif r7.2 != 0 then (κ ((0), (0), (r7.2))) else
 κ ((r7.1), (bif r5 == 0 then (8 : Int) else bif r5 == 1 then (16 : Int) else bif r5 == 2 then (24 : Int) else (32 : Int)), (0))) else
 .fail) else
 (qi s).bind fun r7 =>
 (Wv g r7 (if i64.wrap (Int.tdiv a 64) < 1 then (1 : Int) else i64.wrap (Int.tdiv a 64))).bind fun r8 =>
 bif r8.2 != 0 then (κ ((0), (0), (r8.2))) else
 κ ((r8.1), (i64.wrap (r7 * 64)), (0))
def jx (g : Geo) (s a : Int) : T (Int × Int × Int) := xc1 g s a .ret
theorem xlV {β : Type} (g : Geo) (s a : Int) (κ : (Int × Int × Int) -> T β) : (jx g s a).bind κ = xc1 g s a κ := by
 unfold jx xc1
 first | rfl | simp only [bz]
def xiY {β : Type} (g : Geo) (κ : Int -> T β) : T β :=
 (VW g).bind fun r0 =>
 bif !r0.2 then (κ (5)) else
 κ (0)
def xho (g : Geo) : T Int := xiY g .ret
theorem xo8 {β : Type} (g : Geo) (κ : Int -> T β) : (xho g).bind κ = xiY g κ := by
 unfold xho xiY
 first | rfl | simp only [bz]
def xc2 {β : Type} (g : Geo) (x : Rn) (κ : (Unit × Rn) -> T β) : T β :=
 bif x.has then ((vE g x.to).bind fun r1 =>
 κ ((), ⟨(x.grain), (x.size), (x.to), (x.usable), (false)⟩)) else
 κ ((), ⟨(x.grain), (x.size), (x.to), (x.usable), (false)⟩)
def Ww (g : Geo) (x : Rn) : T (Unit × Rn) := xc2 g x .ret
theorem xlW {β : Type} (g : Geo) (x : Rn) (κ : (Unit × Rn) -> T β) : (Ww g x).bind κ = xc2 g x κ := by
 unfold Ww xc2
 first | rfl | simp only [bz]
def xc3 {β : Type} (g : Geo) (a : Int) (κ : Res -> T β) : T β :=
 bif g.pages == 0 then (κ ⟨(0), (0), (0), (0), (0), (0), (0), (0), (15), (0), (0)⟩) else
 bif decide (a < 0) then (.op (.steps ) fun x2 =>
 (yZ 13 x2).bind fun r3 =>
 κ r3) else
 bif decide (a >= i64.wrap (g.pages * 64)) then (.op (.steps ) fun x3 =>
 (yZ 13 x3).bind fun r4 =>
 κ r4) else
 bif Int.tmod a 8 != 0 then (.op (.steps ) fun x4 =>
 (yZ 13 x4).bind fun r5 =>
 κ r5) else
 (xbC g (i64.wrap (Int.tdiv a 8))).bind fun r4 =>
 bif !r4.live then ((yZ 13 r4.lin).bind fun r6 =>
 κ r6) else
 .op (.tell [.int .i64 (0), .int .i64 (r4.size), .int .u8 (0), .int .u64 (0), .int .u64 (0), .int .u64 (0), .int .u64 (0), .int .u64 (0), .int .i64 (0), .int .i64 (r4.lin), .int .i64 (0)]) fun _ =>
 (vE g (i64.wrap (Int.tdiv a 8))).bind fun r7 =>
 κ ⟨(0), (r4.size), (0), (0), (0), (0), (0), (0), (0), (r4.lin), (0)⟩
def xaQ (g : Geo) (a : Int) : T Res := xc3 g a .ret
theorem xlX {β : Type} (g : Geo) (a : Int) (κ : Res -> T β) : (xaQ g a).bind κ = xc3 g a κ := by
 unfold xaQ xc3
 first | rfl | simp only [bz]
def xc4 {β : Type} (g : Geo) (a : Int) (κ : (Int × Seen × Res × Bool) -> T β) : T β :=
 bif decide (a < 0) then (.op (.steps ) fun x1 =>
 (yi (Res.mk 0 0 0 0 0 0 0 0 13 x1 0)).bind fun r2 =>
 κ ((0), ⟨(0), (0), (0), (0), (false), (0)⟩, r2, (false))) else
 bif decide (a >= i64.wrap (g.pages * 64)) then (.op (.steps ) fun x2 =>
 (yi (Res.mk 0 0 0 0 0 0 0 0 13 x2 0)).bind fun r3 =>
 κ ((0), ⟨(0), (0), (0), (0), (false), (0)⟩, r3, (false))) else
 bif Int.tmod a 8 != 0 then (.op (.steps ) fun x3 =>
 (yi (Res.mk 0 0 0 0 0 0 0 0 13 x3 0)).bind fun r4 =>
 κ ((0), ⟨(0), (0), (0), (0), (false), (0)⟩, r4, (false))) else
 (KQ g (i64.wrap (Int.tdiv a 8))).bind fun r3 =>
 bif !r3.live then ((yi (Res.mk 0 0 0 0 0 0 0 0 13 r3.lin 0)).bind fun r5 =>
 κ ((0), ⟨(r3.kind), (r3.size), (r3.other), (r3.ver), (r3.live), (r3.lin)⟩, r5, (false))) else
 κ ((i64.wrap (Int.tdiv a 8)), ⟨(r3.kind), (r3.size), (r3.other), (r3.ver), (r3.live), (r3.lin)⟩, ⟨(0), (0), (0), (0), (0), (0), (0), (0), (0), (0), (0)⟩, (true))
def ZJ (g : Geo) (a : Int) : T (Int × Seen × Res × Bool) := xc4 g a .ret
theorem xlY {β : Type} (g : Geo) (a : Int) (κ : (Int × Seen × Res × Bool) -> T β) : (ZJ g a).bind κ = xc4 g a κ := by
 unfold ZJ xc4
 first | rfl | simp only [bz]
def xel : Sm := gS fun
 | g, [.c (.int .i64 s), .c (.int .i64 a)] => some (mkS ((Int × Int × Int)) (jx g s a) fun r => some (.tup [.c (.int .i64 r.1), .c (.int .i64 r.2.1), .c (.int .i64 r.2.2)], []))
 | _, _ => none
variable {σ : Type} {I : Port Tryz.prog σ}
theorem xem (hl : SoundL I ka13) : SoundF I 21 xel := by
 refine gsq hl 1 Tryz.func21 fun g l t ht => ?_
 split at ht
 ·rename_i s a
  cases ht
  refine Eq.trans ?_ (xlV g s a _).symm
  kernel_rfl
 ·cases ht
def xiZ : Sm := gS fun
 | g, [] => some (mkS (Int) (xho g) fun r => some (.c (.int .i64 r), []))
 | _, _ => none
theorem xhp (hl : SoundL I ka13) : SoundF I 28 xiZ := by
 refine gsq hl 1 Tryz.func28 fun g l t ht => ?_
 split at ht
 ·cases ht
  refine Eq.trans ?_ (xo8 g _).symm
  kernel_rfl
 ·cases ht
def xen : Sm := fun
 | [.c (.ptr 0 0)], [some ⟨.port :: gc, 179, false, none⟩] => (match rnOf gc with
   | some (g, x) => some (mkS ((Unit × Rn)) (Ww g x) fun r => some (.tup [], [some ⟨.port :: (g.cells ++ r.2.cells), 179, false, none⟩]))
   | _ => none)
 | _, _ => none
theorem xo9 (hl : SoundL I ka13) : SoundF I 116 xen := by
 refine sq hl 1 Tryz.func116 fun args H t ht => ?_
 unfold xen at ht
 split at ht
 ·rename_i gc
  split at ht
  ·rename_i g x hg
   obtain rfl := YZ hg
   cases ht
   refine Eq.trans ?_ (xlW g x _).symm
   kernel_rfl
  ·cases ht
 ·cases ht
def xeo : Sm := gS fun
 | g, [.c (.int .i64 a)] => some (mkS (Res) (xaQ g a) fun r => some (.agg r.cells, []))
 | _, _ => none
theorem xep (hl : SoundL I ka13) : SoundF I 25 xeo := by
 refine gsq hl 1 Tryz.func25 fun g l t ht => ?_
 split at ht
 ·rename_i a
  cases ht
  refine Eq.trans ?_ (xlX g a _).symm
  kernel_rfl
 ·cases ht
def xlZ : Sm := gS fun
 | g, [.c (.int .i64 a)] => some (mkS ((Int × Seen × Res × Bool)) (ZJ g a) fun r => some (.tup [.c (.int .i64 r.1), .agg r.2.1.cells, .agg r.2.2.1.cells, .c (.bool r.2.2.2)], []))
 | _, _ => none
theorem xpa (hl : SoundL I ka13) : SoundF I 207 xlZ := by
 refine gsq hl 1 Tryz.func207 fun g l t ht => ?_
 split at ht
 ·rename_i a
  cases ht
  refine Eq.trans ?_ (xlY g a _).symm
  kernel_rfl
 ·cases ht
noncomputable def ka14 : List (Nat × Sm) := (21, xel) :: (28, xiZ) :: (116, xen) :: (25, xeo) :: (207, xlZ) :: ka13
theorem ZK : SoundL I ka14 := (.cons (xem qH) (.cons (xhp qH) (.cons (xo9 qH) (.cons (xep qH) (.cons (xpa qH) qH)))))
end Lx
namespace Lx
open Go
set_option maxRecDepth 1000000
def XR {β : Type} (g : Geo) (a s : Int) (κ : Res -> T β) : T β :=
 bif g.pages == 0 then (κ ⟨(0), (0), (0), (0), (0), (0), (0), (0), (15), (0), (0)⟩) else
 (jx g s a).bind fun r1 =>
 bif r1.snd.2 != 0 then (.op (.steps ) fun x3 =>
 (yZ r1.snd.2 x3).bind fun r4 =>
 κ r4) else
 (xac g r1.1 r1.snd.1 s).bind fun r3 =>
 κ r3
def kF (g : Geo) (a s : Int) : T Res := XR g a s .ret
theorem xgp {β : Type} (g : Geo) (a s : Int) (κ : Res -> T β) : (kF g a s).bind κ = XR g a s κ := by
 unfold kF XR
 first | rfl | simp only [bz]
def qI {β : Type} (a0 a1 a2 a3 a4 : Int) (g6 : Geo) (a7 a8 a9 a10 a11 a12 a13 a14 a15 a16 a17 : Int) (κ0 : Unit -> T β) (i : Int) (k : Int -> T β) : T β :=
 bif decide (i < a4) then (.op (.put (i64.wrap (i64.wrap (a2 * 8) + i)) (0)) fun _ =>
 k (i64.wrap (i + 1))) else
 κ0 ()
def yG {β : Type} (a0 a1 a2 a3 a4 : Int) (g6 : Geo) (a7 a8 a9 a10 a11 a12 a13 a14 a15 a16 a17 a5 : Int) (κ0 : Unit -> T β) : T β := xr xa (qI a0 a1 a2 a3 a4 g6 a7 a8 a9 a10 a11 a12 a13 a14 a15 a16 a17 κ0) a5
theorem xcE {β γ : Type} (a0 a1 a2 a3 a4 : Int) (g6 : Geo) (a7 a8 a9 a10 a11 a12 a13 a14 a15 a16 a17 a5 : Int) (κ0 : Unit -> T β) (κ : β -> T γ) : (yG a0 a1 a2 a3 a4 g6 a7 a8 a9 a10 a11 a12 a13 a14 a15 a16 a17 a5 κ0).bind κ = yG a0 a1 a2 a3 a4 g6 a7 a8 a9 a10 a11 a12 a13 a14 a15 a16 a17 a5 (fun u => (κ0 u).bind κ) := by
 unfold yG
 refine xj κ (fun i k => ?_) _ _
 unfold qI
 first | rfl | simp only [bz]
def xb3 : Pat := ⟨xm 80 0 [(0, .c (.raw (.port))), (2, .c (.int .i64)), (3, .c (.int .i64)), (5, .c (.raw (.ptr 0 0))), (8, .c (.raw (.ptr 1 0))), (10, .c (.int .i64)), (11, .c (.int .i64)), (61, .c (.int .i64)), (62, .c (.int .i64))], [some ⟨[.geo], 24, false, none⟩, some ⟨[.int .i64, .int .i64, .int .u8, .int .u64, .int .u64, .int .u64, .int .u64, .int .u64, .int .i64, .int .i64, .int .i64], 38, false, none⟩]⟩
def VX : Pat := ⟨xm 80 0 [(0, .c (.raw (.port))), (2, .c (.int .i64)), (3, .c (.int .i64)), (5, .c (.raw (.ptr 0 0))), (8, .c (.raw (.ptr 1 0))), (10, .c (.int .i64)), (11, .c (.int .i64))], [some ⟨[.geo], 24, false, none⟩, some ⟨[.int .i64, .int .i64, .int .u8, .int .u64, .int .u64, .int .u64, .int .u64, .int .u64, .int .i64, .int .i64, .int .i64], 38, false, none⟩]⟩
def qJ : LF := fun st K => match xt xb3 st with
 | some [.i a0, .i a1, .i a2, .i a3, .i a4, .i a5, .g g6, .i a7, .i a8, .i a9, .i a10, .i a11, .i a12, .i a13, .i a14, .i a15, .i a16, .i a17] => some (yG a0 a1 a2 a3 a4 g6 a7 a8 a9 a10 a11 a12 a13 a14 a15 a16 a17 a5 (fun _ => K (.exit 0) (xc VX [.i a0, .i a1, .i a2, .i a3, .g g6, .i a7, .i a8, .i a9, .i a10, .i a11, .i a12, .i a13, .i a14, .i a15, .i a16, .i a17])))
 | _ => none
theorem xl0 : ∀ st K t, qJ st K = some t -> xz xa (lf ka14 xa 0 .no [1, 1, 1, 1, 1, 1, 0, 1, 0] Tryz.f30 K) st = t := by
 intro st K t h
 unfold qJ at h
 split at h
 ·rename_i a0 a1 a2 a3 a4 a5 g6 a7 a8 a9 a10 a11 a12 a13 a14 a15 a16 a17 hm
  cases h
  rw [xk hm]
  exact cast (by kernel_rfl) (xv (F := lf ka14 xa 0 .no [1, 1, 1, 1, 1, 1, 0, 1, 0] Tryz.f30 K) (S := fun i => xc xb3 [.i a0, .i a1, .i a2, .i a3, .i a4, .i i, .g g6, .i a7, .i a8, .i a9, .i a10, .i a11, .i a12, .i a13, .i a14, .i a15, .i a16, .i a17]) (B := qI a0 a1 a2 a3 a4 g6 a7 a8 a9 a10 a11 a12 a13 a14 a15 a16 a17 (fun _ => K (.exit 0) (xc VX [.i a0, .i a1, .i a2, .i a3, .g g6, .i a7, .i a8, .i a9, .i a10, .i a11, .i a12, .i a13, .i a14, .i a15, .i a16, .i a17]))) (fun i k => by kernel_rfl) xa a5)
 ·cases h
def VY {β : Type} (g : Geo) (n s : Int) (κ : Res -> T β) : T β :=
 bif g.pages == 0 then (κ ⟨(0), (0), (0), (0), (0), (0), (0), (0), (15), (0), (0)⟩) else
 bif decide (n < 0) then (.op (.steps ) fun x2 =>
 (yZ 11 x2).bind fun r3 =>
 κ r3) else
 bif decide (s < 0) then (.op (.steps ) fun x3 =>
 (yZ 11 x3).bind fun r4 =>
 κ r4) else
 bif decide (s > 0) then (bif bif s == 0 then false else true then (bif decide (n > i64.wrap (Int.tdiv (i64.wrap (g.pages * 64)) s)) then (.op (.steps ) fun x6 =>
 (yZ 11 x6).bind fun r7 =>
 κ r7) else
 (jx g (i64.wrap (n * s)) 1).bind fun r6 =>
 bif r6.snd.2 != 0 then (.op (.steps ) fun x8 =>
 (yZ r6.snd.2 x8).bind fun r9 =>
 κ r9) else
 yG (n) (s) (r6.1) (r6.snd.1) (i64.wrap (n * s)) (g) (0) (0) (0) (0) (0) (0) (0) (0) (0) (0) (0) (0) (fun y8_0 =>
 (xac g r6.1 r6.snd.1 (i64.wrap (n * s))).bind fun r9 =>
 κ r9)) else
 .fail) else
 (jx g (i64.wrap (n * s)) 1).bind fun r4 =>
 bif r4.snd.2 != 0 then (.op (.steps ) fun x6 =>
 (yZ r4.snd.2 x6).bind fun r7 =>
 κ r7) else
 yG (n) (s) (r4.1) (r4.snd.1) (i64.wrap (n * s)) (g) (0) (0) (0) (0) (0) (0) (0) (0) (0) (0) (0) (0) (fun y6_0 =>
 (xac g r4.1 r4.snd.1 (i64.wrap (n * s))).bind fun r7 =>
 κ r7)
def XS (g : Geo) (n s : Int) : T Res := VY g n s .ret
theorem xi0 {β : Type} (g : Geo) (n s : Int) (κ : Res -> T β) : (XS g n s).bind κ = VY g n s κ := by
 unfold XS VY
 first | rfl | simp only [bz, xcE]
def xc5 {β : Type} (g : Geo) (x : Rn) (se : Seen) (rm : Int) (κ : ((Res × Bool) × Rn) -> T β) : T β :=
 (Ys g x.grain (Stt.mk se.kind se.size se.other se.ver) x.size).bind fun r0 =>
 bif !r0 then (κ ((⟨(0), (0), (0), (0), (0), (0), (0), (0), (0), (0), (0)⟩, (false)), x)) else
 .op (.steps ) fun x2 =>
 (wx g x (Res.mk (i64.wrap (x.grain * 8)) rm 0 0 0 0 0 0 0 x2 0)).bind fun r3 =>
 (Ww g r3.2).bind fun r4 =>
 κ ((r3.1, (true)), r4.2)
def xaR (g : Geo) (x : Rn) (se : Seen) (rm : Int) : T ((Res × Bool) × Rn) := xc5 g x se rm .ret
theorem xl1 {β : Type} (g : Geo) (x : Rn) (se : Seen) (rm : Int) (κ : ((Res × Bool) × Rn) -> T β) : (xaR g x se rm).bind κ = xc5 g x se rm κ := by
 unfold xaR xc5
 first | rfl | simp only [bz]
def xi1 {β : Type} (g : Geo) (x : Rn) (se : Seen) (κ : ((Res × Bool) × Rn) -> T β) : T β :=
 bif !x.has then ((jx g x.size 1).bind fun r1 =>
 bif r1.snd.2 != 0 then ((wx g x (Res.mk 0 0 0 0 0 0 0 0 r1.snd.2 se.lin 0)).bind fun r3 =>
 κ ((r3.1, (true)), r3.2)) else
 (jq g (Rn.mk x.grain x.size r1.1 r1.snd.1 true) (if x.size < se.size then x.size else se.size)).bind fun r3 =>
 (kO g r3.2.to r3.2.grain r3.2.size).bind fun r4 =>
 (xfh g r3.2.grain (Stt.mk se.kind se.size se.other se.ver) r3.2.to r4).bind fun r5 =>
 bif !r5 then ((xfi g r3.2.to).bind fun r7 =>
 κ ((⟨(0), (0), (0), (0), (0), (0), (0), (0), (0), (0), (0)⟩, (false)), r3.2)) else
 .op (.steps ) fun x7 =>
 (wx g r3.2 (Res.mk (i64.wrap (r3.2.to * 8)) r3.2.usable 0 0 0 0 0 0 0 x7 0)).bind fun r8 =>
 (Zg g r8.2.to r8.2.grain r8.2.size r4).bind fun r9 =>
 (vE g r8.2.grain).bind fun r10 =>
 κ ((r8.1, (true)), r8.2)) else
 (jq g x (if x.size < se.size then x.size else se.size)).bind fun r1 =>
 (kO g r1.2.to r1.2.grain r1.2.size).bind fun r2 =>
 (xfh g r1.2.grain (Stt.mk se.kind se.size se.other se.ver) r1.2.to r2).bind fun r3 =>
 bif !r3 then ((xfi g r1.2.to).bind fun r5 =>
 κ ((⟨(0), (0), (0), (0), (0), (0), (0), (0), (0), (0), (0)⟩, (false)), r1.2)) else
 .op (.steps ) fun x5 =>
 (wx g r1.2 (Res.mk (i64.wrap (r1.2.to * 8)) r1.2.usable 0 0 0 0 0 0 0 x5 0)).bind fun r6 =>
 (Zg g r6.2.to r6.2.grain r6.2.size r2).bind fun r7 =>
 (vE g r6.2.grain).bind fun r8 =>
 κ ((r6.1, (true)), r6.2)
def xhq (g : Geo) (x : Rn) (se : Seen) : T ((Res × Bool) × Rn) := xi1 g x se .ret
theorem xpb {β : Type} (g : Geo) (x : Rn) (se : Seen) (κ : ((Res × Bool) × Rn) -> T β) : (xhq g x se).bind κ = xi1 g x se κ := by
 unfold xhq xi1
 first | rfl | simp only [bz]
def VZ {β : Type} (g : Geo) (c : Cal) (κ : Res -> T β) : T β :=
 (xaQ g c.at_).bind fun r0 =>
 bif r0.e == 0 then ((YW g r0.n).bind fun r2 =>
 κ r0) else
 κ r0
def XT (g : Geo) (c : Cal) : T Res := VZ g c .ret
theorem xi2 {β : Type} (g : Geo) (c : Cal) (κ : Res -> T β) : (XT g c).bind κ = VZ g c κ := by
 unfold XT VZ
 first | rfl | simp only [bz]
def Wx : Sm := gS fun
 | g, [.c (.int .i64 a), .c (.int .i64 s)] => some (mkS (Res) (kF g a s) fun r => some (.agg r.cells, []))
 | _, _ => none
variable {σ : Type} {I : Port Tryz.prog σ}
theorem Ka (hl : SoundL I ka14) : SoundF I 22 Wx := by
 refine gsq hl 1 Tryz.func22 fun g l t ht => ?_
 split at ht
 ·rename_i a s
  cases ht
  refine Eq.trans ?_ (xgp g a s _).symm
  kernel_rfl
 ·cases ht
def XU : Sm := fun
 | [.c .port, .agg gc, .c (.int .i64 n), .c (.int .i64 s)], [] => (match xu gc with
   | some g => some (mkS (Res) (XS g n s) fun r => some (.agg r.cells, []))
   | _ => none)
 | _, _ => none
theorem xi3 : Good Tryz.prog (xo ka14) xa 0 (lsAt qJ .no [1, 1, 1, 1, 1, 1, 0, 1, 0]) (Tryz.f30.body.getD .skip) (xq Tryz.f30.results.toList) := xB (xi (by kernel_rfl)) xA xl0
theorem xb4 (hl : SoundL I ka14) : SoundF I 30 XU := by
 refine sq hl xa Tryz.func30 fun args H t ht => ?_
 unfold XU at ht
 split at ht
 ·rename_i gc n s
  split at ht
  ·rename_i g hg
   obtain rfl := xe hg
   cases ht
   refine (xE (P := Tryz.prog) (n := xa) (x := (lsAt qJ .no [1, 1, 1, 1, 1, 1, 0, 1, 0])) (fn := Tryz.f30) (H := []) (c := Tryz.f30.body.getD .skip) (xi (by kernel_rfl)) xi3).symm.trans ?_
   refine Eq.trans ?_ (xi0 g n s _).symm
   kernel_rfl
  ·cases ht
 ·cases ht
def xeq : Sm := fun
 | [.c (.ptr 0 0), .agg sec, .c (.int .i64 rm)], [some ⟨.port :: gc, 179, false, none⟩] => (match rnOf gc with
   | some (g, x) => (match Seen.of sec with
   | some se => some (mkS (((Res × Bool) × Rn)) (xaR g x se rm) fun r => some (.tup [.agg r.1.1.cells, .c (.bool r.1.2)], [some ⟨.port :: (g.cells ++ r.2.cells), 179, false, none⟩]))
   | _ => none)
   | _ => none)
 | _, _ => none
theorem xpc (hl : SoundL I ka14) : SoundF I 118 xeq := by
 refine sq hl 1 Tryz.func118 fun args H t ht => ?_
 unfold xeq at ht
 split at ht
 ·rename_i sec rm gc
  split at ht
  ·rename_i g x hg
   obtain rfl := YZ hg
   split at ht
   ·rename_i se hse
    obtain rfl := Seen.of_eq hse
    cases ht
    refine Eq.trans ?_ (xl1 g x se rm _).symm
    kernel_rfl
   ·cases ht
  ·cases ht
 ·cases ht
def xi4 : Sm := fun
 | [.c (.ptr 0 0), .agg sec], [some ⟨.port :: gc, 179, false, none⟩] => (match rnOf gc with
   | some (g, x) => (match Seen.of sec with
   | some se => some (mkS (((Res × Bool) × Rn)) (xhq g x se) fun r => some (.tup [.agg r.1.1.cells, .c (.bool r.1.2)], [some ⟨.port :: (g.cells ++ r.2.cells), 179, false, none⟩]))
   | _ => none)
   | _ => none)
 | _, _ => none
theorem xsW (hl : SoundL I ka14) : SoundF I 119 xi4 := by
 refine sq hl 1 Tryz.func119 fun args H t ht => ?_
 unfold xi4 at ht
 split at ht
 ·rename_i sec gc
  split at ht
  ·rename_i g x hg
   obtain rfl := YZ hg
   split at ht
   ·rename_i se hse
    obtain rfl := Seen.of_eq hse
    cases ht
    refine Eq.trans ?_ (xpb g x se _).symm
    kernel_rfl
   ·cases ht
  ·cases ht
 ·cases ht
def xhr : Sm := gS fun
 | g, [.agg cc] => (match Cal.of cc with
   | some c => some (mkS (Res) (XT g c) fun r => some (.agg r.cells, []))
   | _ => none)
 | _, _ => none
theorem xl2 (hl : SoundL I ka14) : SoundF I 130 xhr := by
 refine gsq hl 1 Tryz.func130 fun g l t ht => ?_
 split at ht
 ·rename_i cc
  split at ht
  ·rename_i c hc
   obtain rfl := Cal.of_eq hc
   cases ht
   refine Eq.trans ?_ (xi2 g c _).symm
   kernel_rfl
  ·cases ht
 ·cases ht
noncomputable def ka15 : List (Nat × Sm) := (22, Wx) :: (30, XU) :: (118, xeq) :: (119, xi4) :: (130, xhr) :: ka14
theorem xi5 : SoundL I ka15 := (.cons (Ka ZK) (.cons (xb4 ZK) (.cons (xpc ZK) (.cons (xsW ZK) (.cons (xl2 ZK) ZK)))))
end Lx
namespace Lx
open Go
set_option maxRecDepth 1000000
def Kb {β : Type} (g : Geo) (s : Int) (κ : Res -> T β) : T β :=
 (kF g 1 s).bind fun r0 =>
 κ r0
def XV (g : Geo) (s : Int) : T Res := Kb g s .ret
theorem xi6 {β : Type} (g : Geo) (s : Int) (κ : Res -> T β) : (XV g s).bind κ = Kb g s κ := by
 unfold XV Kb
 first | rfl | simp only [bz]
def ja {β : Type} (a0 : Int) (g2 g14 : Geo) (κ0 : Int -> Int -> Int -> Int -> Int -> Int -> Int -> Int -> Int -> Int -> Int -> T β) (κ1 : Int -> Int -> Int -> Int -> Int -> Int -> Int -> Int -> Int -> Int -> Int -> Int -> T β) (i : Int × Int × Int × Int × Int × Int × Int × Int × Int × Int × Int × Int × Int × Int × Int × Int × Bool) (k : Int × Int × Int × Int × Int × Int × Int × Int × Int × Int × Int × Int × Int × Int × Int × Int × Bool -> T β) : T β :=
 (KQ g2 i.2.2.2.2.2.2.2.2.2.2.2.2.1).bind fun r0 =>
 bif !r0.live then ((Ww g14 { grain := i.2.2.2.2.2.2.2.2.2.2.2.2.1, size := i.2.2.2.2.2.2.2.2.2.2.2.2.2.1, to := i.2.2.2.2.2.2.2.2.2.2.2.2.2.2.1, usable := i.2.2.2.2.2.2.2.2.2.2.2.2.2.2.2.1, has := i.2.2.2.2.2.2.2.2.2.2.2.2.2.2.2.2 }).bind fun r2 =>
 (wx g14 { grain := r2.2.grain, size := r2.2.size, to := r2.2.to, usable := r2.2.usable, has := r2.2.has }   { at_ := 0, n := 0, byte := 0, c1 := 0, c2 := 0, c3 := 0,     c4 := 0, c5 := 0, e := 13, lin := r0.lin, touch := 0 }).bind fun r3 =>
 κ0 (r3.1.at_) (r3.1.n) (r3.1.byte) (r3.1.c1) (r3.1.c2) (r3.1.c3) (r3.1.c4) (r3.1.c5) (r3.1.e) (r3.1.lin) (r3.1.touch)) else
 (Vj g14 { grain := i.2.2.2.2.2.2.2.2.2.2.2.2.1, size := i.2.2.2.2.2.2.2.2.2.2.2.2.2.1, to := i.2.2.2.2.2.2.2.2.2.2.2.2.2.2.1, usable := i.2.2.2.2.2.2.2.2.2.2.2.2.2.2.2.1, has := i.2.2.2.2.2.2.2.2.2.2.2.2.2.2.2.2 }).bind fun r2 =>
 bif decide (a0 <= r2.1) then ((xaR g14 { grain := r2.2.grain, size := r2.2.size, to := r2.2.to, usable := r2.2.usable, has := r2.2.has }   { kind := r0.kind, size := r0.size, other := r0.other, ver := r0.ver, live := r0.live, lin := r0.lin } r2.1).bind fun r4 =>
 bif r4.fst.2 then (bif r4.fst.1.e == 0 then (bif r4.fst.2 then (κ1 (r0.size) (r4.fst.1.at_) (r4.fst.1.n) (r4.fst.1.byte) (r4.fst.1.c1) (r4.fst.1.c2) (r4.fst.1.c3) (r4.fst.1.c4) (r4.fst.1.c5) (r4.fst.1.e) (r4.fst.1.lin) (r4.fst.1.touch)) else
 k (r0.size, r4.fst.1.at_, r4.fst.1.n, r4.fst.1.byte, r4.fst.1.c1, r4.fst.1.c2, r4.fst.1.c3, r4.fst.1.c4, r4.fst.1.c5, r4.fst.1.e, r4.fst.1.lin, r4.fst.1.touch, r4.2.grain, r4.2.size, r4.2.to, r4.2.usable, r4.2.has)) else
 bif r4.fst.2 then (κ1 (i.1) (r4.fst.1.at_) (r4.fst.1.n) (r4.fst.1.byte) (r4.fst.1.c1) (r4.fst.1.c2) (r4.fst.1.c3) (r4.fst.1.c4) (r4.fst.1.c5) (r4.fst.1.e) (r4.fst.1.lin) (r4.fst.1.touch)) else
 k (i.1, r4.fst.1.at_, r4.fst.1.n, r4.fst.1.byte, r4.fst.1.c1, r4.fst.1.c2, r4.fst.1.c3, r4.fst.1.c4, r4.fst.1.c5, r4.fst.1.e, r4.fst.1.lin, r4.fst.1.touch, r4.2.grain, r4.2.size, r4.2.to, r4.2.usable, r4.2.has)) else
 bif r4.fst.2 then (κ1 (i.1) (r4.fst.1.at_) (r4.fst.1.n) (r4.fst.1.byte) (r4.fst.1.c1) (r4.fst.1.c2) (r4.fst.1.c3) (r4.fst.1.c4) (r4.fst.1.c5) (r4.fst.1.e) (r4.fst.1.lin) (r4.fst.1.touch)) else
 k (i.1, r4.fst.1.at_, r4.fst.1.n, r4.fst.1.byte, r4.fst.1.c1, r4.fst.1.c2, r4.fst.1.c3, r4.fst.1.c4, r4.fst.1.c5, r4.fst.1.e, r4.fst.1.lin, r4.fst.1.touch, r4.2.grain, r4.2.size, r4.2.to, r4.2.usable, r4.2.has)) else
 (xhq g14 { grain := r2.2.grain, size := r2.2.size, to := r2.2.to, usable := r2.2.usable, has := r2.2.has }   { kind := r0.kind, size := r0.size, other := r0.other, ver := r0.ver, live := r0.live, lin := r0.lin }).bind fun r4 =>
 bif r4.fst.2 then (bif r4.fst.1.e == 0 then (bif r4.fst.2 then (κ1 (r0.size) (r4.fst.1.at_) (r4.fst.1.n) (r4.fst.1.byte) (r4.fst.1.c1) (r4.fst.1.c2) (r4.fst.1.c3) (r4.fst.1.c4) (r4.fst.1.c5) (r4.fst.1.e) (r4.fst.1.lin) (r4.fst.1.touch)) else
 k (r0.size, r4.fst.1.at_, r4.fst.1.n, r4.fst.1.byte, r4.fst.1.c1, r4.fst.1.c2, r4.fst.1.c3, r4.fst.1.c4, r4.fst.1.c5, r4.fst.1.e, r4.fst.1.lin, r4.fst.1.touch, r4.2.grain, r4.2.size, r4.2.to, r4.2.usable, r4.2.has)) else
 bif r4.fst.2 then (κ1 (i.1) (r4.fst.1.at_) (r4.fst.1.n) (r4.fst.1.byte) (r4.fst.1.c1) (r4.fst.1.c2) (r4.fst.1.c3) (r4.fst.1.c4) (r4.fst.1.c5) (r4.fst.1.e) (r4.fst.1.lin) (r4.fst.1.touch)) else
 k (i.1, r4.fst.1.at_, r4.fst.1.n, r4.fst.1.byte, r4.fst.1.c1, r4.fst.1.c2, r4.fst.1.c3, r4.fst.1.c4, r4.fst.1.c5, r4.fst.1.e, r4.fst.1.lin, r4.fst.1.touch, r4.2.grain, r4.2.size, r4.2.to, r4.2.usable, r4.2.has)) else
 bif r4.fst.2 then (κ1 (i.1) (r4.fst.1.at_) (r4.fst.1.n) (r4.fst.1.byte) (r4.fst.1.c1) (r4.fst.1.c2) (r4.fst.1.c3) (r4.fst.1.c4) (r4.fst.1.c5) (r4.fst.1.e) (r4.fst.1.lin) (r4.fst.1.touch)) else
 k (i.1, r4.fst.1.at_, r4.fst.1.n, r4.fst.1.byte, r4.fst.1.c1, r4.fst.1.c2, r4.fst.1.c3, r4.fst.1.c4, r4.fst.1.c5, r4.fst.1.e, r4.fst.1.lin, r4.fst.1.touch, r4.2.grain, r4.2.size, r4.2.to, r4.2.usable, r4.2.has)
def vp {β : Type} (a0 : Int) (g2 g14 : Geo) (a1 a3 a4 a5 a6 a7 a8 a9 a10 a11 a12 a13 a15 a16 a17 a18 : Int) (b19 : Bool) (κ0 : Int -> Int -> Int -> Int -> Int -> Int -> Int -> Int -> Int -> Int -> Int -> T β) (κ1 : Int -> Int -> Int -> Int -> Int -> Int -> Int -> Int -> Int -> Int -> Int -> Int -> T β) : T β := xr xa (ja a0 g2 g14 κ0 κ1) (a1, a3, a4, a5, a6, a7, a8, a9, a10, a11, a12, a13, a15, a16, a17, a18, b19)
theorem xaS {β γ : Type} (a0 : Int) (g2 g14 : Geo) (a1 a3 a4 a5 a6 a7 a8 a9 a10 a11 a12 a13 a15 a16 a17 a18 : Int) (b19 : Bool) (κ0 : Int -> Int -> Int -> Int -> Int -> Int -> Int -> Int -> Int -> Int -> Int -> T β) (κ1 : Int -> Int -> Int -> Int -> Int -> Int -> Int -> Int -> Int -> Int -> Int -> Int -> T β) (κ : β -> T γ) : (vp a0 g2 g14 a1 a3 a4 a5 a6 a7 a8 a9 a10 a11 a12 a13 a15 a16 a17 a18 b19 κ0 κ1).bind κ = vp a0 g2 g14 a1 a3 a4 a5 a6 a7 a8 a9 a10 a11 a12 a13 a15 a16 a17 a18 b19 (fun ae1 ae2 ae3 ae4 ae5 ae6 ae7 ae8 ae9 ae10 ae11 => (κ0 ae1 ae2 ae3 ae4 ae5 ae6 ae7 ae8 ae9 ae10 ae11).bind κ) (fun ae0 ae1 ae2 ae3 ae4 ae5 ae6 ae7 ae8 ae9 ae10 ae11 => (κ1 ae0 ae1 ae2 ae3 ae4 ae5 ae6 ae7 ae8 ae9 ae10 ae11).bind κ) := by
 unfold vp
 refine xj κ (fun i k => ?_) _ _
 unfold ja
 first | rfl | simp only [bz]
def Kc : Pat := ⟨xm 89 0 [(0, .c (.raw (.port))), (3, .c (.int .i64)), (5, .c (.raw (.ptr 0 0))), (8, .c (.raw (.ptr 1 0))), (9, .c (.int .i64)), (10, .c (.raw (.ptr 2 0)))], [some ⟨[.geo], 24, false, none⟩, some ⟨[.int .i64, .int .i64, .int .u8, .int .u64, .int .u64, .int .u64, .int .u64, .int .u64, .int .i64, .int .i64, .int .i64], 38, false, none⟩, some ⟨[.raw (.port), .geo, .int .i64, .int .i64, .int .i64, .int .i64, .bool], 179, false, none⟩]⟩
def wl : Pat := ⟨xm 89 0 [(8, .c (.raw (.ptr 1 0))), (9, .c (.int .i64))], [none, some ⟨[.int .i64, .int .i64, .int .u8, .int .u64, .int .u64, .int .u64, .int .u64, .int .u64, .int .i64, .int .i64, .int .i64], 38, false, none⟩]⟩
def jb : LF := fun st K => match xt Kc st with
 | some [.i a0, .i a1, .g g2, .i a3, .i a4, .i a5, .i a6, .i a7, .i a8, .i a9, .i a10, .i a11, .i a12, .i a13, .g g14, .i a15, .i a16, .i a17, .i a18, .b b19] => some (vp a0 g2 g14 a1 a3 a4 a5 a6 a7 a8 a9 a10 a11 a12 a13 a15 a16 a17 a18 b19 (fun ae1 ae2 ae3 ae4 ae5 ae6 ae7 ae8 ae9 ae10 ae11 => K (.ret) (xc wl [.i 0, .i ae1, .i ae2, .i ae3, .i ae4, .i ae5, .i ae6, .i ae7, .i ae8, .i ae9, .i ae10, .i ae11])) (fun ae0 ae1 ae2 ae3 ae4 ae5 ae6 ae7 ae8 ae9 ae10 ae11 => K (.ret) (xc wl [.i ae0, .i ae1, .i ae2, .i ae3, .i ae4, .i ae5, .i ae6, .i ae7, .i ae8, .i ae9, .i ae10, .i ae11])))
 | _ => none
theorem xi7 : ∀ st K t, jb st K = some t -> xz xa (lf ka15 xa 0 .no [1, 1, 1, 1, 0] Tryz.f44 K) st = t := by
 intro st K t h
 unfold jb at h
 split at h
 ·rename_i a0 a1 g2 a3 a4 a5 a6 a7 a8 a9 a10 a11 a12 a13 g14 a15 a16 a17 a18 b19 hm
  cases h
  rw [xk hm]
  exact cast (by kernel_rfl) (xv (F := lf ka15 xa 0 .no [1, 1, 1, 1, 0] Tryz.f44 K) (S := fun i => xc Kc [.i a0, .i (i.1), .g g2, .i (i.2.1), .i (i.2.2.1), .i (i.2.2.2.1), .i (i.2.2.2.2.1), .i (i.2.2.2.2.2.1), .i (i.2.2.2.2.2.2.1), .i (i.2.2.2.2.2.2.2.1), .i (i.2.2.2.2.2.2.2.2.1), .i (i.2.2.2.2.2.2.2.2.2.1), .i (i.2.2.2.2.2.2.2.2.2.2.1), .i (i.2.2.2.2.2.2.2.2.2.2.2.1), .g g14, .i (i.2.2.2.2.2.2.2.2.2.2.2.2.1), .i (i.2.2.2.2.2.2.2.2.2.2.2.2.2.1), .i (i.2.2.2.2.2.2.2.2.2.2.2.2.2.2.1), .i (i.2.2.2.2.2.2.2.2.2.2.2.2.2.2.2.1), .b (i.2.2.2.2.2.2.2.2.2.2.2.2.2.2.2.2)]) (B := ja a0 g2 g14 (fun ae1 ae2 ae3 ae4 ae5 ae6 ae7 ae8 ae9 ae10 ae11 => K (.ret) (xc wl [.i 0, .i ae1, .i ae2, .i ae3, .i ae4, .i ae5, .i ae6, .i ae7, .i ae8, .i ae9, .i ae10, .i ae11])) (fun ae0 ae1 ae2 ae3 ae4 ae5 ae6 ae7 ae8 ae9 ae10 ae11 => K (.ret) (xc wl [.i ae0, .i ae1, .i ae2, .i ae3, .i ae4, .i ae5, .i ae6, .i ae7, .i ae8, .i ae9, .i ae10, .i ae11]))) (fun i k => by kernel_rfl) xa (a1, a3, a4, a5, a6, a7, a8, a9, a10, a11, a12, a13, a15, a16, a17, a18, b19))
 ·cases h
def XW {β : Type} (g : Geo) (a s : Int) (κ : (Res × Int) -> T β) : T β :=
 bif g.pages == 0 then (κ (⟨(0), (0), (0), (0), (0), (0), (0), (0), (15), (0), (0)⟩, (0))) else
 (YM g a s).bind fun r1 =>
 bif r1 != 0 then (.op (.steps ) fun x3 =>
 (wx g (Rn.mk (i64.wrap (Int.tdiv a 8)) s 0 0 false) (Res.mk 0 0 0 0 0 0 0 0 r1 x3 0)).bind fun r4 =>
 κ (r4.1, (0))) else
 vp (s) (g) (g) (0) (0) (0) (0) (0) (0) (0) (0) (0) (0) (0) (0) (i64.wrap (Int.tdiv a 8)) (s) (0) (0) (false) (fun y3_0 y3_1 y3_2 y3_3 y3_4 y3_5 y3_6 y3_7 y3_8 y3_9 y3_10 =>
 κ (⟨(y3_0), y3_1, y3_2, y3_3, y3_4, y3_5, y3_6, y3_7, y3_8, y3_9, (y3_10)⟩, (0))) (fun y3_0 y3_1 y3_2 y3_3 y3_4 y3_5 y3_6 y3_7 y3_8 y3_9 y3_10 y3_11 =>
 κ (⟨(y3_1), y3_2, y3_3, y3_4, y3_5, y3_6, y3_7, y3_8, y3_9, y3_10, (y3_11)⟩, y3_0))
def jR (g : Geo) (a s : Int) : T (Res × Int) := XW g a s .ret
theorem xgq {β : Type} (g : Geo) (a s : Int) (κ : (Res × Int) -> T β) : (jR g a s).bind κ = XW g a s κ := by
 unfold jR XW
 first | rfl | simp only [bz, xaS]
def xaT : Sm := gS fun
 | g, [.c (.int .i64 s)] => some (mkS (Res) (XV g s) fun r => some (.agg r.cells, []))
 | _, _ => none
variable {σ : Type} {I : Port Tryz.prog σ}
theorem xb5 (hl : SoundL I ka15) : SoundF I 26 xaT := by
 refine gsq hl 1 Tryz.func26 fun g l t ht => ?_
 split at ht
 ·rename_i s
  cases ht
  refine Eq.trans ?_ (xi6 g s _).symm
  kernel_rfl
 ·cases ht
def Wy : Sm := fun
 | [.c .port, .agg gc, .c (.int .i64 a), .c (.int .i64 s)], [] => (match xu gc with
   | some g => some (mkS ((Res × Int)) (jR g a s) fun r => some (.tup [.agg r.1.cells, .c (.int .i64 r.2)], []))
   | _ => none)
 | _, _ => none
theorem xgr : Good Tryz.prog (xo ka15) xa 0 (lsAt jb .no [1, 1, 1, 1, 0]) (Tryz.f44.body.getD .skip) (xq Tryz.f44.results.toList) := xB (xi (by kernel_rfl)) xA xi7
theorem xi8 (hl : SoundL I ka15) : SoundF I 44 Wy := by
 refine sq hl xa Tryz.func44 fun args H t ht => ?_
 unfold Wy at ht
 split at ht
 ·rename_i gc a s
  split at ht
  ·rename_i g hg
   obtain rfl := xe hg
   cases ht
   refine (xE (P := Tryz.prog) (n := xa) (x := (lsAt jb .no [1, 1, 1, 1, 0])) (fn := Tryz.f44) (H := []) (c := Tryz.f44.body.getD .skip) (xi (by kernel_rfl)) xgr).symm.trans ?_
   refine Eq.trans ?_ (xgq g a s _).symm
   kernel_rfl
  ·cases ht
 ·cases ht
noncomputable def ka16 : List (Nat × Sm) := (26, xaT) :: (44, Wy) :: ka15
theorem xu9 : SoundL I ka16 := (.cons (xb5 xi5) (.cons (xi8 xi5) xi5))
end Lx
namespace Lx
open Go
set_option maxRecDepth 1000000
noncomputable def kI4 : List (Nat × Sm) := (211, inl Tryz.prog (xo ka16) 1 Tryz.f211) :: ka16
variable {σ : Type} {I : Port Tryz.prog σ}
theorem s_kI4 : SoundL I kI4 := .cons (xD xu9 1 Tryz.func211 (by kernel_rfl) (by kernel_rfl)) xu9
noncomputable def kI5 : List (Nat × Sm) := (210, inl Tryz.prog (xo kI4) 1 Tryz.f210) :: kI4
theorem xl3 : SoundL I kI5 := .cons (xD s_kI4 1 Tryz.func210 (by kernel_rfl) (by kernel_rfl)) s_kI4
end Lx
namespace Lx
open Go
set_option maxRecDepth 1000000
def Ke {β : Type} (g : Geo) (a o b : Int) (κ : Res -> T β) : T β :=
 (ZJ g a).bind fun r0 =>
 bif !r0.snd.snd.2 then (κ r0.snd.snd.1) else
 bif decide (o < 0) then ((yi (Res.mk 0 0 0 0 0 0 0 0 14 r0.snd.1.lin 0)).bind fun r3 =>
 κ r3) else
 bif decide (o >= r0.snd.1.size) then ((yi (Res.mk 0 0 0 0 0 0 0 0 14 r0.snd.1.lin 0)).bind fun r4 =>
 κ r4) else
 (yi (Res.mk 0 0 0 0 0 0 0 0 0 r0.snd.1.lin 0)).bind fun r4 =>
 .op (.put (i64.wrap (a + o)) (b)) fun _ =>
 .op (.steps ) fun x6 =>
 (yi (Res.mk r4.at_ r4.n 0 r4.c1 r4.c2 r4.c3 r4.c4 r4.c5 r4.e r4.lin x6)).bind fun r7 =>
 κ r7
def XX (g : Geo) (a o b : Int) : T Res := Ke g a o b .ret
theorem xi9 {β : Type} (g : Geo) (a o b : Int) (κ : Res -> T β) : (XX g a o b).bind κ = Ke g a o b κ := by
 unfold XX Ke
 first | rfl | simp only [bz]
def xc6 {β : Type} (g : Geo) (a o : Int) (κ : Res -> T β) : T β :=
 (ZJ g a).bind fun r0 =>
 bif !r0.snd.snd.2 then (κ r0.snd.snd.1) else
 bif decide (o < 0) then ((yi (Res.mk 0 0 0 0 0 0 0 0 14 r0.snd.1.lin 0)).bind fun r3 =>
 κ r3) else
 bif decide (o >= r0.snd.1.size) then ((yi (Res.mk 0 0 0 0 0 0 0 0 14 r0.snd.1.lin 0)).bind fun r4 =>
 κ r4) else
 (yi (Res.mk 0 0 0 0 0 0 0 0 0 r0.snd.1.lin 0)).bind fun r4 =>
 .op (.get (i64.wrap (a + o))) fun x5 =>
 .op (.steps ) fun x6 =>
 (yi (Res.mk r4.at_ r4.n x5 r4.c1 r4.c2 r4.c3 r4.c4 r4.c5 r4.e r4.lin x6)).bind fun r7 =>
 κ r7
def xaU (g : Geo) (a o : Int) : T Res := xc6 g a o .ret
theorem xl4 {β : Type} (g : Geo) (a o : Int) (κ : Res -> T β) : (xaU g a o).bind κ = xc6 g a o κ := by
 unfold xaU xc6
 first | rfl | simp only [bz]
def qK {β : Type} (a0 : Int) (g1 : Geo) (a2 a3 a4 a5 a6 a7 a8 a9 a10 a11 a12 : Int) (κ0 : Int -> Int -> Int -> Int -> Int -> Int -> Int -> Int -> Int -> Int -> Int -> T β) (i : Unit) (k : Unit -> T β) : T β :=
 (ZJ g1 a0).bind fun r0 =>
 bif !r0.snd.snd.2 then (κ0 (r0.snd.snd.1.at_) (r0.snd.snd.1.n) (r0.snd.snd.1.byte) (r0.snd.snd.1.c1) (r0.snd.snd.1.c2) (r0.snd.snd.1.c3) (r0.snd.snd.1.c4) (r0.snd.snd.1.c5) (r0.snd.snd.1.e) (r0.snd.snd.1.lin) (r0.snd.snd.1.touch)) else
 (vQ g1 r0.1).bind fun r2 =>
 (xbF { kind := r2.kind, len := r2.len, cls := r2.cls, owner := r2.owner }).bind fun r3 =>
 .op (.load (atF g1 11 r0.1)) fun x4 =>
 bif x4 == Stt.word { kind := r0.snd.1.kind, size := r0.snd.1.size, other := r0.snd.1.other, ver := r0.snd.1.ver } then (.op (.steps ) fun x6 =>
 (yi   { at_ := 0, n := r3, byte := 0, c1 := 0, c2 := 0, c3 := 0, c4 := 0,     c5 := 0, e := 0, lin := x6, touch := 0 }).bind fun r7 =>
 κ0 (r7.at_) (r7.n) (r7.byte) (r7.c1) (r7.c2) (r7.c3) (r7.c4) (r7.c5) (r7.e) (r7.lin) (r7.touch)) else
 k ()
def vX {β : Type} (a0 : Int) (g1 : Geo) (a2 a3 a4 a5 a6 a7 a8 a9 a10 a11 a12 : Int)  (κ0 : Int -> Int -> Int -> Int -> Int -> Int -> Int -> Int -> Int -> Int -> Int -> T β) : T β := xr xa (qK a0 g1 a2 a3 a4 a5 a6 a7 a8 a9 a10 a11 a12 κ0) ()
theorem xcF {β γ : Type} (a0 : Int) (g1 : Geo) (a2 a3 a4 a5 a6 a7 a8 a9 a10 a11 a12 : Int)  (κ0 : Int -> Int -> Int -> Int -> Int -> Int -> Int -> Int -> Int -> Int -> Int -> T β) (κ : β -> T γ) : (vX a0 g1 a2 a3 a4 a5 a6 a7 a8 a9 a10 a11 a12  κ0).bind κ = vX a0 g1 a2 a3 a4 a5 a6 a7 a8 a9 a10 a11 a12  (fun ae0 ae1 ae2 ae3 ae4 ae5 ae6 ae7 ae8 ae9 ae10 => (κ0 ae0 ae1 ae2 ae3 ae4 ae5 ae6 ae7 ae8 ae9 ae10).bind κ) := by
 unfold vX
 refine xj κ (fun i k => ?_) _ _
 unfold qK
 first | rfl | simp only [bz]
def xb6 : Pat := ⟨xm 47 0 [(0, .c (.raw (.port))), (2, .c (.int .i64)), (4, .c (.raw (.ptr 0 0))), (6, .c (.raw (.ptr 1 0)))], [some ⟨[.geo], 24, false, none⟩, some ⟨[.int .i64, .int .i64, .int .u8, .int .u64, .int .u64, .int .u64, .int .u64, .int .u64, .int .i64, .int .i64, .int .i64], 38, false, none⟩]⟩
def Kf : Pat := ⟨xm 47 0 [(6, .c (.raw (.ptr 1 0)))], [none, some ⟨[.int .i64, .int .i64, .int .u8, .int .u64, .int .u64, .int .u64, .int .u64, .int .u64, .int .i64, .int .i64, .int .i64], 38, false, none⟩]⟩
def qL : LF := fun st K => match xt xb6 st with
 | some [.i a0, .g g1, .i a2, .i a3, .i a4, .i a5, .i a6, .i a7, .i a8, .i a9, .i a10, .i a11, .i a12] => some (vX a0 g1 a2 a3 a4 a5 a6 a7 a8 a9 a10 a11 a12  (fun ae0 ae1 ae2 ae3 ae4 ae5 ae6 ae7 ae8 ae9 ae10 => K (.ret) (xc Kf [.i ae0, .i ae1, .i ae2, .i ae3, .i ae4, .i ae5, .i ae6, .i ae7, .i ae8, .i ae9, .i ae10])))
 | _ => none
theorem xl5 : ∀ st K t, qL st K = some t -> xz xa (lf kI5 xa 0 .no [1, 0] Tryz.f131 K) st = t := by
 intro st K t h
 unfold qL at h
 split at h
 ·rename_i a0 g1 a2 a3 a4 a5 a6 a7 a8 a9 a10 a11 a12 hm
  cases h
  rw [xk hm]
  exact cast (by kernel_rfl) (xv (F := lf kI5 xa 0 .no [1, 0] Tryz.f131 K) (S := fun i => xc xb6 [.i a0, .g g1, .i a2, .i a3, .i a4, .i a5, .i a6, .i a7, .i a8, .i a9, .i a10, .i a11, .i a12]) (B := qK a0 g1 a2 a3 a4 a5 a6 a7 a8 a9 a10 a11 a12 (fun ae0 ae1 ae2 ae3 ae4 ae5 ae6 ae7 ae8 ae9 ae10 => K (.ret) (xc Kf [.i ae0, .i ae1, .i ae2, .i ae3, .i ae4, .i ae5, .i ae6, .i ae7, .i ae8, .i ae9, .i ae10]))) (fun i k => by kernel_rfl) xa ())
 ·cases h
def Kg {β : Type} (g : Geo) (a : Int) (κ : Res -> T β) : T β :=
 vX (a) (g) (0) (0) (0) (0) (0) (0) (0) (0) (0) (0) (0) (fun y0_0 y0_1 y0_2 y0_3 y0_4 y0_5 y0_6 y0_7 y0_8 y0_9 y0_10 =>
 κ ⟨(y0_0), y0_1, y0_2, y0_3, y0_4, y0_5, y0_6, y0_7, y0_8, y0_9, (y0_10)⟩)
def XY (g : Geo) (a : Int) : T Res := Kg g a .ret
theorem xja {β : Type} (g : Geo) (a : Int) (κ : Res -> T β) : (XY g a).bind κ = Kg g a κ := by
 unfold XY Kg
 first | rfl | simp only [bz, xcF]
def Kh {β : Type} (g : Geo) (c : Cal) (κ : Res -> T β) : T β :=
 (jR g c.at_ c.size).bind fun r0 =>
 bif r0.1.e == 0 then ((kz g r0.2 c.size).bind fun r2 =>
 κ r0.1) else
 (wo r0.1).bind fun r2 =>
 bif r2 then ((kT g).bind fun r4 =>
 κ r0.1) else
 κ r0.1
def XZ (g : Geo) (c : Cal) : T Res := Kh g c .ret
theorem xjb {β : Type} (g : Geo) (c : Cal) (κ : Res -> T β) : (XZ g c).bind κ = Kh g c κ := by
 unfold XZ Kh
 first | rfl | simp only [bz]
def xhs : Sm := gS fun
 | g, [.c (.int .i64 a), .c (.int .i64 o), .c (.int .u8 b)] => some (mkS (Res) (XX g a o b) fun r => some (.agg r.cells, []))
 | _, _ => none
variable {σ : Type} {I : Port Tryz.prog σ}
theorem xl6 (hl : SoundL I kI5) : SoundF I 132 xhs := by
 refine gsq hl 1 Tryz.func132 fun g l t ht => ?_
 split at ht
 ·rename_i a o b
  cases ht
  refine Eq.trans ?_ (xi9 g a o b _).symm
  kernel_rfl
 ·cases ht
def xl7 : Sm := gS fun
 | g, [.c (.int .i64 a), .c (.int .i64 o)] => some (mkS (Res) (xaU g a o) fun r => some (.agg r.cells, []))
 | _, _ => none
theorem xpd (hl : SoundL I kI5) : SoundF I 133 xl7 := by
 refine gsq hl 1 Tryz.func133 fun g l t ht => ?_
 split at ht
 ·rename_i a o
  cases ht
  refine Eq.trans ?_ (xl4 g a o _).symm
  kernel_rfl
 ·cases ht
def xaV : Sm := fun
 | [.c .port, .agg gc, .c (.int .i64 a)], [] => (match xu gc with
   | some g => some (mkS (Res) (XY g a) fun r => some (.agg r.cells, []))
   | _ => none)
 | _, _ => none
theorem xjc : Good Tryz.prog (xo kI5) xa 0 (lsAt qL .no [1, 0]) (Tryz.f131.body.getD .skip) (xq Tryz.f131.results.toList) := xB (xi (by kernel_rfl)) xA xl5
theorem xl8 (hl : SoundL I kI5) : SoundF I 131 xaV := by
 refine sq hl xa Tryz.func131 fun args H t ht => ?_
 unfold xaV at ht
 split at ht
 ·rename_i gc a
  split at ht
  ·rename_i g hg
   obtain rfl := xe hg
   cases ht
   refine (xE (P := Tryz.prog) (n := xa) (x := (lsAt qL .no [1, 0])) (fn := Tryz.f131) (H := []) (c := Tryz.f131.body.getD .skip) (xi (by kernel_rfl)) xjc).symm.trans ?_
   refine Eq.trans ?_ (xja g a _).symm
   kernel_rfl
  ·cases ht
 ·cases ht
def xht : Sm := gS fun
 | g, [.agg cc] => (match Cal.of cc with
   | some c => some (mkS (Res) (XZ g c) fun r => some (.agg r.cells, []))
   | _ => none)
 | _, _ => none
theorem xl9 (hl : SoundL I kI5) : SoundF I 129 xht := by
 refine gsq hl 1 Tryz.func129 fun g l t ht => ?_
 split at ht
 ·rename_i cc
  split at ht
  ·rename_i c hc
   obtain rfl := Cal.of_eq hc
   cases ht
   refine Eq.trans ?_ (xjb g c _).symm
   kernel_rfl
  ·cases ht
 ·cases ht
noncomputable def ka17 : List (Nat × Sm) := (132, xhs) :: (133, xl7) :: (131, xaV) :: (129, xht) :: kI5
theorem xpe : SoundL I ka17 := (.cons (xl6 xl3) (.cons (xpd xl3) (.cons (xl8 xl3) (.cons (xl9 xl3) xl3))))
end Lx
namespace Lx
open Go
set_option maxRecDepth 1000000
def doTK {β : Type} (g : Geo) (c : Cal) (κ : Res -> T β) : T β :=
 bif g.pages == 0 then (κ ⟨(0), (0), (0), (0), (0), (0), (0), (0), (1), (0), (0)⟩) else
 .op (.load (atF g 1 0)) fun x1 =>
 bif c.op == 1 then ((XV g c.size).bind fun r3 =>
 (qC g c r3).bind fun r4 =>
 κ r4) else
 bif c.op == 2 then ((XS g c.n c.size).bind fun r4 =>
 (qC g c r4).bind fun r5 =>
 κ r5) else
 bif c.op == 3 then ((kF g c.align c.size).bind fun r5 =>
 (qC g c r5).bind fun r6 =>
 κ r6) else
 bif c.op == 4 then ((XZ g c).bind fun r6 =>
 κ r6) else
 bif c.op == 5 then ((XT g c).bind fun r7 =>
 κ r7) else
 bif c.op == 6 then ((XY g c.at_).bind fun r8 =>
 κ r8) else
 bif c.op == 7 then ((XX g c.at_ c.off c.byte).bind fun r9 =>
 κ r9) else
 bif c.op == 8 then ((xaU g c.at_ c.off).bind fun r10 =>
 κ r10) else
 bif c.op == 9 then ((xaO g).bind fun r11 =>
 (Wj (Res.mk 0 0 0 0 0 0 0 0 0 0 0)).bind fun r12 =>
 κ r12) else
 bif c.op == 10 then ((xho g).bind fun r12 =>
 (Wj (Res.mk 0 0 0 0 0 0 0 0 r12 0 0)).bind fun r13 =>
 κ r13) else
 bif c.op == 11 then ((xfT g).bind fun r13 =>
 (Wj (Res.mk 0 0 0 r13.allocs r13.frees r13.failures r13.live r13.bytes 0 0 0)).bind fun r14 =>
 κ r14) else
 (Wj (Res.mk 0 0 0 0 0 0 0 0 1 0 0)).bind fun r13 =>
 κ r13
def doT (g : Geo) (c : Cal) : T Res := doTK g c .ret
theorem xva {β : Type} (g : Geo) (c : Cal) (κ : Res -> T β) : (doT g c).bind κ = doTK g c κ := by
 unfold doT doTK
 first | rfl | simp only [bz]
def m_doT : Sm := gS fun
 | g, [.agg cc] => (match Cal.of cc with
   | some c => some (mkS (Res) (doT g c) fun r => some (.agg r.cells, []))
   | _ => none)
 | _, _ => none
variable {σ : Type} {I : Port Tryz.prog σ}
theorem xrM (hl : SoundL I ka17) : SoundF I 57 m_doT := by
 refine gsq hl 1 Tryz.func57 fun g l t ht => ?_
 split at ht
 ·rename_i cc
  split at ht
  ·rename_i c hc
   obtain rfl := Cal.of_eq hc
   cases ht
   refine Eq.trans ?_ (xva g c _).symm
   kernel_rfl
  ·cases ht
 ·cases ht
noncomputable def ka18 : List (Nat × Sm) := (57, m_doT) :: ka17
theorem xpf : SoundL I ka18 := (.cons (xrM xpe) xpe)
end Lx
end Go.Proofs.YtaegelbaghaooaaGreat
