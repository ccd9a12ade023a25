/- Part. -/
import Derived.Test.YtaegelbaghaooaaGreatCrQI
set_option linter.all false
open Go.IntKind (i64 u64 u32 u8)
set_option maxRecDepth 1000000
namespace Go.Proofs.YtaegelbaghaooaaGreat
namespace Lx
variable {β : Type} (g : Geo)
open Go
def Kh (c : Int) (κ : (Int × Int) -> T β) : T β :=
 (jq g).bind fun r0 =>
 bif r0 then (κ ((0), (15))) else
 bif decide (c < 0) then (κ ((0), (15))) else
 bif decide (c >= 4) then (κ ((0), (15))) else
 .op (.load (atF g 1 0)) fun x4 =>
 (XW g 0 c).bind fun r5 =>
 bif !r5.1.ok then (bif r5.1.e == 0 then ((ZA g r5.2).bind fun r8 =>
 bif !r8.1 then (κ ((0), (5))) else
 (jM g r8.2 c).bind fun r10 =>
 bif r10.1.e != 0 then (κ ((0), (r10.1.e))) else
 bif r10.1.ok then (κ ((r10.1.grain), (0))) else
 .op (.load (atF g 1 0)) fun x13 =>
 bif x13 == u64.wrap (x4 + r10.2) then (κ ((0), (15))) else
 .fail) else
 bif r5.1.e != 0 then (κ ((0), (r5.1.e))) else
 bif r5.1.ok then (κ ((r5.1.grain), (0))) else
 .op (.load (atF g 1 0)) fun x10 =>
 bif x10 == u64.wrap (x4 + r5.2) then (κ ((0), (15))) else
 .fail) else
 bif r5.1.e != 0 then (κ ((0), (r5.1.e))) else
 bif r5.1.ok then (κ ((r5.1.grain), (0))) else
 .op (.load (atF g 1 0)) fun x9 =>
 bif x9 == u64.wrap (x4 + r5.2) then (κ ((0), (15))) else
 .fail
def qA (c : Int) : T (Int × Int) := Kh g c .ret
theorem xky (c : Int) (κ : (Int × Int) -> T β) : (qA g c).bind κ = Kh g c κ := by
 unfold qA Kh
 simp only [bz]
def xc7 (k a : Int) (κ : (Int × Int) -> T β) : T β :=
 (jq g).bind fun r0 =>
 bif r0 then (κ ((0), (15))) else
 bif decide (k < 1) then (κ ((0), (15))) else
 bif decide (a < 1) then (κ ((0), (15))) else
 .op (.load (atF g 1 0)) fun x4 =>
 (xeB g 0 k a).bind fun r5 =>
 bif !r5.1.ok then (bif r5.1.e == 0 then ((ZA g r5.2).bind fun r8 =>
 bif !r8.1 then (κ ((0), (5))) else
 (xeB g r8.2 k a).bind fun r10 =>
 bif r10.1.e != 0 then (κ ((0), (r10.1.e))) else
 bif r10.1.ok then (κ ((r10.1.grain), (0))) else
 .op (.load (atF g 1 0)) fun x13 =>
 bif x13 == u64.wrap (x4 + r10.2) then (κ ((0), (15))) else
 .fail) else
 bif r5.1.e != 0 then (κ ((0), (r5.1.e))) else
 bif r5.1.ok then (κ ((r5.1.grain), (0))) else
 .op (.load (atF g 1 0)) fun x10 =>
 bif x10 == u64.wrap (x4 + r5.2) then (κ ((0), (15))) else
 .fail) else
 bif r5.1.e != 0 then (κ ((0), (r5.1.e))) else
 bif r5.1.ok then (κ ((r5.1.grain), (0))) else
 .op (.load (atF g 1 0)) fun x9 =>
 bif x9 == u64.wrap (x4 + r5.2) then (κ ((0), (15))) else
 .fail
def Wu (k a : Int) : T (Int × Int) := xc7 g k a .ret
theorem xnE (k a : Int) (κ : (Int × Int) -> T β) : (Wu g k a).bind κ = xc7 g k a κ := by
 unfold Wu xc7
 simp only [bz]
def Ki (κ : (Int × Bool) -> T β) : T β :=
 (jq g).bind fun r0 =>
 bif r0 then (κ ((0), (false))) else
 (ZA g 0).bind fun r2 =>
 κ ((r2.2), (r2.1))
def Kj : T (Int × Bool) := Ki g .ret
theorem xkz (κ : (Int × Bool) -> T β) : (Kj g).bind κ = Ki g κ := by
 unfold Kj Ki
 simp only [bz]
def xhz : Sm := gS fun
 | g, [.c (.int .i64 c)] => some (mkS ((Int × Int)) (qA g c) fun r => some (.tup [.c (.int .i64 r.1), .c (.int .i64 r.2)], []))
 | _, _ => none
variable {σ : Type} {I : Port Tryz.prog σ}
theorem xnF (hl : SoundL I kI3) : SoundF I 76 xhz := by
 refine gsq hl 1 Tryz.func76 fun g l t ht => ?_
 split at ht
 ·rename_i c
  cases ht
  exact ey (xky g c _)
 ·cases ht
def xnG : Sm := gS fun
 | g, [.c (.int .i64 k), .c (.int .i64 a)] => some (mkS ((Int × Int)) (Wu g k a) fun r => some (.tup [.c (.int .i64 r.1), .c (.int .i64 r.2)], []))
 | _, _ => none
theorem xq4 (hl : SoundL I kI3) : SoundF I 79 xnG := by
 refine gsq hl 1 Tryz.func79 fun g l t ht => ?_
 split at ht
 ·rename_i k a
  cases ht
  exact ey (xnE g k a _)
 ·cases ht
def xhA : Sm := gS fun
 | g, [] => some (mkS ((Int × Bool)) (Kj g) fun r => some (.tup [.c (.int .u64 r.1), .c (.bool r.2)], []))
 | _, _ => none
theorem xnH (hl : SoundL I kI3) : SoundF I 92 xhA := by
 refine gsq hl 1 Tryz.func92 fun g l t ht => ?_
 split at ht
 ·cases ht
  exact ey (xkz g _)
 ·cases ht
noncomputable def ka13 : List (Nat × Sm) := (76, xhz) :: (79, xnG) :: (92, xhA) :: kI3
theorem qB : SoundL I ka13 := (.cons (xnF xs6) (.cons (xq4 xs6) (.cons (xnH xs6) xs6)))
end Lx
namespace Lx
variable {β : Type} (g : Geo)
open Go
def xc8 (s a : Int) (κ : (Int × Int × Int) -> T β) : T β :=
 bif g.pages == 0 then (κ ((0), (0), (15))) else
 bif decide (s < 1) then (κ ((0), (0), (11))) else
 bif decide (s > i64.wrap (g.pages * 64)) then (κ ((0), (0), (11))) else
 (Xj a).bind fun r3 =>
 bif !r3 then (κ ((0), (0), (12))) else
 (cofT s a).bind fun r5 =>
 bif decide (r5 >= 0) then ((qA g r5).bind fun r7 =>
 bif decide (0 <= r5 /\ r5 < 4) then (bif r7.2 != 0 then (κ ((0), (0), (r7.2))) else
 κ ((r7.1), (bif r5 == 0 then (8 : Int) else bif r5 == 1 then (16 : Int) else bif r5 == 2 then (24 : Int) else (32 : Int)), (0))) else
 .fail) else
 (jD s).bind fun r7 =>
 (Wu g r7 (if i64.wrap (Int.tdiv a 64) < 1 then (1 : Int) else i64.wrap (Int.tdiv a 64))).bind fun r8 =>
 bif r8.2 != 0 then (κ ((0), (0), (r8.2))) else
 κ ((r8.1), (i64.wrap (r7 * 64)), (0))
def js (s a : Int) : T (Int × Int × Int) := xc8 g s a .ret
theorem xnI (s a : Int) (κ : (Int × Int × Int) -> T β) : (js g s a).bind κ = xc8 g s a κ := by
 unfold js xc8
 simp only [bz]
def xkA (κ : Int -> T β) : T β :=
 (Kj g).bind fun r0 =>
 bif !r0.2 then (κ (5)) else
 κ (0)
def xhB : T Int := xkA g .ret
theorem xq5 (κ : Int -> T β) : (xhB g).bind κ = xkA g κ := by
 unfold xhB xkA
 simp only [bz]
def xc9 (x : Rn) (κ : (Unit × Rn) -> T β) : T β :=
 bif x.has then ((vQ g x.to).bind fun r1 =>
 κ ((), ⟨(x.grain), (x.size), (x.to), (x.usable), (false)⟩)) else
 κ ((), ⟨(x.grain), (x.size), (x.to), (x.usable), (false)⟩)
def Wv (x : Rn) : T (Unit × Rn) := xc9 g x .ret
theorem xnJ (x : Rn) (κ : (Unit × Rn) -> T β) : (Wv g x).bind κ = xc9 g x κ := by
 unfold Wv xc9
 simp only [bz]
def xda (a : Int) (κ : Res -> T β) : T β :=
 bif g.pages == 0 then (κ ⟨(0), (0), (0), (0), (0), (0), (0), (0), (15), (0), (0)⟩) else
 bif decide (a < 0) then (.op (.steps ) fun x2 =>
 (vb 13 x2).bind fun r3 =>
 κ r3) else
 bif decide (a >= i64.wrap (g.pages * 64)) then (.op (.steps ) fun x3 =>
 (vb 13 x3).bind fun r4 =>
 κ r4) else
 bif Int.tmod a 8 != 0 then (.op (.steps ) fun x4 =>
 (vb 13 x4).bind fun r5 =>
 κ r5) else
 (xaw g (i64.wrap (Int.tdiv a 8))).bind fun r4 =>
 bif !r4.live then ((vb 13 r4.lin).bind fun r6 =>
 κ r6) else
 .op (.tell [.int .i64 (0), .int .i64 (r4.size), .int .u8 (0), .int .u64 (0), .int .u64 (0), .int .u64 (0), .int .u64 (0), .int .u64 (0), .int .i64 (0), .int .i64 (r4.lin), .int .i64 (0)]) fun _ =>
 (vQ g (i64.wrap (Int.tdiv a 8))).bind fun r7 =>
 κ ⟨(0), (r4.size), (0), (0), (0), (0), (0), (0), (0), (r4.lin), (0)⟩
def xa8 (a : Int) : T Res := xda g a .ret
theorem xnK (a : Int) (κ : Res -> T β) : (xa8 g a).bind κ = xda g a κ := by
 unfold xa8 xda
 simp only [bz]
def xdb (a : Int) (κ : (Int × Seen × Res × Bool) -> T β) : T β :=
 bif decide (a < 0) then (.op (.steps ) fun x1 =>
 (yl (Res.mk 0 0 0 0 0 0 0 0 13 x1 0)).bind fun r2 =>
 κ ((0), ⟨(0), (0), (0), (0), (false), (0)⟩, r2, (false))) else
 bif decide (a >= i64.wrap (g.pages * 64)) then (.op (.steps ) fun x2 =>
 (yl (Res.mk 0 0 0 0 0 0 0 0 13 x2 0)).bind fun r3 =>
 κ ((0), ⟨(0), (0), (0), (0), (false), (0)⟩, r3, (false))) else
 bif Int.tmod a 8 != 0 then (.op (.steps ) fun x3 =>
 (yl (Res.mk 0 0 0 0 0 0 0 0 13 x3 0)).bind fun r4 =>
 κ ((0), ⟨(0), (0), (0), (0), (false), (0)⟩, r4, (false))) else
 (Vn g (i64.wrap (Int.tdiv a 8))).bind fun r3 =>
 bif !r3.live then ((yl (Res.mk 0 0 0 0 0 0 0 0 13 r3.lin 0)).bind fun r5 =>
 κ ((0), ⟨(r3.kind), (r3.size), (r3.other), (r3.ver), (r3.live), (r3.lin)⟩, r5, (false))) else
 κ ((i64.wrap (Int.tdiv a 8)), ⟨(r3.kind), (r3.size), (r3.other), (r3.ver), (r3.live), (r3.lin)⟩, ⟨(0), (0), (0), (0), (0), (0), (0), (0), (0), (0), (0)⟩, (true))
def ZB (a : Int) : T (Int × Seen × Res × Bool) := xdb g a .ret
theorem xnL (a : Int) (κ : (Int × Seen × Res × Bool) -> T β) : (ZB g a).bind κ = xdb g a κ := by
 unfold ZB xdb
 simp only [bz]
def xfd : Sm := gS fun
 | g, [.c (.int .i64 s), .c (.int .i64 a)] => some (mkS ((Int × Int × Int)) (js g s a) fun r => some (.tup [.c (.int .i64 r.1), .c (.int .i64 r.2.1), .c (.int .i64 r.2.2)], []))
 | _, _ => none
variable {σ : Type} {I : Port Tryz.prog σ}
theorem xfe (hl : SoundL I ka13) : SoundF I 21 xfd := by
 refine gsq hl 1 Tryz.func21 fun g l t ht => ?_
 split at ht
 ·rename_i s a
  cases ht
  exact ey (xnI g s a _)
 ·cases ht
def xkB : Sm := gS fun
 | g, [] => some (mkS (Int) (xhB g) fun r => some (.c (.int .i64 r), []))
 | _, _ => none
theorem xhC (hl : SoundL I ka13) : SoundF I 28 xkB := by
 refine gsq hl 1 Tryz.func28 fun g l t ht => ?_
 split at ht
 ·cases ht
  exact ey (xq5 g _)
 ·cases ht
def xff : Sm := fun
 | [.c (.ptr 0 0)], [some ⟨.port :: gc, 179, false, none⟩] => (match rnOf gc with
   | some (g, x) => some (mkS ((Unit × Rn)) (Wv g x) fun r => some (.tup [], [some ⟨.port :: (g.cells ++ r.2.cells), 179, false, none⟩]))
   | _ => none)
 | _, _ => none
theorem xq6 (hl : SoundL I ka13) : SoundF I 116 xff := by
 refine sq hl 1 Tryz.func116 fun _ _ t ht => ?_
 unfold xff at ht
 split at ht
 ·rename_i gc
  split at ht
  ·rename_i g x hg
   obtain rfl := Xn hg
   cases ht
   exact ey (xnJ g x _)
  ·cases ht
 ·cases ht
def xfg : Sm := gS fun
 | g, [.c (.int .i64 a)] => some (mkS (Res) (xa8 g a) fun r => some (.agg r.cells, []))
 | _, _ => none
theorem xfh (hl : SoundL I ka13) : SoundF I 25 xfg := by
 refine gsq hl 1 Tryz.func25 fun g l t ht => ?_
 split at ht
 ·rename_i a
  cases ht
  exact ey (xnK g a _)
 ·cases ht
def xnM : Sm := gS fun
 | g, [.c (.int .i64 a)] => some (mkS ((Int × Seen × Res × Bool)) (ZB g a) fun r => some (.tup [.c (.int .i64 r.1), .agg r.2.1.cells, .agg r.2.2.1.cells, .c (.bool r.2.2.2)], []))
 | _, _ => none
theorem xq7 (hl : SoundL I ka13) : SoundF I 207 xnM := by
 refine gsq hl 1 Tryz.func207 fun g l t ht => ?_
 split at ht
 ·rename_i a
  cases ht
  exact ey (xnL g a _)
 ·cases ht
noncomputable def ka14 : List (Nat × Sm) := (21, xfd) :: (28, xkB) :: (116, xff) :: (25, xfg) :: (207, xnM) :: ka13
theorem ZC : SoundL I ka14 := (.cons (xfe qB) (.cons (xhC qB) (.cons (xq6 qB) (.cons (xfh qB) (.cons (xq7 qB) qB)))))
end Lx
namespace Lx
variable {β : Type} (g : Geo)
open Go
def XY (a s : Int) (κ : Res -> T β) : T β :=
 bif g.pages == 0 then (κ ⟨(0), (0), (0), (0), (0), (0), (0), (0), (15), (0), (0)⟩) else
 (js g s a).bind fun r1 =>
 bif r1.snd.2 != 0 then (.op (.steps ) fun x3 =>
 (vb r1.snd.2 x3).bind fun r4 =>
 κ r4) else
 (Vx g r1.1 r1.snd.1 s).bind fun r3 =>
 κ r3
def kL (a s : Int) : T Res := XY g a s .ret
theorem xgL (a s : Int) (κ : Res -> T β) : (kL g a s).bind κ = XY g a s κ := by
 unfold kL XY
 simp only [bz]
def Ww (a0 a1 a2 a3 a4 : Int) (g6 : Geo) (a7 a8 a9 a10 a11 a12 a13 a14 a15 a16 a17 : Int) (κ0 : Unit -> T β) (i : Int) (k : Int -> T β) : T β :=
 bif decide (i < a4) then (.op (.put (i64.wrap (i64.wrap (a2 * 8) + i)) (0)) fun _ =>
 k (i64.wrap (i + 1))) else
 κ0 ()
def yx (a0 a1 a2 a3 a4 : Int) (g6 : Geo) (a7 a8 a9 a10 a11 a12 a13 a14 a15 a16 a17 a5 : Int) (κ0 : Unit -> T β) : T β := xq xa (Ww a0 a1 a2 a3 a4 g6 a7 a8 a9 a10 a11 a12 a13 a14 a15 a16 a17 κ0) a5
theorem xcj {β γ : Type} (a0 a1 a2 a3 a4 : Int) (g6 : Geo) (a7 a8 a9 a10 a11 a12 a13 a14 a15 a16 a17 a5 : Int) (κ0 : Unit -> T β) (κ : β -> T γ) : (yx a0 a1 a2 a3 a4 g6 a7 a8 a9 a10 a11 a12 a13 a14 a15 a16 a17 a5 κ0).bind κ = yx a0 a1 a2 a3 a4 g6 a7 a8 a9 a10 a11 a12 a13 a14 a15 a16 a17 a5 (fun u => (κ0 u).bind κ) := by
 unfold yx
 refine xj κ (fun i k => ?_) _ _
 unfold Ww
 simp only [bz]
def xbR : Pat := ⟨xm 80 0 [(0, .c (.raw (.port))), (2, .c (.int .i64)), (3, .c (.int .i64)), (5, .c (.raw (.ptr 0 0))), (8, .c (.raw (.ptr 1 0))), (10, .c (.int .i64)), (11, .c (.int .i64)), (61, .c (.int .i64)), (62, .c (.int .i64))], [some ⟨[.geo], 24, false, none⟩, some ⟨[.int .i64, .int .i64, .int .u8, .int .u64, .int .u64, .int .u64, .int .u64, .int .u64, .int .i64, .int .i64, .int .i64], 38, false, none⟩]⟩
def xkC : Pat := ⟨xm 80 0 [(0, .c (.raw (.port))), (2, .c (.int .i64)), (3, .c (.int .i64)), (5, .c (.raw (.ptr 0 0))), (8, .c (.raw (.ptr 1 0))), (10, .c (.int .i64)), (11, .c (.int .i64))], [some ⟨[.geo], 24, false, none⟩, some ⟨[.int .i64, .int .i64, .int .u8, .int .u64, .int .u64, .int .u64, .int .u64, .int .u64, .int .i64, .int .i64, .int .i64], 38, false, none⟩]⟩
def qC : LF := fun st K => match xt xbR st with
 | some [.i a0, .i a1, .i a2, .i a3, .i a4, .i a5, .g g6, .i a7, .i a8, .i a9, .i a10, .i a11, .i a12, .i a13, .i a14, .i a15, .i a16, .i a17] => some (yx a0 a1 a2 a3 a4 g6 a7 a8 a9 a10 a11 a12 a13 a14 a15 a16 a17 a5 (fun _ => K (.exit 0) (xd xkC [.i a0, .i a1, .i a2, .i a3, .g g6, .i a7, .i a8, .i a9, .i a10, .i a11, .i a12, .i a13, .i a14, .i a15, .i a16, .i a17])))
 | _ => none
theorem xnN : ∀ st K t, qC st K = some t -> xB xa (lf ka14 xa 0 .no [1, 1, 1, 1, 1, 1, 0, 1, 0] Tryz.f30 K) st = t := by
 intro st K t h
 unfold qC at h
 split at h
 ·rename_i a0 a1 a2 a3 a4 a5 g6 a7 a8 a9 a10 a11 a12 a13 a14 a15 a16 a17 hm
  cases h
  rw [xk hm]
  unfold yx
  exact xu (S := fun (i : Int) => xd xbR [.i a0, .i a1, .i a2, .i a3, .i a4, .i i, .g g6, .i a7, .i a8, .i a9, .i a10, .i a11, .i a12, .i a13, .i a14, .i a15, .i a16, .i a17]) (fun i k => by kernel_rfl) xa a5
 ·cases h
def Kk (n s : Int) (κ : Res -> T β) : T β :=
 bif g.pages == 0 then (κ ⟨(0), (0), (0), (0), (0), (0), (0), (0), (15), (0), (0)⟩) else
 bif decide (n < 0) then (.op (.steps ) fun x2 =>
 (vb 11 x2).bind fun r3 =>
 κ r3) else
 bif decide (s < 0) then (.op (.steps ) fun x3 =>
 (vb 11 x3).bind fun r4 =>
 κ r4) else
 bif decide (s > 0) then (bif bif s == 0 then false else true then (bif decide (n > i64.wrap (Int.tdiv (i64.wrap (g.pages * 64)) s)) then (.op (.steps ) fun x6 =>
 (vb 11 x6).bind fun r7 =>
 κ r7) else
 (js g (i64.wrap (n * s)) 1).bind fun r6 =>
 bif r6.snd.2 != 0 then (.op (.steps ) fun x8 =>
 (vb r6.snd.2 x8).bind fun r9 =>
 κ r9) else
 yx (n) (s) (r6.1) (r6.snd.1) (i64.wrap (n * s)) (g) (0) (0) (0) (0) (0) (0) (0) (0) (0) (0) (0) (0) (fun y8_0 =>
 (Vx g r6.1 r6.snd.1 (i64.wrap (n * s))).bind fun r9 =>
 κ r9)) else
 .fail) else
 (js g (i64.wrap (n * s)) 1).bind fun r4 =>
 bif r4.snd.2 != 0 then (.op (.steps ) fun x6 =>
 (vb r4.snd.2 x6).bind fun r7 =>
 κ r7) else
 yx (n) (s) (r4.1) (r4.snd.1) (i64.wrap (n * s)) (g) (0) (0) (0) (0) (0) (0) (0) (0) (0) (0) (0) (0) (fun y6_0 =>
 (Vx g r4.1 r4.snd.1 (i64.wrap (n * s))).bind fun r7 =>
 κ r7)
def XZ (n s : Int) : T Res := Kk g n s .ret
theorem xkD (n s : Int) (κ : Res -> T β) : (XZ g n s).bind κ = Kk g n s κ := by
 unfold XZ Kk
 simp only [bz, xcj]
def xdc (x : Rn) (se : Seen) (rm : Int) (κ : ((Res × Bool) × Rn) -> T β) : T β :=
 (Xl g x.grain (Stt.mk se.kind se.size se.other se.ver) x.size).bind fun r0 =>
 bif !r0 then (κ ((⟨(0), (0), (0), (0), (0), (0), (0), (0), (0), (0), (0)⟩, (false)), x)) else
 .op (.steps ) fun x2 =>
 (wH g x (Res.mk (i64.wrap (x.grain * 8)) rm 0 0 0 0 0 0 0 x2 0)).bind fun r3 =>
 (Wv g r3.2).bind fun r4 =>
 κ ((r3.1, (true)), r4.2)
def xa9 (x : Rn) (se : Seen) (rm : Int) : T ((Res × Bool) × Rn) := xdc g x se rm .ret
theorem xnO (x : Rn) (se : Seen) (rm : Int) (κ : ((Res × Bool) × Rn) -> T β) : (xa9 g x se rm).bind κ = xdc g x se rm κ := by
 unfold xa9 xdc
 simp only [bz]
def xkE (x : Rn) (se : Seen) (κ : ((Res × Bool) × Rn) -> T β) : T β :=
 bif !x.has then ((js g x.size 1).bind fun r1 =>
 bif r1.snd.2 != 0 then ((wH g x (Res.mk 0 0 0 0 0 0 0 0 r1.snd.2 se.lin 0)).bind fun r3 =>
 κ ((r3.1, (true)), r3.2)) else
 (jf g (Rn.mk x.grain x.size r1.1 r1.snd.1 true) (if x.size < se.size then x.size else se.size)).bind fun r3 =>
 (kt g r3.2.to r3.2.grain r3.2.size).bind fun r4 =>
 (xdL g r3.2.grain (Stt.mk se.kind se.size se.other se.ver) r3.2.to r4).bind fun r5 =>
 bif !r5 then ((xdM g r3.2.to).bind fun r7 =>
 κ ((⟨(0), (0), (0), (0), (0), (0), (0), (0), (0), (0), (0)⟩, (false)), r3.2)) else
 .op (.steps ) fun x7 =>
 (wH g r3.2 (Res.mk (i64.wrap (r3.2.to * 8)) r3.2.usable 0 0 0 0 0 0 0 x7 0)).bind fun r8 =>
 (qj g r8.2.to r8.2.grain r8.2.size r4).bind fun r9 =>
 (vQ g r8.2.grain).bind fun r10 =>
 κ ((r8.1, (true)), r8.2)) else
 (jf g x (if x.size < se.size then x.size else se.size)).bind fun r1 =>
 (kt g r1.2.to r1.2.grain r1.2.size).bind fun r2 =>
 (xdL g r1.2.grain (Stt.mk se.kind se.size se.other se.ver) r1.2.to r2).bind fun r3 =>
 bif !r3 then ((xdM g r1.2.to).bind fun r5 =>
 κ ((⟨(0), (0), (0), (0), (0), (0), (0), (0), (0), (0), (0)⟩, (false)), r1.2)) else
 .op (.steps ) fun x5 =>
 (wH g r1.2 (Res.mk (i64.wrap (r1.2.to * 8)) r1.2.usable 0 0 0 0 0 0 0 x5 0)).bind fun r6 =>
 (qj g r6.2.to r6.2.grain r6.2.size r2).bind fun r7 =>
 (vQ g r6.2.grain).bind fun r8 =>
 κ ((r6.1, (true)), r6.2)
def xhD (x : Rn) (se : Seen) : T ((Res × Bool) × Rn) := xkE g x se .ret
theorem xq8 (x : Rn) (se : Seen) (κ : ((Res × Bool) × Rn) -> T β) : (xhD g x se).bind κ = xkE g x se κ := by
 unfold xhD xkE
 simp only [bz]
def Kl (c : Cal) (κ : Res -> T β) : T β :=
 (xa8 g c.at_).bind fun r0 =>
 bif r0.e == 0 then ((XL g r0.n).bind fun r2 =>
 κ r0) else
 κ r0
def Ya (c : Cal) : T Res := Kl g c .ret
theorem xkF (c : Cal) (κ : Res -> T β) : (Ya g c).bind κ = Kl g c κ := by
 unfold Ya Kl
 simp only [bz]
def Wx : Sm := gS fun
 | g, [.c (.int .i64 a), .c (.int .i64 s)] => some (mkS (Res) (kL g a s) fun r => some (.agg r.cells, []))
 | _, _ => none
variable {σ : Type} {I : Port Tryz.prog σ}
theorem Km (hl : SoundL I ka14) : SoundF I 22 Wx := by
 refine gsq hl 1 Tryz.func22 fun g l t ht => ?_
 split at ht
 ·rename_i a s
  cases ht
  exact ey (xgL g a s _)
 ·cases ht
def Yb : Sm := fun
 | [.c .port, .agg gc, .c (.int .i64 n), .c (.int .i64 s)], [] => (match xv gc with
   | some g => some (mkS (Res) (XZ g n s) fun r => some (.agg r.cells, []))
   | _ => none)
 | _, _ => none
theorem xkG : Good Tryz.prog (xo ka14) xa 0 (lsAt qC .no [1, 1, 1, 1, 1, 1, 0, 1, 0]) (Tryz.f30.body.getD .skip) (xr Tryz.f30.results.toList) := xA (xh (by kernel_rfl)) xz xnN
theorem xbS (hl : SoundL I ka14) : SoundF I 30 Yb := by
 refine sq hl xa Tryz.func30 fun _ _ t ht => ?_
 unfold Yb at ht
 split at ht
 ·rename_i gc n s
  split at ht
  ·rename_i g hg
   obtain rfl := xe hg
   cases ht
   refine (xD (P := Tryz.prog) (n := xa) (x := (lsAt qC .no [1, 1, 1, 1, 1, 1, 0, 1, 0])) (fn := Tryz.f30) (H := []) (c := Tryz.f30.body.getD .skip) (xh (by kernel_rfl)) xkG).symm.trans ?_
   exact ey (xkD g n s _)
  ·cases ht
 ·cases ht
def xfi : Sm := fun
 | [.c (.ptr 0 0), .agg sec, .c (.int .i64 rm)], [some ⟨.port :: gc, 179, false, none⟩] => (match rnOf gc with
   | some (g, x) => (match Seen.of sec with
   | some se => some (mkS (((Res × Bool) × Rn)) (xa9 g x se rm) fun r => some (.tup [.agg r.1.1.cells, .c (.bool r.1.2)], [some ⟨.port :: (g.cells ++ r.2.cells), 179, false, none⟩]))
   | _ => none)
   | _ => none)
 | _, _ => none
theorem xq9 (hl : SoundL I ka14) : SoundF I 118 xfi := by
 refine sq hl 1 Tryz.func118 fun _ _ t ht => ?_
 unfold xfi at ht
 split at ht
 ·rename_i sec rm gc
  split at ht
  ·rename_i g x hg
   obtain rfl := Xn hg
   split at ht
   ·rename_i se hse
    obtain rfl := Seen.of_eq hse
    cases ht
    exact ey (xnO g x se rm _)
   ·cases ht
  ·cases ht
 ·cases ht
def xkH : Sm := fun
 | [.c (.ptr 0 0), .agg sec], [some ⟨.port :: gc, 179, false, none⟩] => (match rnOf gc with
   | some (g, x) => (match Seen.of sec with
   | some se => some (mkS (((Res × Bool) × Rn)) (xhD g x se) fun r => some (.tup [.agg r.1.1.cells, .c (.bool r.1.2)], [some ⟨.port :: (g.cells ++ r.2.cells), 179, false, none⟩]))
   | _ => none)
   | _ => none)
 | _, _ => none
theorem xuf (hl : SoundL I ka14) : SoundF I 119 xkH := by
 refine sq hl 1 Tryz.func119 fun _ _ t ht => ?_
 unfold xkH at ht
 split at ht
 ·rename_i sec gc
  split at ht
  ·rename_i g x hg
   obtain rfl := Xn hg
   split at ht
   ·rename_i se hse
    obtain rfl := Seen.of_eq hse
    cases ht
    exact ey (xq8 g x se _)
   ·cases ht
  ·cases ht
 ·cases ht
def xhE : Sm := gS fun
 | g, [.agg cc] => (match Cal.of cc with
   | some c => some (mkS (Res) (Ya g c) fun r => some (.agg r.cells, []))
   | _ => none)
 | _, _ => none
theorem xnP (hl : SoundL I ka14) : SoundF I 130 xhE := by
 refine gsq hl 1 Tryz.func130 fun g l t ht => ?_
 split at ht
 ·rename_i cc
  split at ht
  ·rename_i c hc
   obtain rfl := Cal.of_eq hc
   cases ht
   exact ey (xkF g c _)
  ·cases ht
 ·cases ht
noncomputable def ka15 : List (Nat × Sm) := (22, Wx) :: (30, Yb) :: (118, xfi) :: (119, xkH) :: (130, xhE) :: ka14
theorem xfj : SoundL I ka15 := (.cons (Km ZC) (.cons (xbS ZC) (.cons (xq9 ZC) (.cons (xuf ZC) (.cons (xnP ZC) ZC)))))
end Lx
namespace Lx
variable {β : Type} (g : Geo)
open Go
def Kn (s : Int) (κ : Res -> T β) : T β :=
 (kL g 1 s).bind fun r0 =>
 κ r0
def Yc (s : Int) : T Res := Kn g s .ret
theorem xkI (s : Int) (κ : Res -> T β) : (Yc g s).bind κ = Kn g s κ := by
 unfold Yc Kn
 simp only [bz]
def ZD (a0 : Int) (g2 g14 : Geo) (κ0 : Int -> Int -> Int -> Int -> Int -> Int -> Int -> Int -> Int -> Int -> Int -> T β) (κ1 : Int -> Int -> Int -> Int -> Int -> Int -> Int -> Int -> Int -> Int -> Int -> Int -> T β) (i : Int × Int × Int × Int × Int × Int × Int × Int × Int × Int × Int × Int × Int × Int × Int × Int × Bool) (k : Int × Int × Int × Int × Int × Int × Int × Int × Int × Int × Int × Int × Int × Int × Int × Int × Bool -> T β) : T β :=
 (Vn g2 i.2.2.2.2.2.2.2.2.2.2.2.2.1).bind fun r0 =>
 bif !r0.live then ((Wv g14 { grain := i.2.2.2.2.2.2.2.2.2.2.2.2.1, size := i.2.2.2.2.2.2.2.2.2.2.2.2.2.1, to := i.2.2.2.2.2.2.2.2.2.2.2.2.2.2.1, usable := i.2.2.2.2.2.2.2.2.2.2.2.2.2.2.2.1, has := i.2.2.2.2.2.2.2.2.2.2.2.2.2.2.2.2 }).bind fun r2 =>
 (wH g14 { grain := r2.2.grain, size := r2.2.size, to := r2.2.to, usable := r2.2.usable, has := r2.2.has }   { at_ := 0, n := 0, byte := 0, c1 := 0, c2 := 0, c3 := 0,     c4 := 0, c5 := 0, e := 13, lin := r0.lin, touch := 0 }).bind fun r3 =>
 κ0 (r3.1.at_) (r3.1.n) (r3.1.byte) (r3.1.c1) (r3.1.c2) (r3.1.c3) (r3.1.c4) (r3.1.c5) (r3.1.e) (r3.1.lin) (r3.1.touch)) else
 (Wd g14 { grain := i.2.2.2.2.2.2.2.2.2.2.2.2.1, size := i.2.2.2.2.2.2.2.2.2.2.2.2.2.1, to := i.2.2.2.2.2.2.2.2.2.2.2.2.2.2.1, usable := i.2.2.2.2.2.2.2.2.2.2.2.2.2.2.2.1, has := i.2.2.2.2.2.2.2.2.2.2.2.2.2.2.2.2 }).bind fun r2 =>
 bif decide (a0 <= r2.1) then ((xa9 g14 { grain := r2.2.grain, size := r2.2.size, to := r2.2.to, usable := r2.2.usable, has := r2.2.has }   { kind := r0.kind, size := r0.size, other := r0.other, ver := r0.ver, live := r0.live, lin := r0.lin } r2.1).bind fun r4 =>
 bif r4.fst.2 then (bif r4.fst.1.e == 0 then (bif r4.fst.2 then (κ1 (r0.size) (r4.fst.1.at_) (r4.fst.1.n) (r4.fst.1.byte) (r4.fst.1.c1) (r4.fst.1.c2) (r4.fst.1.c3) (r4.fst.1.c4) (r4.fst.1.c5) (r4.fst.1.e) (r4.fst.1.lin) (r4.fst.1.touch)) else
 k (r0.size, r4.fst.1.at_, r4.fst.1.n, r4.fst.1.byte, r4.fst.1.c1, r4.fst.1.c2, r4.fst.1.c3, r4.fst.1.c4, r4.fst.1.c5, r4.fst.1.e, r4.fst.1.lin, r4.fst.1.touch, r4.2.grain, r4.2.size, r4.2.to, r4.2.usable, r4.2.has)) else
 bif r4.fst.2 then (κ1 (i.1) (r4.fst.1.at_) (r4.fst.1.n) (r4.fst.1.byte) (r4.fst.1.c1) (r4.fst.1.c2) (r4.fst.1.c3) (r4.fst.1.c4) (r4.fst.1.c5) (r4.fst.1.e) (r4.fst.1.lin) (r4.fst.1.touch)) else
 k (i.1, r4.fst.1.at_, r4.fst.1.n, r4.fst.1.byte, r4.fst.1.c1, r4.fst.1.c2, r4.fst.1.c3, r4.fst.1.c4, r4.fst.1.c5, r4.fst.1.e, r4.fst.1.lin, r4.fst.1.touch, r4.2.grain, r4.2.size, r4.2.to, r4.2.usable, r4.2.has)) else
 bif r4.fst.2 then (κ1 (i.1) (r4.fst.1.at_) (r4.fst.1.n) (r4.fst.1.byte) (r4.fst.1.c1) (r4.fst.1.c2) (r4.fst.1.c3) (r4.fst.1.c4) (r4.fst.1.c5) (r4.fst.1.e) (r4.fst.1.lin) (r4.fst.1.touch)) else
 k (i.1, r4.fst.1.at_, r4.fst.1.n, r4.fst.1.byte, r4.fst.1.c1, r4.fst.1.c2, r4.fst.1.c3, r4.fst.1.c4, r4.fst.1.c5, r4.fst.1.e, r4.fst.1.lin, r4.fst.1.touch, r4.2.grain, r4.2.size, r4.2.to, r4.2.usable, r4.2.has)) else
 (xhD g14 { grain := r2.2.grain, size := r2.2.size, to := r2.2.to, usable := r2.2.usable, has := r2.2.has }   { kind := r0.kind, size := r0.size, other := r0.other, ver := r0.ver, live := r0.live, lin := r0.lin }).bind fun r4 =>
 bif r4.fst.2 then (bif r4.fst.1.e == 0 then (bif r4.fst.2 then (κ1 (r0.size) (r4.fst.1.at_) (r4.fst.1.n) (r4.fst.1.byte) (r4.fst.1.c1) (r4.fst.1.c2) (r4.fst.1.c3) (r4.fst.1.c4) (r4.fst.1.c5) (r4.fst.1.e) (r4.fst.1.lin) (r4.fst.1.touch)) else
 k (r0.size, r4.fst.1.at_, r4.fst.1.n, r4.fst.1.byte, r4.fst.1.c1, r4.fst.1.c2, r4.fst.1.c3, r4.fst.1.c4, r4.fst.1.c5, r4.fst.1.e, r4.fst.1.lin, r4.fst.1.touch, r4.2.grain, r4.2.size, r4.2.to, r4.2.usable, r4.2.has)) else
 bif r4.fst.2 then (κ1 (i.1) (r4.fst.1.at_) (r4.fst.1.n) (r4.fst.1.byte) (r4.fst.1.c1) (r4.fst.1.c2) (r4.fst.1.c3) (r4.fst.1.c4) (r4.fst.1.c5) (r4.fst.1.e) (r4.fst.1.lin) (r4.fst.1.touch)) else
 k (i.1, r4.fst.1.at_, r4.fst.1.n, r4.fst.1.byte, r4.fst.1.c1, r4.fst.1.c2, r4.fst.1.c3, r4.fst.1.c4, r4.fst.1.c5, r4.fst.1.e, r4.fst.1.lin, r4.fst.1.touch, r4.2.grain, r4.2.size, r4.2.to, r4.2.usable, r4.2.has)) else
 bif r4.fst.2 then (κ1 (i.1) (r4.fst.1.at_) (r4.fst.1.n) (r4.fst.1.byte) (r4.fst.1.c1) (r4.fst.1.c2) (r4.fst.1.c3) (r4.fst.1.c4) (r4.fst.1.c5) (r4.fst.1.e) (r4.fst.1.lin) (r4.fst.1.touch)) else
 k (i.1, r4.fst.1.at_, r4.fst.1.n, r4.fst.1.byte, r4.fst.1.c1, r4.fst.1.c2, r4.fst.1.c3, r4.fst.1.c4, r4.fst.1.c5, r4.fst.1.e, r4.fst.1.lin, r4.fst.1.touch, r4.2.grain, r4.2.size, r4.2.to, r4.2.usable, r4.2.has)
def vf (a0 : Int) (g2 g14 : Geo) (a1 a3 a4 a5 a6 a7 a8 a9 a10 a11 a12 a13 a15 a16 a17 a18 : Int) (b19 : Bool) (κ0 : Int -> Int -> Int -> Int -> Int -> Int -> Int -> Int -> Int -> Int -> Int -> T β) (κ1 : Int -> Int -> Int -> Int -> Int -> Int -> Int -> Int -> Int -> Int -> Int -> Int -> T β) : T β := xq xa (ZD a0 g2 g14 κ0 κ1) (a1, a3, a4, a5, a6, a7, a8, a9, a10, a11, a12, a13, a15, a16, a17, a18, b19)
theorem xba {β γ : Type} (a0 : Int) (g2 g14 : Geo) (a1 a3 a4 a5 a6 a7 a8 a9 a10 a11 a12 a13 a15 a16 a17 a18 : Int) (b19 : Bool) (κ0 : Int -> Int -> Int -> Int -> Int -> Int -> Int -> Int -> Int -> Int -> Int -> T β) (κ1 : Int -> Int -> Int -> Int -> Int -> Int -> Int -> Int -> Int -> Int -> Int -> Int -> T β) (κ : β -> T γ) : (vf a0 g2 g14 a1 a3 a4 a5 a6 a7 a8 a9 a10 a11 a12 a13 a15 a16 a17 a18 b19 κ0 κ1).bind κ = vf a0 g2 g14 a1 a3 a4 a5 a6 a7 a8 a9 a10 a11 a12 a13 a15 a16 a17 a18 b19 (fun ae1 ae2 ae3 ae4 ae5 ae6 ae7 ae8 ae9 ae10 ae11 => (κ0 ae1 ae2 ae3 ae4 ae5 ae6 ae7 ae8 ae9 ae10 ae11).bind κ) (fun ae0 ae1 ae2 ae3 ae4 ae5 ae6 ae7 ae8 ae9 ae10 ae11 => (κ1 ae0 ae1 ae2 ae3 ae4 ae5 ae6 ae7 ae8 ae9 ae10 ae11).bind κ) := by
 unfold vf
 refine xj κ (fun i k => ?_) _ _
 unfold ZD
 simp only [bz]
def Ko : Pat := ⟨xm 89 0 [(0, .c (.raw (.port))), (3, .c (.int .i64)), (5, .c (.raw (.ptr 0 0))), (8, .c (.raw (.ptr 1 0))), (9, .c (.int .i64)), (10, .c (.raw (.ptr 2 0)))], [some ⟨[.geo], 24, false, none⟩, some ⟨[.int .i64, .int .i64, .int .u8, .int .u64, .int .u64, .int .u64, .int .u64, .int .u64, .int .i64, .int .i64, .int .i64], 38, false, none⟩, some ⟨[.raw (.port), .geo, .int .i64, .int .i64, .int .i64, .int .i64, .bool], 179, false, none⟩]⟩
def YC : Pat := ⟨xm 89 0 [(8, .c (.raw (.ptr 1 0))), (9, .c (.int .i64))], [none, some ⟨[.int .i64, .int .i64, .int .u8, .int .u64, .int .u64, .int .u64, .int .u64, .int .u64, .int .i64, .int .i64, .int .i64], 38, false, none⟩]⟩
def ji : LF := fun st K => match xt Ko st with
 | some [.i a0, .i a1, .g g2, .i a3, .i a4, .i a5, .i a6, .i a7, .i a8, .i a9, .i a10, .i a11, .i a12, .i a13, .g g14, .i a15, .i a16, .i a17, .i a18, .b b19] => some (vf a0 g2 g14 a1 a3 a4 a5 a6 a7 a8 a9 a10 a11 a12 a13 a15 a16 a17 a18 b19 (fun ae1 ae2 ae3 ae4 ae5 ae6 ae7 ae8 ae9 ae10 ae11 => K (.ret) (xd YC [.i 0, .i ae1, .i ae2, .i ae3, .i ae4, .i ae5, .i ae6, .i ae7, .i ae8, .i ae9, .i ae10, .i ae11])) (fun ae0 ae1 ae2 ae3 ae4 ae5 ae6 ae7 ae8 ae9 ae10 ae11 => K (.ret) (xd YC [.i ae0, .i ae1, .i ae2, .i ae3, .i ae4, .i ae5, .i ae6, .i ae7, .i ae8, .i ae9, .i ae10, .i ae11])))
 | _ => none
theorem xkJ : ∀ st K t, ji st K = some t -> xB xa (lf ka15 xa 0 .no [1, 1, 1, 1, 0] Tryz.f44 K) st = t := by
 intro st K t h
 unfold ji at h
 split at h
 ·rename_i a0 a1 g2 a3 a4 a5 a6 a7 a8 a9 a10 a11 a12 a13 g14 a15 a16 a17 a18 b19 hm
  cases h
  rw [xk hm]
  unfold vf
  exact xu (S := fun (i : Int × Int × Int × Int × Int × Int × Int × Int × Int × Int × Int × Int × Int × Int × Int × Int × Bool) => xd Ko [.i a0, .i (i.1), .g g2, .i (i.2.1), .i (i.2.2.1), .i (i.2.2.2.1), .i (i.2.2.2.2.1), .i (i.2.2.2.2.2.1), .i (i.2.2.2.2.2.2.1), .i (i.2.2.2.2.2.2.2.1), .i (i.2.2.2.2.2.2.2.2.1), .i (i.2.2.2.2.2.2.2.2.2.1), .i (i.2.2.2.2.2.2.2.2.2.2.1), .i (i.2.2.2.2.2.2.2.2.2.2.2.1), .g g14, .i (i.2.2.2.2.2.2.2.2.2.2.2.2.1), .i (i.2.2.2.2.2.2.2.2.2.2.2.2.2.1), .i (i.2.2.2.2.2.2.2.2.2.2.2.2.2.2.1), .i (i.2.2.2.2.2.2.2.2.2.2.2.2.2.2.2.1), .b (i.2.2.2.2.2.2.2.2.2.2.2.2.2.2.2.2)]) (fun i k => by kernel_rfl) xa (a1, a3, a4, a5, a6, a7, a8, a9, a10, a11, a12, a13, a15, a16, a17, a18, b19)
 ·cases h
def Yd (a s : Int) (κ : (Res × Int) -> T β) : T β :=
 bif g.pages == 0 then (κ (⟨(0), (0), (0), (0), (0), (0), (0), (0), (15), (0), (0)⟩, (0))) else
 (XE g a s).bind fun r1 =>
 bif r1 != 0 then (.op (.steps ) fun x3 =>
 (wH g (Rn.mk (i64.wrap (Int.tdiv a 8)) s 0 0 false) (Res.mk 0 0 0 0 0 0 0 0 r1 x3 0)).bind fun r4 =>
 κ (r4.1, (0))) else
 vf (s) (g) (g) (0) (0) (0) (0) (0) (0) (0) (0) (0) (0) (0) (0) (i64.wrap (Int.tdiv a 8)) (s) (0) (0) (false) (fun y3_0 y3_1 y3_2 y3_3 y3_4 y3_5 y3_6 y3_7 y3_8 y3_9 y3_10 =>
 κ (⟨(y3_0), y3_1, y3_2, y3_3, y3_4, y3_5, y3_6, y3_7, y3_8, y3_9, (y3_10)⟩, (0))) (fun y3_0 y3_1 y3_2 y3_3 y3_4 y3_5 y3_6 y3_7 y3_8 y3_9 y3_10 y3_11 =>
 κ (⟨(y3_1), y3_2, y3_3, y3_4, y3_5, y3_6, y3_7, y3_8, y3_9, y3_10, (y3_11)⟩, y3_0))
def jN (a s : Int) : T (Res × Int) := Yd g a s .ret
theorem xgM (a s : Int) (κ : (Res × Int) -> T β) : (jN g a s).bind κ = Yd g a s κ := by
 unfold jN Yd
 simp only [bz, xba]
def xbb : Sm := gS fun
 | g, [.c (.int .i64 s)] => some (mkS (Res) (Yc g s) fun r => some (.agg r.cells, []))
 | _, _ => none
variable {σ : Type} {I : Port Tryz.prog σ}
theorem xbT (hl : SoundL I ka15) : SoundF I 26 xbb := by
 refine gsq hl 1 Tryz.func26 fun g l t ht => ?_
 split at ht
 ·rename_i s
  cases ht
  exact ey (xkI g s _)
 ·cases ht
def qD : Sm := fun
 | [.c .port, .agg gc, .c (.int .i64 a), .c (.int .i64 s)], [] => (match xv gc with
   | some g => some (mkS ((Res × Int)) (jN g a s) fun r => some (.tup [.agg r.1.cells, .c (.int .i64 r.2)], []))
   | _ => none)
 | _, _ => none
theorem xgN : Good Tryz.prog (xo ka15) xa 0 (lsAt ji .no [1, 1, 1, 1, 0]) (Tryz.f44.body.getD .skip) (xr Tryz.f44.results.toList) := xA (xh (by kernel_rfl)) xz xkJ
theorem Kp (hl : SoundL I ka15) : SoundF I 44 qD := by
 refine sq hl xa Tryz.func44 fun _ _ t ht => ?_
 unfold qD at ht
 split at ht
 ·rename_i gc a s
  split at ht
  ·rename_i g hg
   obtain rfl := xe hg
   cases ht
   refine (xD (P := Tryz.prog) (n := xa) (x := (lsAt ji .no [1, 1, 1, 1, 0])) (fn := Tryz.f44) (H := []) (c := Tryz.f44.body.getD .skip) (xh (by kernel_rfl)) xgN).symm.trans ?_
   exact ey (xgM g a s _)
  ·cases ht
 ·cases ht
noncomputable def ka16 : List (Nat × Sm) := (26, xbb) :: (44, qD) :: ka15
theorem xwc : SoundL I ka16 := (.cons (xbT xfj) (.cons (Kp xfj) xfj))
end Lx
namespace Lx
open Go
noncomputable def kI4 : List (Nat × Sm) := (211, inl Tryz.prog (xo ka16) 1 Tryz.f211) :: ka16
variable {σ : Type} {I : Port Tryz.prog σ}
theorem s_kI4 : SoundL I kI4 := .cons (xw xwc 1 Tryz.func211 (by kernel_rfl) (by kernel_rfl)) xwc
noncomputable def kI5 : List (Nat × Sm) := (210, inl Tryz.prog (xo kI4) 1 Tryz.f210) :: kI4
theorem xnQ : SoundL I kI5 := .cons (xw s_kI4 1 Tryz.func210 (by kernel_rfl) (by kernel_rfl)) s_kI4
end Lx
namespace Lx
variable {β : Type} (g : Geo)
open Go
def Kq (a o b : Int) (κ : Res -> T β) : T β :=
 (ZB g a).bind fun r0 =>
 bif !r0.snd.snd.2 then (κ r0.snd.snd.1) else
 bif decide (o < 0) then ((yl (Res.mk 0 0 0 0 0 0 0 0 14 r0.snd.1.lin 0)).bind fun r3 =>
 κ r3) else
 bif decide (o >= r0.snd.1.size) then ((yl (Res.mk 0 0 0 0 0 0 0 0 14 r0.snd.1.lin 0)).bind fun r4 =>
 κ r4) else
 (yl (Res.mk 0 0 0 0 0 0 0 0 0 r0.snd.1.lin 0)).bind fun r4 =>
 .op (.put (i64.wrap (a + o)) (b)) fun _ =>
 .op (.steps ) fun x6 =>
 (yl (Res.mk r4.at_ r4.n 0 r4.c1 r4.c2 r4.c3 r4.c4 r4.c5 r4.e r4.lin x6)).bind fun r7 =>
 κ r7
def Ye (a o b : Int) : T Res := Kq g a o b .ret
theorem xkK (a o b : Int) (κ : Res -> T β) : (Ye g a o b).bind κ = Kq g a o b κ := by
 unfold Ye Kq
 simp only [bz]
def xdd (a o : Int) (κ : Res -> T β) : T β :=
 (ZB g a).bind fun r0 =>
 bif !r0.snd.snd.2 then (κ r0.snd.snd.1) else
 bif decide (o < 0) then ((yl (Res.mk 0 0 0 0 0 0 0 0 14 r0.snd.1.lin 0)).bind fun r3 =>
 κ r3) else
 bif decide (o >= r0.snd.1.size) then ((yl (Res.mk 0 0 0 0 0 0 0 0 14 r0.snd.1.lin 0)).bind fun r4 =>
 κ r4) else
 (yl (Res.mk 0 0 0 0 0 0 0 0 0 r0.snd.1.lin 0)).bind fun r4 =>
 .op (.get (i64.wrap (a + o))) fun x5 =>
 .op (.steps ) fun x6 =>
 (yl (Res.mk r4.at_ r4.n x5 r4.c1 r4.c2 r4.c3 r4.c4 r4.c5 r4.e r4.lin x6)).bind fun r7 =>
 κ r7
def xbc (a o : Int) : T Res := xdd g a o .ret
theorem xnR (a o : Int) (κ : Res -> T β) : (xbc g a o).bind κ = xdd g a o κ := by
 unfold xbc xdd
 simp only [bz]
def Wy (a0 : Int) (g1 : Geo) (a2 a3 a4 a5 a6 a7 a8 a9 a10 a11 a12 : Int) (κ0 : Int -> Int -> Int -> Int -> Int -> Int -> Int -> Int -> Int -> Int -> Int -> T β) (i : Unit) (k : Unit -> T β) : T β :=
 (ZB g1 a0).bind fun r0 =>
 bif !r0.snd.snd.2 then (κ0 (r0.snd.snd.1.at_) (r0.snd.snd.1.n) (r0.snd.snd.1.byte) (r0.snd.snd.1.c1) (r0.snd.snd.1.c2) (r0.snd.snd.1.c3) (r0.snd.snd.1.c4) (r0.snd.snd.1.c5) (r0.snd.snd.1.e) (r0.snd.snd.1.lin) (r0.snd.snd.1.touch)) else
 (vX g1 r0.1).bind fun r2 =>
 (xaA { kind := r2.kind, len := r2.len, cls := r2.cls, owner := r2.owner }).bind fun r3 =>
 .op (.load (atF g1 11 r0.1)) fun x4 =>
 bif x4 == Stt.word { kind := r0.snd.1.kind, size := r0.snd.1.size, other := r0.snd.1.other, ver := r0.snd.1.ver } then (.op (.steps ) fun x6 =>
 (yl   { at_ := 0, n := r3, byte := 0, c1 := 0, c2 := 0, c3 := 0, c4 := 0,     c5 := 0, e := 0, lin := x6, touch := 0 }).bind fun r7 =>
 κ0 (r7.at_) (r7.n) (r7.byte) (r7.c1) (r7.c2) (r7.c3) (r7.c4) (r7.c5) (r7.e) (r7.lin) (r7.touch)) else
 k ()
def vC (a0 : Int) (g1 : Geo) (a2 a3 a4 a5 a6 a7 a8 a9 a10 a11 a12 : Int)  (κ0 : Int -> Int -> Int -> Int -> Int -> Int -> Int -> Int -> Int -> Int -> Int -> T β) : T β := xq xa (Wy a0 g1 a2 a3 a4 a5 a6 a7 a8 a9 a10 a11 a12 κ0) ()
theorem xck {β γ : Type} (a0 : Int) (g1 : Geo) (a2 a3 a4 a5 a6 a7 a8 a9 a10 a11 a12 : Int)  (κ0 : Int -> Int -> Int -> Int -> Int -> Int -> Int -> Int -> Int -> Int -> Int -> T β) (κ : β -> T γ) : (vC a0 g1 a2 a3 a4 a5 a6 a7 a8 a9 a10 a11 a12  κ0).bind κ = vC a0 g1 a2 a3 a4 a5 a6 a7 a8 a9 a10 a11 a12  (fun ae0 ae1 ae2 ae3 ae4 ae5 ae6 ae7 ae8 ae9 ae10 => (κ0 ae0 ae1 ae2 ae3 ae4 ae5 ae6 ae7 ae8 ae9 ae10).bind κ) := by
 unfold vC
 refine xj κ (fun i k => ?_) _ _
 unfold Wy
 simp only [bz]
def xbU : Pat := ⟨xm 47 0 [(0, .c (.raw (.port))), (2, .c (.int .i64)), (4, .c (.raw (.ptr 0 0))), (6, .c (.raw (.ptr 1 0)))], [some ⟨[.geo], 24, false, none⟩, some ⟨[.int .i64, .int .i64, .int .u8, .int .u64, .int .u64, .int .u64, .int .u64, .int .u64, .int .i64, .int .i64, .int .i64], 38, false, none⟩]⟩
def xkL : Pat := ⟨xm 47 0 [(6, .c (.raw (.ptr 1 0)))], [none, some ⟨[.int .i64, .int .i64, .int .u8, .int .u64, .int .u64, .int .u64, .int .u64, .int .u64, .int .i64, .int .i64, .int .i64], 38, false, none⟩]⟩
def qE : LF := fun st K => match xt xbU st with
 | some [.i a0, .g g1, .i a2, .i a3, .i a4, .i a5, .i a6, .i a7, .i a8, .i a9, .i a10, .i a11, .i a12] => some (vC a0 g1 a2 a3 a4 a5 a6 a7 a8 a9 a10 a11 a12  (fun ae0 ae1 ae2 ae3 ae4 ae5 ae6 ae7 ae8 ae9 ae10 => K (.ret) (xd xkL [.i ae0, .i ae1, .i ae2, .i ae3, .i ae4, .i ae5, .i ae6, .i ae7, .i ae8, .i ae9, .i ae10])))
 | _ => none
theorem xnS : ∀ st K t, qE st K = some t -> xB xa (lf kI5 xa 0 .no [1, 0] Tryz.f131 K) st = t := by
 intro st K t h
 unfold qE at h
 split at h
 ·rename_i a0 g1 a2 a3 a4 a5 a6 a7 a8 a9 a10 a11 a12 hm
  cases h
  rw [xk hm]
  unfold vC
  exact xu (S := fun (i : Unit) => xd xbU [.i a0, .g g1, .i a2, .i a3, .i a4, .i a5, .i a6, .i a7, .i a8, .i a9, .i a10, .i a11, .i a12]) (fun i k => by kernel_rfl) xa ()
 ·cases h
def Kr (a : Int) (κ : Res -> T β) : T β :=
 vC (a) (g) (0) (0) (0) (0) (0) (0) (0) (0) (0) (0) (0) (fun y0_0 y0_1 y0_2 y0_3 y0_4 y0_5 y0_6 y0_7 y0_8 y0_9 y0_10 =>
 κ ⟨(y0_0), y0_1, y0_2, y0_3, y0_4, y0_5, y0_6, y0_7, y0_8, y0_9, (y0_10)⟩)
def Yf (a : Int) : T Res := Kr g a .ret
theorem xkM (a : Int) (κ : Res -> T β) : (Yf g a).bind κ = Kr g a κ := by
 unfold Yf Kr
 simp only [bz, xck]
def Ks (c : Cal) (κ : Res -> T β) : T β :=
 (jN g c.at_ c.size).bind fun r0 =>
 bif r0.1.e == 0 then ((wZ g r0.2 c.size).bind fun r2 =>
 κ r0.1) else
 (qn r0.1).bind fun r2 =>
 bif r2 then ((kD g).bind fun r4 =>
 κ r0.1) else
 κ r0.1
def Yg (c : Cal) : T Res := Ks g c .ret
theorem xkN (c : Cal) (κ : Res -> T β) : (Yg g c).bind κ = Ks g c κ := by
 unfold Yg Ks
 simp only [bz]
def xhF : Sm := gS fun
 | g, [.c (.int .i64 a), .c (.int .i64 o), .c (.int .u8 b)] => some (mkS (Res) (Ye g a o b) fun r => some (.agg r.cells, []))
 | _, _ => none
variable {σ : Type} {I : Port Tryz.prog σ}
theorem xnT (hl : SoundL I kI5) : SoundF I 132 xhF := by
 refine gsq hl 1 Tryz.func132 fun g l t ht => ?_
 split at ht
 ·rename_i a o b
  cases ht
  exact ey (xkK g a o b _)
 ·cases ht
def xnU : Sm := gS fun
 | g, [.c (.int .i64 a), .c (.int .i64 o)] => some (mkS (Res) (xbc g a o) fun r => some (.agg r.cells, []))
 | _, _ => none
theorem xra (hl : SoundL I kI5) : SoundF I 133 xnU := by
 refine gsq hl 1 Tryz.func133 fun g l t ht => ?_
 split at ht
 ·rename_i a o
  cases ht
  exact ey (xnR g a o _)
 ·cases ht
def xbd : Sm := fun
 | [.c .port, .agg gc, .c (.int .i64 a)], [] => (match xv gc with
   | some g => some (mkS (Res) (Yf g a) fun r => some (.agg r.cells, []))
   | _ => none)
 | _, _ => none
theorem xkO : Good Tryz.prog (xo kI5) xa 0 (lsAt qE .no [1, 0]) (Tryz.f131.body.getD .skip) (xr Tryz.f131.results.toList) := xA (xh (by kernel_rfl)) xz xnS
theorem xnV (hl : SoundL I kI5) : SoundF I 131 xbd := by
 refine sq hl xa Tryz.func131 fun _ _ t ht => ?_
 unfold xbd at ht
 split at ht
 ·rename_i gc a
  split at ht
  ·rename_i g hg
   obtain rfl := xe hg
   cases ht
   refine (xD (P := Tryz.prog) (n := xa) (x := (lsAt qE .no [1, 0])) (fn := Tryz.f131) (H := []) (c := Tryz.f131.body.getD .skip) (xh (by kernel_rfl)) xkO).symm.trans ?_
   exact ey (xkM g a _)
  ·cases ht
 ·cases ht
def xhG : Sm := gS fun
 | g, [.agg cc] => (match Cal.of cc with
   | some c => some (mkS (Res) (Yg g c) fun r => some (.agg r.cells, []))
   | _ => none)
 | _, _ => none
theorem xnW (hl : SoundL I kI5) : SoundF I 129 xhG := by
 refine gsq hl 1 Tryz.func129 fun g l t ht => ?_
 split at ht
 ·rename_i cc
  split at ht
  ·rename_i c hc
   obtain rfl := Cal.of_eq hc
   cases ht
   exact ey (xkN g c _)
  ·cases ht
 ·cases ht
noncomputable def ka17 : List (Nat × Sm) := (132, xhF) :: (133, xnU) :: (131, xbd) :: (129, xhG) :: kI5
theorem xrb : SoundL I ka17 := (.cons (xnT xnQ) (.cons (xra xnQ) (.cons (xnV xnQ) (.cons (xnW xnQ) xnQ))))
end Lx
namespace Lx
variable {β : Type} (g : Geo)
open Go
def doTK (c : Cal) (κ : Res -> T β) : T β :=
 bif g.pages == 0 then (κ ⟨(0), (0), (0), (0), (0), (0), (0), (0), (1), (0), (0)⟩) else
 .op (.load (atF g 1 0)) fun x1 =>
 bif c.op == 1 then ((Yc g c.size).bind fun r3 =>
 (qy g c r3).bind fun r4 =>
 κ r4) else
 bif c.op == 2 then ((XZ g c.n c.size).bind fun r4 =>
 (qy g c r4).bind fun r5 =>
 κ r5) else
 bif c.op == 3 then ((kL g c.align c.size).bind fun r5 =>
 (qy g c r5).bind fun r6 =>
 κ r6) else
 bif c.op == 4 then ((Yg g c).bind fun r6 =>
 κ r6) else
 bif c.op == 5 then ((Ya g c).bind fun r7 =>
 κ r7) else
 bif c.op == 6 then ((Yf g c.at_).bind fun r8 =>
 κ r8) else
 bif c.op == 7 then ((Ye g c.at_ c.off c.byte).bind fun r9 =>
 κ r9) else
 bif c.op == 8 then ((xbc g c.at_ c.off).bind fun r10 =>
 κ r10) else
 bif c.op == 9 then ((xa6 g).bind fun r11 =>
 (YB (Res.mk 0 0 0 0 0 0 0 0 0 0 0)).bind fun r12 =>
 κ r12) else
 bif c.op == 10 then ((xhB g).bind fun r12 =>
 (YB (Res.mk 0 0 0 0 0 0 0 0 r12 0 0)).bind fun r13 =>
 κ r13) else
 bif c.op == 11 then ((xen g).bind fun r13 =>
 (YB (Res.mk 0 0 0 r13.allocs r13.frees r13.failures r13.live r13.bytes 0 0 0)).bind fun r14 =>
 κ r14) else
 (YB (Res.mk 0 0 0 0 0 0 0 0 1 0 0)).bind fun r13 =>
 κ r13
def doT (c : Cal) : T Res := doTK g c .ret
theorem xwd (c : Cal) (κ : Res -> T β) : (doT g c).bind κ = doTK g c κ := by
 unfold doT doTK
 simp only [bz]
def m_doT : Sm := gS fun
 | g, [.agg cc] => (match Cal.of cc with
   | some c => some (mkS (Res) (doT g c) fun r => some (.agg r.cells, []))
   | _ => none)
 | _, _ => none
variable {σ : Type} {I : Port Tryz.prog σ}
theorem xsL (hl : SoundL I ka17) : SoundF I 57 m_doT := by
 refine gsq hl 1 Tryz.func57 fun g l t ht => ?_
 split at ht
 ·rename_i cc
  split at ht
  ·rename_i c hc
   obtain rfl := Cal.of_eq hc
   cases ht
   exact ey (xwd g c _)
  ·cases ht
 ·cases ht
noncomputable def ka18 : List (Nat × Sm) := (57, m_doT) :: ka17
theorem xrc : SoundL I ka18 := (.cons (xsL xrb) xrb)
end Lx
end Go.Proofs.YtaegelbaghaooaaGreat
