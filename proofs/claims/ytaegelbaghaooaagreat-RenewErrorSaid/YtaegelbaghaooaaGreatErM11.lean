/- Summaries: central. (trees printed by program, wip/auto.py) -/
import Derived.Test.YtaegelbaghaooaaGreatErQI
import Derived.WalkKit
set_option linter.all false
open Go.IntKind (i64 u64 u32 u8)
namespace Go.Proofs.YtaegelbaghaooaaGreat.Lx
open Go
set_option maxRecDepth 1000000
def Vg {β : Type} (g : Geo) (c : Int) (κ : (Int × Int) -> T β) : T β :=
 (qP g).bind fun r0 =>
 bif r0 then (κ ((0), (15))) else
 bif decide (c < 0) then (κ ((0), (15))) else
 bif decide (c >= 4) then (κ ((0), (15))) else
 .op (.load (atF g 1 0)) fun x4 =>
 (Xp g 0 c).bind fun r5 =>
 bif !r5.1.ok then (bif r5.1.e == 0 then ((Zv g r5.2).bind fun r8 =>
 bif !r8.1 then (κ ((0), (5))) else
 (jF g r8.2 c).bind fun r10 =>
 bif r10.1.e != 0 then (κ ((0), (r10.1.e))) else
 bif r10.1.ok then (κ ((r10.1.grain), (0))) else
 .op (.load (atF g 1 0)) fun x13 =>
 bif x13 == u64.wrap (x4 + r10.2) then (κ ((0), (15))) else
 .fail) else
 bif r5.1.e != 0 then (κ ((0), (r5.1.e))) else
 bif r5.1.ok then (κ ((r5.1.grain), (0))) else
 .op (.load (atF g 1 0)) fun x10 =>
 bif x10 == u64.wrap (x4 + r5.2) then (κ ((0), (15))) else
 .fail) else
 bif r5.1.e != 0 then (κ ((0), (r5.1.e))) else
 bif r5.1.ok then (κ ((r5.1.grain), (0))) else
 .op (.load (atF g 1 0)) fun x9 =>
 bif x9 == u64.wrap (x4 + r5.2) then (κ ((0), (15))) else
 .fail
def qw (g : Geo) (c : Int) : T (Int × Int) := Vg g c .ret
theorem xhc {β : Type} (g : Geo) (c : Int) (κ : (Int × Int) -> T β) : (qw g c).bind κ = Vg g c κ := by
 unfold qw Vg
 first | rfl | (simp only [xa, xb, xe, xc, T.bind_assoc])
def xbM {β : Type} (g : Geo) (k a : Int) (κ : (Int × Int) -> T β) : T β :=
 (qP g).bind fun r0 =>
 bif r0 then (κ ((0), (15))) else
 bif decide (k < 1) then (κ ((0), (15))) else
 bif decide (a < 1) then (κ ((0), (15))) else
 .op (.load (atF g 1 0)) fun x4 =>
 (xeL g 0 k a).bind fun r5 =>
 bif !r5.1.ok then (bif r5.1.e == 0 then ((Zv g r5.2).bind fun r8 =>
 bif !r8.1 then (κ ((0), (5))) else
 (xeL g r8.2 k a).bind fun r10 =>
 bif r10.1.e != 0 then (κ ((0), (r10.1.e))) else
 bif r10.1.ok then (κ ((r10.1.grain), (0))) else
 .op (.load (atF g 1 0)) fun x13 =>
 bif x13 == u64.wrap (x4 + r10.2) then (κ ((0), (15))) else
 .fail) else
 bif r5.1.e != 0 then (κ ((0), (r5.1.e))) else
 bif r5.1.ok then (κ ((r5.1.grain), (0))) else
 .op (.load (atF g 1 0)) fun x10 =>
 bif x10 == u64.wrap (x4 + r5.2) then (κ ((0), (15))) else
 .fail) else
 bif r5.1.e != 0 then (κ ((0), (r5.1.e))) else
 bif r5.1.ok then (κ ((r5.1.grain), (0))) else
 .op (.load (atF g 1 0)) fun x9 =>
 bif x9 == u64.wrap (x4 + r5.2) then (κ ((0), (15))) else
 .fail
def YM (g : Geo) (k a : Int) : T (Int × Int) := xbM g k a .ret
theorem xj0 {β : Type} (g : Geo) (k a : Int) (κ : (Int × Int) -> T β) : (YM g k a).bind κ = xbM g k a κ := by
 unfold YM xbM
 first | rfl | (simp only [xa, xb, xe, xc, T.bind_assoc])
def Vh {β : Type} (g : Geo) (κ : (Int × Bool) -> T β) : T β :=
 (qP g).bind fun r0 =>
 bif r0 then (κ ((0), (false))) else
 (Zv g 0).bind fun r2 =>
 κ ((r2.2), (r2.1))
def Vi (g : Geo) : T (Int × Bool) := Vh g .ret
theorem xhd {β : Type} (g : Geo) (κ : (Int × Bool) -> T β) : (Vi g).bind κ = Vh g κ := by
 unfold Vi Vh
 first | rfl | (simp only [xa, xb, xe, xc, T.bind_assoc])
def KI : Sm := fun args H => match args, H with
 | [.c .port, .agg gc, .c (.int .i64 c)], [] => (match xr gc with
   | some g => some (mkS ((Int × Int)) (qw g c) fun r => some (.tup [.c (.int .i64 r.1), .c (.int .i64 r.2)], []))
   | _ => none)
 | _, _ => none
variable {σ : Type} {I : Port Tryz.prog σ}
theorem xj1 (hl : SoundL I kI3) : SoundF I 76 KI := by
 refine sq hl 1 Tryz.func76 fun args H t ht => ?_
 unfold KI at ht
 split at ht
 ·rename_i gc c
  split at ht
  ·rename_i g hg
   obtain rfl := xi hg
   cases ht
   refine Eq.trans ?_ (xhc g c _).symm
   kernel_rfl
  ·cases ht
 ·cases ht
def xcW : Sm := fun args H => match args, H with
 | [.c .port, .agg gc, .c (.int .i64 k), .c (.int .i64 a)], [] => (match xr gc with
   | some g => some (mkS ((Int × Int)) (YM g k a) fun r => some (.tup [.c (.int .i64 r.1), .c (.int .i64 r.2)], []))
   | _ => none)
 | _, _ => none
theorem xmV (hl : SoundL I kI3) : SoundF I 79 xcW := by
 refine sq hl 1 Tryz.func79 fun args H t ht => ?_
 unfold xcW at ht
 split at ht
 ·rename_i gc k a
  split at ht
  ·rename_i g hg
   obtain rfl := xi hg
   cases ht
   refine Eq.trans ?_ (xj0 g k a _).symm
   kernel_rfl
  ·cases ht
 ·cases ht
def KJ : Sm := fun args H => match args, H with
 | [.c .port, .agg gc], [] => (match xr gc with
   | some g => some (mkS ((Int × Bool)) (Vi g) fun r => some (.tup [.c (.int .u64 r.1), .c (.bool r.2)], []))
   | _ => none)
 | _, _ => none
theorem xj2 (hl : SoundL I kI3) : SoundF I 92 KJ := by
 refine sq hl 1 Tryz.func92 fun args H t ht => ?_
 unfold KJ at ht
 split at ht
 ·rename_i gc
  split at ht
  ·rename_i g hg
   obtain rfl := xi hg
   cases ht
   refine Eq.trans ?_ (xhd g _).symm
   kernel_rfl
  ·cases ht
 ·cases ht
noncomputable def ka13 : List (Nat × Sm) := (76, KI) :: (79, xcW) :: (92, KJ) :: kI3
theorem Zw : SoundL I ka13 := (.cons (xj1 xpO) (.cons (xmV xpO) (.cons (xj2 xpO) xpO)))
end Go.Proofs.YtaegelbaghaooaaGreat.Lx
namespace Go.Proofs.YtaegelbaghaooaaGreat.Lx
open Go
set_option maxRecDepth 1000000
def xbN {β : Type} (g : Geo) (s a : Int) (κ : (Int × Int × Int) -> T β) : T β :=
 bif g.pages == 0 then (κ ((0), (0), (15))) else
 bif decide (s < 1) then (κ ((0), (0), (11))) else
 bif decide (s > i64.wrap (g.pages * 64)) then (κ ((0), (0), (11))) else
 (XK a).bind fun r3 =>
 bif !r3 then (κ ((0), (0), (12))) else
 (cofT s a).bind fun r5 =>
 bif decide (r5 >= 0) then ((qw g r5).bind fun r7 =>
 bif decide (0 <= r5 /\ r5 < 4) then (bif r7.2 != 0 then (κ ((0), (0), (r7.2))) else
 κ ((r7.1), (bif r5 == 0 then (8 : Int) else bif r5 == 1 then (16 : Int) else bif r5 == 2 then (24 : Int) else (32 : Int)), (0))) else
 .fail) else
 (qa s).bind fun r7 =>
 (YM g r7 (if i64.wrap (Int.tdiv a 64) < 1 then (1 : Int) else i64.wrap (Int.tdiv a 64))).bind fun r8 =>
 bif r8.2 != 0 then (κ ((0), (0), (r8.2))) else
 κ ((r8.1), (i64.wrap (r7 * 64)), (0))
def YN (g : Geo) (s a : Int) : T (Int × Int × Int) := xbN g s a .ret
theorem xj3 {β : Type} (g : Geo) (s a : Int) (κ : (Int × Int × Int) -> T β) : (YN g s a).bind κ = xbN g s a κ := by
 unfold YN xbN
 first | rfl | (simp only [xa, xb, xe, xc, T.bind_assoc])
def xhe {β : Type} (g : Geo) (κ : Int -> T β) : T β :=
 (Vi g).bind fun r0 =>
 bif !r0.2 then (κ (5)) else
 κ (0)
def Zl (g : Geo) : T Int := xhe g .ret
theorem xmW {β : Type} (g : Geo) (κ : Int -> T β) : (Zl g).bind κ = xhe g κ := by
 unfold Zl xhe
 first | rfl | (simp only [xa, xb, xe, xc, T.bind_assoc])
def xbO {β : Type} (g : Geo) (x : Rn) (κ : (Unit × Rn) -> T β) : T β :=
 bif x.has then ((vL g x.to).bind fun r1 =>
 κ ((), ⟨(x.grain), (x.size), (x.to), (x.usable), (false)⟩)) else
 κ ((), ⟨(x.grain), (x.size), (x.to), (x.usable), (false)⟩)
def YO (g : Geo) (x : Rn) : T (Unit × Rn) := xbO g x .ret
theorem xj4 {β : Type} (g : Geo) (x : Rn) (κ : (Unit × Rn) -> T β) : (YO g x).bind κ = xbO g x κ := by
 unfold YO xbO
 first | rfl | (simp only [xa, xb, xe, xc, T.bind_assoc])
def xbP {β : Type} (g : Geo) (a : Int) (κ : Res -> T β) : T β :=
 bif g.pages == 0 then (κ ⟨(0), (0), (0), (0), (0), (0), (0), (0), (15), (0), (0)⟩) else
 bif decide (a < 0) then (.op (.steps ) fun x2 =>
 (jt 13 x2).bind fun r3 =>
 κ ⟨(r3.at_), (r3.n), (r3.byte), (r3.c1), (r3.c2), (r3.c3), (r3.c4), (r3.c5), (r3.e), (r3.lin), (r3.touch)⟩) else
 bif decide (a >= i64.wrap (g.pages * 64)) then (.op (.steps ) fun x3 =>
 (jt 13 x3).bind fun r4 =>
 κ ⟨(r4.at_), (r4.n), (r4.byte), (r4.c1), (r4.c2), (r4.c3), (r4.c4), (r4.c5), (r4.e), (r4.lin), (r4.touch)⟩) else
 bif Int.tmod a 8 != 0 then (.op (.steps ) fun x4 =>
 (jt 13 x4).bind fun r5 =>
 κ ⟨(r5.at_), (r5.n), (r5.byte), (r5.c1), (r5.c2), (r5.c3), (r5.c4), (r5.c5), (r5.e), (r5.lin), (r5.touch)⟩) else
 (xaE g (i64.wrap (Int.tdiv a 8))).bind fun r4 =>
 bif !r4.live then ((jt 13 r4.lin).bind fun r6 =>
 κ ⟨(r6.at_), (r6.n), (r6.byte), (r6.c1), (r6.c2), (r6.c3), (r6.c4), (r6.c5), (r6.e), (r6.lin), (r6.touch)⟩) else
 .op (.tell [.int .i64 (0), .int .i64 (r4.size), .int .u8 (0), .int .u64 (0), .int .u64 (0), .int .u64 (0), .int .u64 (0), .int .u64 (0), .int .i64 (0), .int .i64 (r4.lin), .int .i64 (0)]) fun _ =>
 (vL g (i64.wrap (Int.tdiv a 8))).bind fun r7 =>
 κ ⟨(0), (r4.size), (0), (0), (0), (0), (0), (0), (0), (r4.lin), (0)⟩
def KK (g : Geo) (a : Int) : T Res := xbP g a .ret
theorem xj5 {β : Type} (g : Geo) (a : Int) (κ : Res -> T β) : (KK g a).bind κ = xbP g a κ := by
 unfold KK xbP
 first | rfl | (simp only [xa, xb, xe, xc, T.bind_assoc])
def Vj : Sm := fun args H => match args, H with
 | [.c .port, .agg gc, .c (.int .i64 s), .c (.int .i64 a)], [] => (match xr gc with
   | some g => some (mkS ((Int × Int × Int)) (YN g s a) fun r => some (.tup [.c (.int .i64 r.1), .c (.int .i64 r.2.1), .c (.int .i64 r.2.2)], []))
   | _ => none)
 | _, _ => none
variable {σ : Type} {I : Port Tryz.prog σ}
theorem xcX (hl : SoundL I ka13) : SoundF I 21 Vj := by
 refine sq hl 1 Tryz.func21 fun args H t ht => ?_
 unfold Vj at ht
 split at ht
 ·rename_i gc s a
  split at ht
  ·rename_i g hg
   obtain rfl := xi hg
   cases ht
   refine Eq.trans ?_ (xj3 g s a _).symm
   kernel_rfl
  ·cases ht
 ·cases ht
def xbQ : Sm := fun args H => match args, H with
 | [.c .port, .agg gc], [] => (match xr gc with
   | some g => some (mkS (Int) (Zl g) fun r => some (.c (.int .i64 r), []))
   | _ => none)
 | _, _ => none
theorem xfQ (hl : SoundL I ka13) : SoundF I 28 xbQ := by
 refine sq hl 1 Tryz.func28 fun args H t ht => ?_
 unfold xbQ at ht
 split at ht
 ·rename_i gc
  split at ht
  ·rename_i g hg
   obtain rfl := xi hg
   cases ht
   refine Eq.trans ?_ (xmW g _).symm
   kernel_rfl
  ·cases ht
 ·cases ht
def xcY : Sm := fun args H => match args, H with
 | [.c (.ptr 0 0)], [some ⟨.port :: gc, 179, false, none⟩] => (match rnOf gc with
   | some (g, x) => some (mkS ((Unit × Rn)) (YO g x) fun r => some (.tup [], [some ⟨.port :: (g.cells ++ r.2.cells), 179, false, none⟩]))
   | _ => none)
 | _, _ => none
theorem xmX (hl : SoundL I ka13) : SoundF I 116 xcY := by
 refine sq hl 1 Tryz.func116 fun args H t ht => ?_
 unfold xcY at ht
 split at ht
 ·rename_i gc
  split at ht
  ·rename_i g x hg
   obtain rfl := Yp hg
   cases ht
   refine Eq.trans ?_ (xj4 g x _).symm
   kernel_rfl
  ·cases ht
 ·cases ht
def Vk : Sm := fun args H => match args, H with
 | [.c .port, .agg gc, .c (.int .i64 a)], [] => (match xr gc with
   | some g => some (mkS (Res) (KK g a) fun r => some (.agg r.cells, []))
   | _ => none)
 | _, _ => none
theorem xcZ (hl : SoundL I ka13) : SoundF I 25 Vk := by
 refine sq hl 1 Tryz.func25 fun args H t ht => ?_
 unfold Vk at ht
 split at ht
 ·rename_i gc a
  split at ht
  ·rename_i g hg
   obtain rfl := xi hg
   cases ht
   refine Eq.trans ?_ (xj5 g a _).symm
   kernel_rfl
  ·cases ht
 ·cases ht
noncomputable def ka14 : List (Nat × Sm) := (21, Vj) :: (28, xbQ) :: (116, xcY) :: (25, Vk) :: ka13
theorem xc0 : SoundL I ka14 := (.cons (xcX Zw) (.cons (xfQ Zw) (.cons (xmX Zw) (.cons (xcZ Zw) Zw))))
end Go.Proofs.YtaegelbaghaooaaGreat.Lx
namespace Go.Proofs.YtaegelbaghaooaaGreat.Lx
open Go
set_option maxRecDepth 1000000
def Xr {β : Type} (g : Geo) (a s : Int) (κ : Res -> T β) : T β :=
 bif g.pages == 0 then (κ ⟨(0), (0), (0), (0), (0), (0), (0), (0), (15), (0), (0)⟩) else
 (YN g s a).bind fun r1 =>
 bif r1.snd.2 != 0 then (.op (.steps ) fun x3 =>
 (jt r1.snd.2 x3).bind fun r4 =>
 κ ⟨(r4.at_), (r4.n), (r4.byte), (r4.c1), (r4.c2), (r4.c3), (r4.c4), (r4.c5), (r4.e), (r4.lin), (r4.touch)⟩) else
 (xlL g r1.1 r1.snd.1 s).bind fun r3 =>
 κ ⟨(r3.at_), (r3.n), (r3.byte), (r3.c1), (r3.c2), (r3.c3), (r3.c4), (r3.c5), (r3.e), (r3.lin), (r3.touch)⟩
def jG (g : Geo) (a s : Int) : T Res := Xr g a s .ret
theorem xe2 {β : Type} (g : Geo) (a s : Int) (κ : Res -> T β) : (jG g a s).bind κ = Xr g a s κ := by
 unfold jG Xr
 first | rfl | (simp only [xa, xb, xe, xc, T.bind_assoc])
def xbR {β : Type} (g : Geo) (x : Rn) (se : Seen) (rm : Int) (κ : ((Res × Bool) × Rn) -> T β) : T β :=
 (XM g x.grain (Stt.mk se.kind se.size se.other se.ver) x.size).bind fun r0 =>
 bif !r0 then (κ ((⟨(0), (0), (0), (0), (0), (0), (0), (0), (0), (0), (0)⟩, (false)), ⟨(x.grain), (x.size), (x.to), (x.usable), (x.has)⟩)) else
 .op (.steps ) fun x2 =>
 (wB g (Rn.mk x.grain x.size x.to x.usable x.has) (Res.mk (i64.wrap (x.grain * 8)) rm 0 0 0 0 0 0 0 x2 0)).bind fun r3 =>
 (YO g (Rn.mk r3.2.grain r3.2.size r3.2.to r3.2.usable r3.2.has)).bind fun r4 =>
 κ ((⟨(r3.1.at_), (r3.1.n), (r3.1.byte), (r3.1.c1), (r3.1.c2), (r3.1.c3), (r3.1.c4), (r3.1.c5), (r3.1.e), (r3.1.lin), (r3.1.touch)⟩, (true)), ⟨(r4.2.grain), (r4.2.size), (r4.2.to), (r4.2.usable), (r4.2.has)⟩)
def KL (g : Geo) (x : Rn) (se : Seen) (rm : Int) : T ((Res × Bool) × Rn) := xbR g x se rm .ret
theorem xj6 {β : Type} (g : Geo) (x : Rn) (se : Seen) (rm : Int) (κ : ((Res × Bool) × Rn) -> T β) : (KL g x se rm).bind κ = xbR g x se rm κ := by
 unfold KL xbR
 first | rfl | (simp only [xa, xb, xe, xc, T.bind_assoc])
def xhf {β : Type} (g : Geo) (x : Rn) (se : Seen) (κ : ((Res × Bool) × Rn) -> T β) : T β :=
 bif !x.has then ((YN g x.size 1).bind fun r1 =>
 bif r1.snd.2 != 0 then ((wB g (Rn.mk x.grain x.size x.to x.usable x.has) (Res.mk 0 0 0 0 0 0 0 0 r1.snd.2 se.lin 0)).bind fun r3 =>
 κ ((⟨(r3.1.at_), (r3.1.n), (r3.1.byte), (r3.1.c1), (r3.1.c2), (r3.1.c3), (r3.1.c4), (r3.1.c5), (r3.1.e), (r3.1.lin), (r3.1.touch)⟩, (true)), ⟨(r3.2.grain), (r3.2.size), (r3.2.to), (r3.2.usable), (r3.2.has)⟩)) else
 (jj g (Rn.mk x.grain x.size r1.1 r1.snd.1 true) (if x.size < se.size then x.size else se.size)).bind fun r3 =>
 (kI g r3.2.to r3.2.grain r3.2.size).bind fun r4 =>
 (xd1 g r3.2.grain (Stt.mk se.kind se.size se.other se.ver) r3.2.to r4).bind fun r5 =>
 bif !r5 then ((xd2 g r3.2.to).bind fun r7 =>
 κ ((⟨(0), (0), (0), (0), (0), (0), (0), (0), (0), (0), (0)⟩, (false)), ⟨(r3.2.grain), (r3.2.size), (r3.2.to), (r3.2.usable), (r3.2.has)⟩)) else
 .op (.steps ) fun x7 =>
 (wB g (Rn.mk r3.2.grain r3.2.size r3.2.to r3.2.usable r3.2.has) (Res.mk (i64.wrap (r3.2.to * 8)) r3.2.usable 0 0 0 0 0 0 0 x7 0)).bind fun r8 =>
 (qQ g r8.2.to r8.2.grain r8.2.size r4).bind fun r9 =>
 (vL g r8.2.grain).bind fun r10 =>
 κ ((⟨(r8.1.at_), (r8.1.n), (r8.1.byte), (r8.1.c1), (r8.1.c2), (r8.1.c3), (r8.1.c4), (r8.1.c5), (r8.1.e), (r8.1.lin), (r8.1.touch)⟩, (true)), ⟨(r8.2.grain), (r8.2.size), (r8.2.to), (r8.2.usable), (r8.2.has)⟩)) else
 (jj g (Rn.mk x.grain x.size x.to x.usable x.has) (if x.size < se.size then x.size else se.size)).bind fun r1 =>
 (kI g r1.2.to r1.2.grain r1.2.size).bind fun r2 =>
 (xd1 g r1.2.grain (Stt.mk se.kind se.size se.other se.ver) r1.2.to r2).bind fun r3 =>
 bif !r3 then ((xd2 g r1.2.to).bind fun r5 =>
 κ ((⟨(0), (0), (0), (0), (0), (0), (0), (0), (0), (0), (0)⟩, (false)), ⟨(r1.2.grain), (r1.2.size), (r1.2.to), (r1.2.usable), (r1.2.has)⟩)) else
 .op (.steps ) fun x5 =>
 (wB g (Rn.mk r1.2.grain r1.2.size r1.2.to r1.2.usable r1.2.has) (Res.mk (i64.wrap (r1.2.to * 8)) r1.2.usable 0 0 0 0 0 0 0 x5 0)).bind fun r6 =>
 (qQ g r6.2.to r6.2.grain r6.2.size r2).bind fun r7 =>
 (vL g r6.2.grain).bind fun r8 =>
 κ ((⟨(r6.1.at_), (r6.1.n), (r6.1.byte), (r6.1.c1), (r6.1.c2), (r6.1.c3), (r6.1.c4), (r6.1.c5), (r6.1.e), (r6.1.lin), (r6.1.touch)⟩, (true)), ⟨(r6.2.grain), (r6.2.size), (r6.2.to), (r6.2.usable), (r6.2.has)⟩)
def xfR (g : Geo) (x : Rn) (se : Seen) : T ((Res × Bool) × Rn) := xhf g x se .ret
theorem xmY {β : Type} (g : Geo) (x : Rn) (se : Seen) (κ : ((Res × Bool) × Rn) -> T β) : (xfR g x se).bind κ = xhf g x se κ := by
 unfold xfR xhf
 first | rfl | (simp only [xa, xb, xe, xc, T.bind_assoc])
def qx : Sm := fun args H => match args, H with
 | [.c .port, .agg gc, .c (.int .i64 a), .c (.int .i64 s)], [] => (match xr gc with
   | some g => some (mkS (Res) (jG g a s) fun r => some (.agg r.cells, []))
   | _ => none)
 | _, _ => none
variable {σ : Type} {I : Port Tryz.prog σ}
theorem Vl (hl : SoundL I ka14) : SoundF I 22 qx := by
 refine sq hl 1 Tryz.func22 fun args H t ht => ?_
 unfold qx at ht
 split at ht
 ·rename_i gc a s
  split at ht
  ·rename_i g hg
   obtain rfl := xi hg
   cases ht
   refine Eq.trans ?_ (xe2 g a s _).symm
   kernel_rfl
  ·cases ht
 ·cases ht
def xc1 : Sm := fun args H => match args, H with
 | [.c (.ptr 0 0), .agg sec, .c (.int .i64 rm)], [some ⟨.port :: gc, 179, false, none⟩] => (match rnOf gc with
   | some (g, x) => (match Seen.of sec with
   | some se => some (mkS (((Res × Bool) × Rn)) (KL g x se rm) fun r => some (.tup [.agg r.1.1.cells, .c (.bool r.1.2)], [some ⟨.port :: (g.cells ++ r.2.cells), 179, false, none⟩]))
   | _ => none)
   | _ => none)
 | _, _ => none
theorem xmZ (hl : SoundL I ka14) : SoundF I 118 xc1 := by
 refine sq hl 1 Tryz.func118 fun args H t ht => ?_
 unfold xc1 at ht
 split at ht
 ·rename_i sec rm gc
  split at ht
  ·rename_i g x hg
   obtain rfl := Yp hg
   split at ht
   ·rename_i se hse
    obtain rfl := Seen.of_eq hse
    cases ht
    refine Eq.trans ?_ (xj6 g x se rm _).symm
    kernel_rfl
   ·cases ht
  ·cases ht
 ·cases ht
def xhg : Sm := fun args H => match args, H with
 | [.c (.ptr 0 0), .agg sec], [some ⟨.port :: gc, 179, false, none⟩] => (match rnOf gc with
   | some (g, x) => (match Seen.of sec with
   | some se => some (mkS (((Res × Bool) × Rn)) (xfR g x se) fun r => some (.tup [.agg r.1.1.cells, .c (.bool r.1.2)], [some ⟨.port :: (g.cells ++ r.2.cells), 179, false, none⟩]))
   | _ => none)
   | _ => none)
 | _, _ => none
theorem xqe (hl : SoundL I ka14) : SoundF I 119 xhg := by
 refine sq hl 1 Tryz.func119 fun args H t ht => ?_
 unfold xhg at ht
 split at ht
 ·rename_i sec gc
  split at ht
  ·rename_i g x hg
   obtain rfl := Yp hg
   split at ht
   ·rename_i se hse
    obtain rfl := Seen.of_eq hse
    cases ht
    refine Eq.trans ?_ (xmY g x se _).symm
    kernel_rfl
   ·cases ht
  ·cases ht
 ·cases ht
noncomputable def ka15 : List (Nat × Sm) := (22, qx) :: (118, xc1) :: (119, xhg) :: ka14
theorem xc2 : SoundL I ka15 := (.cons (Vl xc0) (.cons (xmZ xc0) (.cons (xqe xc0) xc0)))
end Go.Proofs.YtaegelbaghaooaaGreat.Lx
namespace Go.Proofs.YtaegelbaghaooaaGreat.Lx
open Go
set_option maxRecDepth 1000000
def Vm {β : Type} (g : Geo) (s : Int) (κ : Res -> T β) : T β :=
 (jG g 1 s).bind fun r0 =>
 κ ⟨(r0.at_), (r0.n), (r0.byte), (r0.c1), (r0.c2), (r0.c3), (r0.c4), (r0.c5), (r0.e), (r0.lin), (r0.touch)⟩
def wI (g : Geo) (s : Int) : T Res := Vm g s .ret
theorem xhh {β : Type} (g : Geo) (s : Int) (κ : Res -> T β) : (wI g s).bind κ = Vm g s κ := by
 unfold wI Vm
 first | rfl | (simp only [xa, xb, xe, xc, T.bind_assoc])
def kR {β : Type} (a0 : Int) (g2 g14 : Geo) (κ0 : Int -> Int -> Int -> Int -> Int -> Int -> Int -> Int -> Int -> Int -> Int -> T β) (κ1 : Int -> Int -> Int -> Int -> Int -> Int -> Int -> Int -> Int -> Int -> Int -> Int -> T β) (i : Int × Int × Int × Int × Int × Int × Int × Int × Int × Int × Int × Int × Int × Int × Int × Int × Bool) (k : Int × Int × Int × Int × Int × Int × Int × Int × Int × Int × Int × Int × Int × Int × Int × Int × Bool -> T β) : T β :=
 (xbl g2 i.2.2.2.2.2.2.2.2.2.2.2.2.1).bind fun r0 =>
 bif !r0.live then ((YO g14 { grain := i.2.2.2.2.2.2.2.2.2.2.2.2.1, size := i.2.2.2.2.2.2.2.2.2.2.2.2.2.1, to := i.2.2.2.2.2.2.2.2.2.2.2.2.2.2.1, usable := i.2.2.2.2.2.2.2.2.2.2.2.2.2.2.2.1, has := i.2.2.2.2.2.2.2.2.2.2.2.2.2.2.2.2 }).bind fun r2 =>
 (wB g14 { grain := r2.2.grain, size := r2.2.size, to := r2.2.to, usable := r2.2.usable, has := r2.2.has }   { at_ := 0, n := 0, byte := 0, c1 := 0, c2 := 0, c3 := 0,     c4 := 0, c5 := 0, e := 13, lin := r0.lin, touch := 0 }).bind fun r3 =>
 κ0 (r3.1.at_) (r3.1.n) (r3.1.byte) (r3.1.c1) (r3.1.c2) (r3.1.c3) (r3.1.c4) (r3.1.c5) (r3.1.e) (r3.1.lin) (r3.1.touch)) else
 (xaL g14 { grain := i.2.2.2.2.2.2.2.2.2.2.2.2.1, size := i.2.2.2.2.2.2.2.2.2.2.2.2.2.1, to := i.2.2.2.2.2.2.2.2.2.2.2.2.2.2.1, usable := i.2.2.2.2.2.2.2.2.2.2.2.2.2.2.2.1, has := i.2.2.2.2.2.2.2.2.2.2.2.2.2.2.2.2 }).bind fun r2 =>
 bif decide (a0 <= r2.1) then ((KL g14 { grain := r2.2.grain, size := r2.2.size, to := r2.2.to, usable := r2.2.usable, has := r2.2.has }   { kind := r0.kind, size := r0.size, other := r0.other, ver := r0.ver, live := r0.live, lin := r0.lin } r2.1).bind fun r4 =>
 bif r4.fst.2 then (bif r4.fst.1.e == 0 then (bif r4.fst.2 then (κ1 (r0.size) (r4.fst.1.at_) (r4.fst.1.n) (r4.fst.1.byte) (r4.fst.1.c1) (r4.fst.1.c2) (r4.fst.1.c3) (r4.fst.1.c4) (r4.fst.1.c5) (r4.fst.1.e) (r4.fst.1.lin) (r4.fst.1.touch)) else
 k (r0.size, r4.fst.1.at_, r4.fst.1.n, r4.fst.1.byte, r4.fst.1.c1, r4.fst.1.c2, r4.fst.1.c3, r4.fst.1.c4, r4.fst.1.c5, r4.fst.1.e, r4.fst.1.lin, r4.fst.1.touch, r4.2.grain, r4.2.size, r4.2.to, r4.2.usable, r4.2.has)) else
 bif r4.fst.2 then (κ1 (i.1) (r4.fst.1.at_) (r4.fst.1.n) (r4.fst.1.byte) (r4.fst.1.c1) (r4.fst.1.c2) (r4.fst.1.c3) (r4.fst.1.c4) (r4.fst.1.c5) (r4.fst.1.e) (r4.fst.1.lin) (r4.fst.1.touch)) else
 k (i.1, r4.fst.1.at_, r4.fst.1.n, r4.fst.1.byte, r4.fst.1.c1, r4.fst.1.c2, r4.fst.1.c3, r4.fst.1.c4, r4.fst.1.c5, r4.fst.1.e, r4.fst.1.lin, r4.fst.1.touch, r4.2.grain, r4.2.size, r4.2.to, r4.2.usable, r4.2.has)) else
 bif r4.fst.2 then (κ1 (i.1) (r4.fst.1.at_) (r4.fst.1.n) (r4.fst.1.byte) (r4.fst.1.c1) (r4.fst.1.c2) (r4.fst.1.c3) (r4.fst.1.c4) (r4.fst.1.c5) (r4.fst.1.e) (r4.fst.1.lin) (r4.fst.1.touch)) else
 k (i.1, r4.fst.1.at_, r4.fst.1.n, r4.fst.1.byte, r4.fst.1.c1, r4.fst.1.c2, r4.fst.1.c3, r4.fst.1.c4, r4.fst.1.c5, r4.fst.1.e, r4.fst.1.lin, r4.fst.1.touch, r4.2.grain, r4.2.size, r4.2.to, r4.2.usable, r4.2.has)) else
 (xfR g14 { grain := r2.2.grain, size := r2.2.size, to := r2.2.to, usable := r2.2.usable, has := r2.2.has }   { kind := r0.kind, size := r0.size, other := r0.other, ver := r0.ver, live := r0.live, lin := r0.lin }).bind fun r4 =>
 bif r4.fst.2 then (bif r4.fst.1.e == 0 then (bif r4.fst.2 then (κ1 (r0.size) (r4.fst.1.at_) (r4.fst.1.n) (r4.fst.1.byte) (r4.fst.1.c1) (r4.fst.1.c2) (r4.fst.1.c3) (r4.fst.1.c4) (r4.fst.1.c5) (r4.fst.1.e) (r4.fst.1.lin) (r4.fst.1.touch)) else
 k (r0.size, r4.fst.1.at_, r4.fst.1.n, r4.fst.1.byte, r4.fst.1.c1, r4.fst.1.c2, r4.fst.1.c3, r4.fst.1.c4, r4.fst.1.c5, r4.fst.1.e, r4.fst.1.lin, r4.fst.1.touch, r4.2.grain, r4.2.size, r4.2.to, r4.2.usable, r4.2.has)) else
 bif r4.fst.2 then (κ1 (i.1) (r4.fst.1.at_) (r4.fst.1.n) (r4.fst.1.byte) (r4.fst.1.c1) (r4.fst.1.c2) (r4.fst.1.c3) (r4.fst.1.c4) (r4.fst.1.c5) (r4.fst.1.e) (r4.fst.1.lin) (r4.fst.1.touch)) else
 k (i.1, r4.fst.1.at_, r4.fst.1.n, r4.fst.1.byte, r4.fst.1.c1, r4.fst.1.c2, r4.fst.1.c3, r4.fst.1.c4, r4.fst.1.c5, r4.fst.1.e, r4.fst.1.lin, r4.fst.1.touch, r4.2.grain, r4.2.size, r4.2.to, r4.2.usable, r4.2.has)) else
 bif r4.fst.2 then (κ1 (i.1) (r4.fst.1.at_) (r4.fst.1.n) (r4.fst.1.byte) (r4.fst.1.c1) (r4.fst.1.c2) (r4.fst.1.c3) (r4.fst.1.c4) (r4.fst.1.c5) (r4.fst.1.e) (r4.fst.1.lin) (r4.fst.1.touch)) else
 k (i.1, r4.fst.1.at_, r4.fst.1.n, r4.fst.1.byte, r4.fst.1.c1, r4.fst.1.c2, r4.fst.1.c3, r4.fst.1.c4, r4.fst.1.c5, r4.fst.1.e, r4.fst.1.lin, r4.fst.1.touch, r4.2.grain, r4.2.size, r4.2.to, r4.2.usable, r4.2.has)
def vB {β : Type} (a0 : Int) (g2 g14 : Geo) (a1 a3 a4 a5 a6 a7 a8 a9 a10 a11 a12 a13 a15 a16 a17 a18 : Int) (b19 : Bool) (κ0 : Int -> Int -> Int -> Int -> Int -> Int -> Int -> Int -> Int -> Int -> Int -> T β) (κ1 : Int -> Int -> Int -> Int -> Int -> Int -> Int -> Int -> Int -> Int -> Int -> Int -> T β) : T β := xz xd (kR a0 g2 g14 κ0 κ1) (a1, a3, a4, a5, a6, a7, a8, a9, a10, a11, a12, a13, a15, a16, a17, a18, b19)
theorem KM {β γ : Type} (a0 : Int) (g2 g14 : Geo) (a1 a3 a4 a5 a6 a7 a8 a9 a10 a11 a12 a13 a15 a16 a17 a18 : Int) (b19 : Bool) (κ0 : Int -> Int -> Int -> Int -> Int -> Int -> Int -> Int -> Int -> Int -> Int -> T β) (κ1 : Int -> Int -> Int -> Int -> Int -> Int -> Int -> Int -> Int -> Int -> Int -> Int -> T β) (κ : β -> T γ) : (vB a0 g2 g14 a1 a3 a4 a5 a6 a7 a8 a9 a10 a11 a12 a13 a15 a16 a17 a18 b19 κ0 κ1).bind κ = vB a0 g2 g14 a1 a3 a4 a5 a6 a7 a8 a9 a10 a11 a12 a13 a15 a16 a17 a18 b19 (fun ae1 ae2 ae3 ae4 ae5 ae6 ae7 ae8 ae9 ae10 ae11 => (κ0 ae1 ae2 ae3 ae4 ae5 ae6 ae7 ae8 ae9 ae10 ae11).bind κ) (fun ae0 ae1 ae2 ae3 ae4 ae5 ae6 ae7 ae8 ae9 ae10 ae11 => (κ1 ae0 ae1 ae2 ae3 ae4 ae5 ae6 ae7 ae8 ae9 ae10 ae11).bind κ) := by
 unfold vB
 refine xn κ (fun i k => ?_) _ _
 unfold kR
 first | rfl | (simp only [xa, xb, xe, xc, T.bind_assoc])
def Vn : Pat := ⟨xu 89 0 [(0, .c (.raw (.port))), (3, .c (.int .i64)), (5, .c (.raw (.ptr 0 0))), (8, .c (.raw (.ptr 1 0))), (9, .c (.int .i64)), (10, .c (.raw (.ptr 2 0)))], [some ⟨[.geo], 24, false, none⟩, some ⟨[.int .i64, .int .i64, .int .u8, .int .u64, .int .u64, .int .u64, .int .u64, .int .u64, .int .i64, .int .i64, .int .i64], 38, false, none⟩, some ⟨[.raw (.port), .geo, .int .i64, .int .i64, .int .i64, .int .i64, .bool], 179, false, none⟩]⟩
def wl : Pat := ⟨xu 89 0 [(8, .c (.raw (.ptr 1 0))), (9, .c (.int .i64))], [none, some ⟨[.int .i64, .int .i64, .int .u8, .int .u64, .int .u64, .int .u64, .int .u64, .int .u64, .int .i64, .int .i64, .int .i64], 38, false, none⟩]⟩
def kS : St -> (Ex -> St -> T R) -> Option (T R) := fun st K => match xx Vn st with
 | some [.i a0, .i a1, .g g2, .i a3, .i a4, .i a5, .i a6, .i a7, .i a8, .i a9, .i a10, .i a11, .i a12, .i a13, .g g14, .i a15, .i a16, .i a17, .i a18, .b b19] => some (vB a0 g2 g14 a1 a3 a4 a5 a6 a7 a8 a9 a10 a11 a12 a13 a15 a16 a17 a18 b19 (fun ae1 ae2 ae3 ae4 ae5 ae6 ae7 ae8 ae9 ae10 ae11 => K (.ret) (xf wl [.i 0, .i ae1, .i ae2, .i ae3, .i ae4, .i ae5, .i ae6, .i ae7, .i ae8, .i ae9, .i ae10, .i ae11])) (fun ae0 ae1 ae2 ae3 ae4 ae5 ae6 ae7 ae8 ae9 ae10 ae11 => K (.ret) (xf wl [.i ae0, .i ae1, .i ae2, .i ae3, .i ae4, .i ae5, .i ae6, .i ae7, .i ae8, .i ae9, .i ae10, .i ae11])))
 | _ => none
theorem xhi : ∀ st K t, kS st K = some t -> xF xd (lf ka15 xd 0 .no [1, 1, 1, 1, 0] Tryz.f44 K) st = t := by
 intro st K t h
 unfold kS at h
 split at h
 ·rename_i a0 a1 g2 a3 a4 a5 a6 a7 a8 a9 a10 a11 a12 a13 g14 a15 a16 a17 a18 b19 hm
  cases h
  rw [xp hm]
  exact cast (by kernel_rfl) (xy (F := lf ka15 xd 0 .no [1, 1, 1, 1, 0] Tryz.f44 K) (S := fun i => xf Vn [.i a0, .i (i.1), .g g2, .i (i.2.1), .i (i.2.2.1), .i (i.2.2.2.1), .i (i.2.2.2.2.1), .i (i.2.2.2.2.2.1), .i (i.2.2.2.2.2.2.1), .i (i.2.2.2.2.2.2.2.1), .i (i.2.2.2.2.2.2.2.2.1), .i (i.2.2.2.2.2.2.2.2.2.1), .i (i.2.2.2.2.2.2.2.2.2.2.1), .i (i.2.2.2.2.2.2.2.2.2.2.2.1), .g g14, .i (i.2.2.2.2.2.2.2.2.2.2.2.2.1), .i (i.2.2.2.2.2.2.2.2.2.2.2.2.2.1), .i (i.2.2.2.2.2.2.2.2.2.2.2.2.2.2.1), .i (i.2.2.2.2.2.2.2.2.2.2.2.2.2.2.2.1), .b (i.2.2.2.2.2.2.2.2.2.2.2.2.2.2.2.2)]) (B := kR a0 g2 g14 (fun ae1 ae2 ae3 ae4 ae5 ae6 ae7 ae8 ae9 ae10 ae11 => K (.ret) (xf wl [.i 0, .i ae1, .i ae2, .i ae3, .i ae4, .i ae5, .i ae6, .i ae7, .i ae8, .i ae9, .i ae10, .i ae11])) (fun ae0 ae1 ae2 ae3 ae4 ae5 ae6 ae7 ae8 ae9 ae10 ae11 => K (.ret) (xf wl [.i ae0, .i ae1, .i ae2, .i ae3, .i ae4, .i ae5, .i ae6, .i ae7, .i ae8, .i ae9, .i ae10, .i ae11]))) (fun i k => by kernel_rfl) xd (a1, a3, a4, a5, a6, a7, a8, a9, a10, a11, a12, a13, a15, a16, a17, a18, b19))
 ·cases h
def Xs {β : Type} (g : Geo) (a s : Int) (κ : (Res × Int) -> T β) : T β :=
 bif g.pages == 0 then (κ (⟨(0), (0), (0), (0), (0), (0), (0), (0), (15), (0), (0)⟩, (0))) else
 (Yf g a s).bind fun r1 =>
 bif r1 != 0 then (.op (.steps ) fun x3 =>
 (wB g (Rn.mk (i64.wrap (Int.tdiv a 8)) s 0 0 false) (Res.mk 0 0 0 0 0 0 0 0 r1 x3 0)).bind fun r4 =>
 κ (⟨(r4.1.at_), (r4.1.n), (r4.1.byte), (r4.1.c1), (r4.1.c2), (r4.1.c3), (r4.1.c4), (r4.1.c5), (r4.1.e), (r4.1.lin), (r4.1.touch)⟩, (0))) else
 vB (s) (g) (g) (0) (0) (0) (0) (0) (0) (0) (0) (0) (0) (0) (0) (i64.wrap (Int.tdiv a 8)) (s) (0) (0) (false) (fun y3_0 y3_1 y3_2 y3_3 y3_4 y3_5 y3_6 y3_7 y3_8 y3_9 y3_10 =>
 κ (⟨(y3_0), y3_1, y3_2, y3_3, y3_4, y3_5, y3_6, y3_7, y3_8, y3_9, (y3_10)⟩, (0))) (fun y3_0 y3_1 y3_2 y3_3 y3_4 y3_5 y3_6 y3_7 y3_8 y3_9 y3_10 y3_11 =>
 κ (⟨(y3_1), y3_2, y3_3, y3_4, y3_5, y3_6, y3_7, y3_8, y3_9, y3_10, (y3_11)⟩, y3_0))
def jH (g : Geo) (a s : Int) : T (Res × Int) := Xs g a s .ret
theorem xe3 {β : Type} (g : Geo) (a s : Int) (κ : (Res × Int) -> T β) : (jH g a s).bind κ = Xs g a s κ := by
 unfold jH Xs
 first | rfl | (simp only [xa, xb, xe, xc, T.bind_assoc, KM])
def Xt : Sm := fun args H => match args, H with
 | [.c .port, .agg gc, .c (.int .i64 s)], [] => (match xr gc with
   | some g => some (mkS (Res) (wI g s) fun r => some (.agg r.cells, []))
   | _ => none)
 | _, _ => none
variable {σ : Type} {I : Port Tryz.prog σ}
theorem xa4 (hl : SoundL I ka15) : SoundF I 26 Xt := by
 refine sq hl 1 Tryz.func26 fun args H t ht => ?_
 unfold Xt at ht
 split at ht
 ·rename_i gc s
  split at ht
  ·rename_i g hg
   obtain rfl := xi hg
   cases ht
   refine Eq.trans ?_ (xhh g s _).symm
   kernel_rfl
  ·cases ht
 ·cases ht
def qy : Sm := fun args H => match args, H with
 | [.c .port, .agg gc, .c (.int .i64 a), .c (.int .i64 s)], [] => (match xr gc with
   | some g => some (mkS ((Res × Int)) (jH g a s) fun r => some (.tup [.agg r.1.cells, .c (.int .i64 r.2)], []))
   | _ => none)
 | _, _ => none
theorem xe4 : Good Tryz.prog (xw ka15) xd 0 (lsAt kS .no [1, 1, 1, 1, 0]) (Tryz.f44.body.getD .skip) (xC Tryz.f44.results.toList) := xL (xo (by kernel_rfl)) xK xhi
theorem Vo (hl : SoundL I ka15) : SoundF I 44 qy := by
 refine sq hl xd Tryz.func44 fun args H t ht => ?_
 unfold qy at ht
 split at ht
 ·rename_i gc a s
  split at ht
  ·rename_i g hg
   obtain rfl := xi hg
   cases ht
   refine (xP (P := Tryz.prog) (n := xd) (x := (lsAt kS .no [1, 1, 1, 1, 0])) (fn := Tryz.f44) (H := []) (c := Tryz.f44.body.getD .skip) (xo (by kernel_rfl)) xe4).symm.trans ?_
   refine Eq.trans ?_ (xe3 g a s _).symm
   kernel_rfl
  ·cases ht
 ·cases ht
noncomputable def ka16 : List (Nat × Sm) := (26, Xt) :: (44, qy) :: ka15
theorem xsb : SoundL I ka16 := (.cons (xa4 xc2) (.cons (Vo xc2) xc2))
end Go.Proofs.YtaegelbaghaooaaGreat.Lx
namespace Go.Proofs.YtaegelbaghaooaaGreat.Lx
open Go
set_option maxRecDepth 1000000
noncomputable def kI4 : List (Nat × Sm) := (211, inl Tryz.prog (xw ka16) 1 Tryz.f211) :: ka16
variable {σ : Type} {I : Port Tryz.prog σ}
theorem s_kI4 : SoundL I kI4 := .cons (xJ xsb 1 Tryz.func211 (by kernel_rfl) (by kernel_rfl)) xsb
noncomputable def kI5 : List (Nat × Sm) := kI4
theorem s_kI5 : SoundL I kI5 := s_kI4
end Go.Proofs.YtaegelbaghaooaaGreat.Lx
namespace Go.Proofs.YtaegelbaghaooaaGreat.Lx
open Go
set_option maxRecDepth 1000000
noncomputable def ka17 : List (Nat × Sm) := kI5
variable {σ : Type} {I : Port Tryz.prog σ}
theorem s_ka17 : SoundL I ka17 := s_kI5
end Go.Proofs.YtaegelbaghaooaaGreat.Lx
namespace Go.Proofs.YtaegelbaghaooaaGreat.Lx
open Go
set_option maxRecDepth 1000000
noncomputable def ka18 : List (Nat × Sm) := ka17
variable {σ : Type} {I : Port Tryz.prog σ}
theorem xm0 : SoundL I ka18 := s_ka17
end Go.Proofs.YtaegelbaghaooaaGreat.Lx
