/- Summaries: lock, cache, state, small functions of runs, slab. (trees printed by program, wip/auto.py) -/
import Derived.Test.YtaegelbaghaooaaGreatAyM3
import Derived.WalkKit
set_option linter.unusedSimpArgs false
set_option linter.unusedVariables false
set_option linter.unusedSectionVars false
namespace Go.Proofs.YtaegelbaghaooaaGreat.Lx
open Go
set_option maxRecDepth 1000000

def xni {β : Type} (κ : Int → T β) : T β :=
 .op (.self ) fun x0 =>
 κ (IntKind.u64.wrap (IntKind.u64.wrap x0 + 1))
def mineT  : T Int := xni  .ret
theorem xnj {β : Type}  (κ : Int → T β) : (mineT ).bind κ = xni  κ := by
 unfold mineT xni
 first | rfl | (simp only [xa, xb, xe, xc, T.bind_assoc])
def xht {β : Type} (g : Geo) (k it : Int) (κ : Bool → T β) : T β :=
 .op (.self ) fun x0 =>
 bif it == 0 then (κ (false)) else
 bif decide (atF g 12 (inF (inF x0 k 4) 0 2) < 0) then (κ (false)) else
 .op (.cas (atF g 12 (inF (inF x0 k 4) 0 2)) (0) (it)) fun b3 =>
 bif b3 then (κ (true)) else
 .op (.self ) fun x5 =>
 bif it == 0 then (κ (false)) else
 bif decide (atF g 12 (inF (inF x5 k 4) 1 2) < 0) then (κ (false)) else
 .op (.cas (atF g 12 (inF (inF x5 k 4) 1 2)) (0) (it)) fun b8 =>
 bif b8 then (κ (true)) else
 κ (false)
def xgu (g : Geo) (k it : Int) : T Bool := xht g k it .ret
theorem xnk {β : Type} (g : Geo) (k it : Int) (κ : Bool → T β) : (xgu g k it).bind κ = xht g k it κ := by
 unfold xgu xht
 first | rfl | (simp only [xa, xb, xe, xc, T.bind_assoc])
def xbQ {β : Type} (g : Geo) (t k : Int) (κ : (Int × Bool) → T β) : T β :=
 bif decide (atF g 12 (inF (inF t k 4) 0 2) < 0) then (κ ((0), (false))) else
 .op (.load (atF g 12 (inF (inF t k 4) 0 2))) fun x1 =>
 bif x1 != 0 then (.op (.cas (atF g 12 (inF (inF t k 4) 0 2)) (x1) (0)) fun b3 =>
 bif b3 then (κ ((x1), (true))) else
 bif decide (atF g 12 (inF (inF t k 4) 1 2) < 0) then (κ ((0), (false))) else
 .op (.load (atF g 12 (inF (inF t k 4) 1 2))) fun x6 =>
 bif x6 != 0 then (.op (.cas (atF g 12 (inF (inF t k 4) 1 2)) (x6) (0)) fun b8 =>
 bif b8 then (κ ((x6), (true))) else
 κ ((0), (false))) else
 κ ((0), (false))) else
 bif decide (atF g 12 (inF (inF t k 4) 1 2) < 0) then (κ ((0), (false))) else
 .op (.load (atF g 12 (inF (inF t k 4) 1 2))) fun x4 =>
 bif x4 != 0 then (.op (.cas (atF g 12 (inF (inF t k 4) 1 2)) (x4) (0)) fun b6 =>
 bif b6 then (κ ((x4), (true))) else
 κ ((0), (false))) else
 κ ((0), (false))
def qI (g : Geo) (t k : Int) : T (Int × Bool) := xbQ g t k .ret
theorem xkD {β : Type} (g : Geo) (t k : Int) (κ : (Int × Bool) → T β) : (qI g t k).bind κ = xbQ g t k κ := by
 unfold qI xbQ
 first | rfl | (simp only [xa, xb, xe, xc, T.bind_assoc])
def Vy {β : Type} (g : Geo) (κ : Int → T β) : T β :=
 .op (.self ) fun x0 =>
 .op (.add (atF g 6 x0) (1)) fun x1 =>
 .op (.self ) fun x2 =>
 κ (IntKind.u32.wrap (IntKind.u32.wrap (IntKind.u32.wrap (IntKind.u32.wrap x1 + 1) * 64) + IntKind.u32.wrap x2))
def Xy (g : Geo) : T Int := Vy g .ret
theorem xhu {β : Type} (g : Geo) (κ : Int → T β) : (Xy g).bind κ = Vy g κ := by
 unfold Xy Vy
 first | rfl | (simp only [xa, xb, xe, xc, T.bind_assoc])
def xhv {β : Type} (g : Geo) (p : Int) (κ : Pg → T β) : T β :=
 .op (.load (atF g 7 p)) fun x0 =>
 κ ⟨((pgOf x0).kind), ((pgOf x0).len), ((pgOf x0).cls), ((pgOf x0).owner)⟩
def Yz (g : Geo) (p : Int) : T Pg := xhv g p .ret
theorem xnl {β : Type} (g : Geo) (p : Int) (κ : Pg → T β) : (Yz g p).bind κ = xhv g p κ := by
 unfold Yz xhv
 first | rfl | (simp only [xa, xb, xe, xc, T.bind_assoc])
def xhw {β : Type} (g : Geo) (p k n : Int) (κ : Unit → T β) : T β :=
 .op (.store (atF g 7 p) ((Pg.mk k n 0 0).word)) fun _ =>
 κ ()
def kX (g : Geo) (p k n : Int) : T Unit := xhw g p k n .ret
theorem xnm {β : Type} (g : Geo) (p k n : Int) (κ : Unit → T β) : (kX g p k n).bind κ = xhw g p k n κ := by
 unfold kX xhw
 first | rfl | (simp only [xa, xb, xe, xc, T.bind_assoc])
def xhx {β : Type} (g : Geo) (p : Int) (κ : Bt → T β) : T β :=
 .op (.load (atF g 8 p)) fun x0 =>
 κ ⟨((btOf x0).map), ((btOf x0).has), ((btOf x0).cls), ((btOf x0).ver)⟩
def YA (g : Geo) (p : Int) : T Bt := xhx g p .ret
theorem xnn {β : Type} (g : Geo) (p : Int) (κ : Bt → T β) : (YA g p).bind κ = xhx g p κ := by
 unfold YA xhx
 first | rfl | (simp only [xa, xb, xe, xc, T.bind_assoc])
def xbR {β : Type} (g : Geo) (p : Int) (was : Bt) (now : Bt) (κ : Bool → T β) : T β :=
 .op (.cas (atF g 8 p) ((Bt.mk was.map was.has was.cls was.ver).word) ((Bt.mk now.map now.has now.cls now.ver).word)) fun b0 =>
 κ (b0)
def ZU (g : Geo) (p : Int) (was : Bt) (now : Bt) : T Bool := xbR g p was now .ret
theorem xkE {β : Type} (g : Geo) (p : Int) (was : Bt) (now : Bt) (κ : Bool → T β) : (ZU g p was now).bind κ = xbR g p was now κ := by
 unfold ZU xbR
 first | rfl | (simp only [xa, xb, xe, xc, T.bind_assoc])
def xhy {β : Type} (g : Geo) (κ : Bool → T β) : T β :=
 κ (g.pages == 0)
def xno (g : Geo) : T Bool := xhy g .ret
theorem xkF {β : Type} (g : Geo) (κ : Bool → T β) : (xno g).bind κ = xhy g κ := by
 unfold xno xhy
 first | rfl | (simp only [xa, xb, xe, xc, T.bind_assoc])
def xbS {β : Type} (g : Geo) (κ : Bool → T β) : T β :=
 .op (.self ) fun x0 =>
 κ (atF g 15 x0 == -1)
def qJ (g : Geo) : T Bool := xbS g .ret
theorem xkG {β : Type} (g : Geo) (κ : Bool → T β) : (qJ g).bind κ = xbS g κ := by
 unfold qJ xbS
 first | rfl | (simp only [xa, xb, xe, xc, T.bind_assoc])
def xbT {β : Type} (g : Geo) (c : Int) (κ : Bool → T β) : T β :=
 .op (.self ) fun x0 =>
 κ (atF g 13 (inF x0 c 4) == -1)
def Wd (g : Geo) (c : Int) : T Bool := xbT g c .ret
theorem xkH {β : Type} (g : Geo) (c : Int) (κ : Bool → T β) : (Wd g c).bind κ = xbT g c κ := by
 unfold Wd xbT
 first | rfl | (simp only [xa, xb, xe, xc, T.bind_assoc])
def xdq {β : Type} (it : Int) (κ : Int → T β) : T β :=
 κ (IntKind.i64.wrap (IntKind.i64.wrap it - 1))
def xhz (it : Int) : T Int := xdq it .ret
theorem xhA {β : Type} (it : Int) (κ : Int → T β) : (xhz it).bind κ = xdq it κ := by
 unfold xhz xdq
 first | rfl | (simp only [xa, xb, xe, xc, T.bind_assoc])
def xdr {β : Type} (s : Int) (κ : Int → T β) : T β :=
 bif decide (s < 1) then (κ (0)) else
 κ (IntKind.i64.wrap (IntKind.i64.wrap ((IntKind.i64.wrap (s - 1)).tdiv 64) + 1))
def xhB (s : Int) : T Int := xdr s .ret
theorem xhC {β : Type} (s : Int) (κ : Int → T β) : (xhB s).bind κ = xdr s κ := by
 unfold xhB xdr
 first | rfl | (simp only [xa, xb, xe, xc, T.bind_assoc])
def xds {β : Type} (s : Int) (κ : Bool → T β) : T β :=
 bif decide (s > 0) then (κ (bits BinOp.and IntKind.i64 s (IntKind.i64.wrap (s - 1)) == 0)) else
 κ (false)
def Vz (s : Int) : T Bool := xds s .ret
theorem xhD {β : Type} (s : Int) (κ : Bool → T β) : (Vz s).bind κ = xds s κ := by
 unfold Vz xds
 first | rfl | (simp only [xa, xb, xe, xc, T.bind_assoc])
def VA {β : Type} (s : Int) (κ : Bool → T β) : T β :=
 bif decide (s > 0) then (κ (bits BinOp.and IntKind.i64 s (IntKind.i64.wrap (s - 1)) == 0)) else
 κ (false)
def Xz (s : Int) : T Bool := VA s .ret
theorem xhE {β : Type} (s : Int) (κ : Bool → T β) : (Xz s).bind κ = VA s κ := by
 unfold Xz VA
 first | rfl | (simp only [xa, xb, xe, xc, T.bind_assoc])
def xhF {β : Type} (w : Pg) (k : Int) (κ : Bool → T β) : T β :=
 bif w.len == k then (bif w.kind == 4 then (κ (true)) else
 bif w.kind == 5 then (κ (true)) else
 κ (w.kind == 3)) else
 κ (false)
def xgv (w : Pg) (k : Int) : T Bool := xhF w k .ret
theorem xnp {β : Type} (w : Pg) (k : Int) (κ : Bool → T β) : (xgv w k).bind κ = xhF w k κ := by
 unfold xgv xhF
 first | rfl | (simp only [xa, xb, xe, xc, T.bind_assoc])
def xab {β : Type} (w : Pg) (κ : Int → T β) : T β :=
 bif w.kind == 0 then (κ (1)) else
 bif w.kind == 2 then (κ (1)) else
 κ (if w.len < 1 then 1 else w.len)
def vU (w : Pg) : T Int := xab w .ret
theorem xnq {β : Type} (w : Pg) (κ : Int → T β) : (vU w).bind κ = xab w κ := by
 unfold vU xab
 first | rfl | (simp only [xa, xb, xe, xc, T.bind_assoc])
def xbU {β : Type} (g : Geo) (nd it : Int) (κ : Bool → T β) : T β :=
 .op (.load (atF g 18 (inF (IntKind.i64.wrap (nd - 1)) 0 8))) fun x0 =>
 bif x0 == 0 then (.op (.store (atF g 18 (inF (IntKind.i64.wrap (nd - 1)) 0 8)) (it)) fun _ =>
 κ (true)) else
 .op (.load (atF g 18 (inF (IntKind.i64.wrap (nd - 1)) 1 8))) fun x2 =>
 bif x2 == 0 then (.op (.store (atF g 18 (inF (IntKind.i64.wrap (nd - 1)) 1 8)) (it)) fun _ =>
 κ (true)) else
 .op (.load (atF g 18 (inF (IntKind.i64.wrap (nd - 1)) 2 8))) fun x4 =>
 bif x4 == 0 then (.op (.store (atF g 18 (inF (IntKind.i64.wrap (nd - 1)) 2 8)) (it)) fun _ =>
 κ (true)) else
 .op (.load (atF g 18 (inF (IntKind.i64.wrap (nd - 1)) 3 8))) fun x6 =>
 bif x6 == 0 then (.op (.store (atF g 18 (inF (IntKind.i64.wrap (nd - 1)) 3 8)) (it)) fun _ =>
 κ (true)) else
 .op (.load (atF g 18 (inF (IntKind.i64.wrap (nd - 1)) 4 8))) fun x8 =>
 bif x8 == 0 then (.op (.store (atF g 18 (inF (IntKind.i64.wrap (nd - 1)) 4 8)) (it)) fun _ =>
 κ (true)) else
 .op (.load (atF g 18 (inF (IntKind.i64.wrap (nd - 1)) 5 8))) fun x10 =>
 bif x10 == 0 then (.op (.store (atF g 18 (inF (IntKind.i64.wrap (nd - 1)) 5 8)) (it)) fun _ =>
 κ (true)) else
 .op (.load (atF g 18 (inF (IntKind.i64.wrap (nd - 1)) 6 8))) fun x12 =>
 bif x12 == 0 then (.op (.store (atF g 18 (inF (IntKind.i64.wrap (nd - 1)) 6 8)) (it)) fun _ =>
 κ (true)) else
 .op (.load (atF g 18 (inF (IntKind.i64.wrap (nd - 1)) 7 8))) fun x14 =>
 bif x14 == 0 then (.op (.store (atF g 18 (inF (IntKind.i64.wrap (nd - 1)) 7 8)) (it)) fun _ =>
 κ (true)) else
 κ (false)
def We (g : Geo) (nd it : Int) : T Bool := xbU g nd it .ret
theorem xkI {β : Type} (g : Geo) (nd it : Int) (κ : Bool → T β) : (We g nd it).bind κ = xbU g nd it κ := by
 unfold We xbU
 first | rfl | (simp only [xa, xb, xe, xc, T.bind_assoc])
def xhG : Sm := fun args H => match args, H with
 | [.c .port], [] => some (mkS (Int) (mineT) fun r => some (.c (.int .u64 r), []))
 | _, _ => none
variable {σ : Type} {I : Port Tryz.prog σ}
theorem xrb (hl : SoundL I ka0) : SoundF I 233 xhG := by
 refine sq hl 1 Tryz.func233 fun args H t ht => ?_
 unfold xhG at ht
 split at ht
 ·skip
  cases ht
  refine Eq.trans ?_ (xnj  _).symm
  kernel_rfl
 ·cases ht
def xhH : Sm := fun args H => match args, H with
 | [.c .port, .agg gc, .c (.int .i64 k), .c (.int .u64 it)], [] => (match xu gc with
   | some g => some (mkS (Bool) (xgu g k it) fun r => some (.c (.bool r), []))
   | _ => none)
 | _, _ => none
theorem xrc (hl : SoundL I ka0) : SoundF I 89 xhH := by
 refine sq hl 5 Tryz.func89 fun args H t ht => ?_
 unfold xhH at ht
 split at ht
 ·rename_i gc k it
  split at ht
  ·rename_i g hg
   obtain rfl := xh hg
   cases ht
   refine Eq.trans ?_ (xnk g k it _).symm
   kernel_rfl
  ·cases ht
 ·cases ht
def xdt : Sm := fun args H => match args, H with
 | [.c .port, .agg gc, .c (.int .i64 t), .c (.int .i64 k)], [] => (match xu gc with
   | some g => some (mkS ((Int × Bool)) (qI g t k) fun r => some (.tup [.c (.int .u64 r.1), .c (.bool r.2)], []))
   | _ => none)
 | _, _ => none
theorem xnr (hl : SoundL I ka0) : SoundF I 253 xdt := by
 refine sq hl 5 Tryz.func253 fun args H t ht => ?_
 unfold xdt at ht
 split at ht
 ·rename_i gc t k
  split at ht
  ·rename_i g hg
   obtain rfl := xh hg
   cases ht
   refine Eq.trans ?_ (xkD g t k _).symm
   kernel_rfl
  ·cases ht
 ·cases ht
def xac : Sm := fun args H => match args, H with
 | [.c .port, .agg gc], [] => (match xu gc with
   | some g => some (mkS (Int) (Xy g) fun r => some (.c (.int .u32 r), []))
   | _ => none)
 | _, _ => none
theorem xkJ (hl : SoundL I ka0) : SoundF I 230 xac := by
 refine sq hl 1 Tryz.func230 fun args H t ht => ?_
 unfold xac at ht
 split at ht
 ·rename_i gc
  split at ht
  ·rename_i g hg
   obtain rfl := xh hg
   cases ht
   refine Eq.trans ?_ (xhu g _).symm
   kernel_rfl
  ·cases ht
 ·cases ht
def xhI : Sm := fun args H => match args, H with
 | [.agg (.port :: gc), .c (.int .i64 p)], [] => (match xu gc with
   | some g => some (mkS (Pg) (Yz g p) fun r => some (.agg r.cells, []))
   | _ => none)
 | _, _ => none
theorem xrd (hl : SoundL I ka0) : SoundF I 234 xhI := by
 refine sq hl 1 Tryz.func234 fun args H t ht => ?_
 unfold xhI at ht
 split at ht
 ·rename_i gc p
  split at ht
  ·rename_i g hg
   obtain rfl := xh hg
   cases ht
   refine Eq.trans ?_ (xnl g p _).symm
   kernel_rfl
  ·cases ht
 ·cases ht
def xhJ : Sm := fun args H => match args, H with
 | [.agg (.port :: gc), .c (.int .i64 p), .c (.int .i64 k), .c (.int .i64 n)], [] => (match xu gc with
   | some g => some (mkS (Unit) (kX g p k n) fun r => some (.tup [], []))
   | _ => none)
 | _, _ => none
theorem xre (hl : SoundL I ka0) : SoundF I 222 xhJ := by
 refine sq hl 1 Tryz.func222 fun args H t ht => ?_
 unfold xhJ at ht
 split at ht
 ·rename_i gc p k n
  split at ht
  ·rename_i g hg
   obtain rfl := xh hg
   cases ht
   refine Eq.trans ?_ (xnm g p k n _).symm
   kernel_rfl
  ·cases ht
 ·cases ht
def xhK : Sm := fun args H => match args, H with
 | [.agg (.port :: gc)], [] => (match shOf gc with
   | some (g, p) => some (mkS (Bt) (YA g p) fun r => some (.agg r.cells, []))
   | _ => none)
 | _, _ => none
theorem xrf (hl : SoundL I ka0) : SoundF I 176 xhK := by
 refine sq hl 1 Tryz.func176 fun args H t ht => ?_
 unfold xhK at ht
 split at ht
 ·rename_i gc
  split at ht
  ·rename_i g p hg
   obtain rfl := xbM hg
   cases ht
   refine Eq.trans ?_ (xnn g p _).symm
   kernel_rfl
  ·cases ht
 ·cases ht
def xdu : Sm := fun args H => match args, H with
 | [.agg (.port :: gc), .agg wasc, .agg nowc], [] => (match shOf gc with
   | some (g, p) => (match Bt.of wasc with
   | some was => (match Bt.of nowc with
   | some now => some (mkS (Bool) (ZU g p was now) fun r => some (.c (.bool r), []))
   | _ => none)
   | _ => none)
   | _ => none)
 | _, _ => none
theorem xns (hl : SoundL I ka0) : SoundF I 178 xdu := by
 refine sq hl 1 Tryz.func178 fun args H t ht => ?_
 unfold xdu at ht
 split at ht
 ·rename_i gc wasc nowc
  split at ht
  ·rename_i g p hg
   obtain rfl := xbM hg
   split at ht
   ·rename_i was hwas
    obtain rfl := Bt.of_eq hwas
    split at ht
    ·rename_i now hnow
     obtain rfl := Bt.of_eq hnow
     cases ht
     refine Eq.trans ?_ (xkE g p was now _).symm
     kernel_rfl
    ·cases ht
   ·cases ht
  ·cases ht
 ·cases ht
def xdv : Sm := fun args H => match args, H with
 | [.c .port, .agg gc], [] => (match xu gc with
   | some g => some (mkS (Bool) (xno g) fun r => some (.c (.bool r), []))
   | _ => none)
 | _, _ => none
theorem xnt (hl : SoundL I ka0) : SoundF I 73 xdv := by
 refine sq hl 1 Tryz.func73 fun args H t ht => ?_
 unfold xdv at ht
 split at ht
 ·rename_i gc
  split at ht
  ·rename_i g hg
   obtain rfl := xh hg
   cases ht
   refine Eq.trans ?_ (xkF g _).symm
   kernel_rfl
  ·cases ht
 ·cases ht
def xdw : Sm := fun args H => match args, H with
 | [.c .port, .agg gc], [] => (match xu gc with
   | some g => some (mkS (Bool) (qJ g) fun r => some (.c (.bool r), []))
   | _ => none)
 | _, _ => none
theorem xnu (hl : SoundL I ka0) : SoundF I 83 xdw := by
 refine sq hl 1 Tryz.func83 fun args H t ht => ?_
 unfold xdw at ht
 split at ht
 ·rename_i gc
  split at ht
  ·rename_i g hg
   obtain rfl := xh hg
   cases ht
   refine Eq.trans ?_ (xkG g _).symm
   kernel_rfl
  ·cases ht
 ·cases ht
def xdx : Sm := fun args H => match args, H with
 | [.c .port, .agg gc, .c (.int .i64 c)], [] => (match xu gc with
   | some g => some (mkS (Bool) (Wd g c) fun r => some (.c (.bool r), []))
   | _ => none)
 | _, _ => none
theorem xnv (hl : SoundL I ka0) : SoundF I 173 xdx := by
 refine sq hl 1 Tryz.func173 fun args H t ht => ?_
 unfold xdx at ht
 split at ht
 ·rename_i gc c
  split at ht
  ·rename_i g hg
   obtain rfl := xh hg
   cases ht
   refine Eq.trans ?_ (xkH g c _).symm
   kernel_rfl
  ·cases ht
 ·cases ht
def xad : Sm := fun args H => match args, H with
 | [.c (.int .u64 it)], [] => some (mkS (Int) (xhz it) fun r => some (.c (.int .i64 r), []))
 | _, _ => none
theorem xkK (hl : SoundL I ka0) : SoundF I 214 xad := by
 refine sq hl 1 Tryz.func214 fun args H t ht => ?_
 unfold xad at ht
 split at ht
 ·rename_i it
  cases ht
  refine Eq.trans ?_ (xhA it _).symm
  kernel_rfl
 ·cases ht
def xae : Sm := fun args H => match args, H with
 | [.c (.int .i64 s)], [] => some (mkS (Int) (xhB s) fun r => some (.c (.int .i64 r), []))
 | _, _ => none
theorem xkL (hl : SoundL I ka0) : SoundF I 78 xae := by
 refine sq hl 1 Tryz.func78 fun args H t ht => ?_
 unfold xae at ht
 split at ht
 ·rename_i s
  cases ht
  refine Eq.trans ?_ (xhC s _).symm
  kernel_rfl
 ·cases ht
def xaf : Sm := fun args H => match args, H with
 | [.c (.int .i64 s)], [] => some (mkS (Bool) (Vz s) fun r => some (.c (.bool r), []))
 | _, _ => none
theorem xkM (hl : SoundL I ka0) : SoundF I 153 xaf := by
 refine sq hl 1 Tryz.func153 fun args H t ht => ?_
 unfold xaf at ht
 split at ht
 ·rename_i s
  cases ht
  refine Eq.trans ?_ (xhD s _).symm
  kernel_rfl
 ·cases ht
def xag : Sm := fun args H => match args, H with
 | [.c (.int .i64 s)], [] => some (mkS (Bool) (Xz s) fun r => some (.c (.bool r), []))
 | _, _ => none
theorem xkN (hl : SoundL I ka0) : SoundF I 74 xag := by
 refine sq hl 1 Tryz.func74 fun args H t ht => ?_
 unfold xag at ht
 split at ht
 ·rename_i s
  cases ht
  refine Eq.trans ?_ (xhE s _).symm
  kernel_rfl
 ·cases ht
def xhL : Sm := fun args H => match args, H with
 | [.agg wc, .c (.int .i64 k)], [] => (match Pg.of wc with
   | some w => some (mkS (Bool) (xgv w k) fun r => some (.c (.bool r), []))
   | _ => none)
 | _, _ => none
theorem xrg (hl : SoundL I ka0) : SoundF I 264 xhL := by
 refine sq hl 1 Tryz.func264 fun args H t ht => ?_
 unfold xhL at ht
 split at ht
 ·rename_i wc k
  split at ht
  ·rename_i w hw
   obtain rfl := Pg.of_eq hw
   cases ht
   refine Eq.trans ?_ (xnp w k _).symm
   kernel_rfl
  ·cases ht
 ·cases ht
def xhM : Sm := fun args H => match args, H with
 | [.agg wc], [] => (match Pg.of wc with
   | some w => some (mkS (Int) (vU w) fun r => some (.c (.int .i64 r), []))
   | _ => none)
 | _, _ => none
theorem xrh (hl : SoundL I ka0) : SoundF I 236 xhM := by
 refine sq hl 1 Tryz.func236 fun args H t ht => ?_
 unfold xhM at ht
 split at ht
 ·rename_i wc
  split at ht
  ·rename_i w hw
   obtain rfl := Pg.of_eq hw
   cases ht
   refine Eq.trans ?_ (xnq w _).symm
   kernel_rfl
  ·cases ht
 ·cases ht
def xdy : Sm := fun args H => match args, H with
 | [.c .port, .agg gc, .c (.int .i64 nd), .c (.int .u64 it)], [] => (match xu gc with
   | some g => some (mkS (Bool) (We g nd it) fun r => some (.c (.bool r), []))
   | _ => none)
 | _, _ => none
theorem xnw (hl : SoundL I ka0) : SoundF I 237 xdy := by
 refine sq hl 10 Tryz.func237 fun args H t ht => ?_
 unfold xdy at ht
 split at ht
 ·rename_i gc nd it
  split at ht
  ·rename_i g hg
   obtain rfl := xh hg
   cases ht
   refine Eq.trans ?_ (xkI g nd it _).symm
   kernel_rfl
  ·cases ht
 ·cases ht
def ka1 : List (Nat × Sm) := (233, xhG) :: (89, xhH) :: (253, xdt) :: (230, xac) :: (234, xhI) :: (222, xhJ) :: (176, xhK) :: (178, xdu) :: (73, xdv) :: (83, xdw) :: (173, xdx) :: (214, xad) :: (78, xae) :: (153, xaf) :: (74, xag) :: (264, xhL) :: (236, xhM) :: (237, xdy) :: ka0
theorem YB : SoundL I ka1 := (.cons (xrb vQ) (.cons (xrc vQ) (.cons (xnr vQ) (.cons (xkJ vQ) (.cons (xrd vQ) (.cons (xre vQ) (.cons (xrf vQ) (.cons (xns vQ) (.cons (xnt vQ) (.cons (xnu vQ) (.cons (xnv vQ) (.cons (xkK vQ) (.cons (xkL vQ) (.cons (xkM vQ) (.cons (xkN vQ) (.cons (xrg vQ) (.cons (xrh vQ) (.cons (xnw vQ) vQ))))))))))))))))))
end Go.Proofs.YtaegelbaghaooaaGreat.Lx
