/- Summaries: lock, cache, state, small functions of runs, slab. (trees printed by program, wip/auto.py) -/
import Derived.Test.YtaegelbaghaooaaGreatErM3
import Derived.WalkKit
set_option linter.all false
open Go.IntKind (i64 u64 u32 u8)
namespace Go.Proofs.YtaegelbaghaooaaGreat.Lx
open Go
set_option maxRecDepth 1000000
def xnN {β : Type} (κ : Int -> T β) : T β :=
 .op (.self ) fun x0 =>
 κ (u64.wrap (u64.wrap x0 + 1))
def mineT  : T Int := xnN  .ret
theorem xnO {β : Type}  (κ : Int -> T β) : (mineT ).bind κ = xnN  κ := by
 unfold mineT xnN
 first | rfl | (simp only [xa, xb, xe, xc, T.bind_assoc])
def xhE {β : Type} (g : Geo) (k it : Int) (κ : Bool -> T β) : T β :=
 .op (.self ) fun x0 =>
 bif it == 0 then (κ (false)) else
 bif decide (atF g 12 (inF (inF x0 k 4) 0 2) < 0) then (κ (false)) else
 .op (.cas (atF g 12 (inF (inF x0 k 4) 0 2)) (0) (it)) fun b3 =>
 bif b3 then (κ (true)) else
 .op (.self ) fun x5 =>
 bif it == 0 then (κ (false)) else
 bif decide (atF g 12 (inF (inF x5 k 4) 1 2) < 0) then (κ (false)) else
 .op (.cas (atF g 12 (inF (inF x5 k 4) 1 2)) (0) (it)) fun b8 =>
 bif b8 then (κ (true)) else
 κ (false)
def xgC (g : Geo) (k it : Int) : T Bool := xhE g k it .ret
theorem xnP {β : Type} (g : Geo) (k it : Int) (κ : Bool -> T β) : (xgC g k it).bind κ = xhE g k it κ := by
 unfold xgC xhE
 first | rfl | (simp only [xa, xb, xe, xc, T.bind_assoc])
def xbW {β : Type} (g : Geo) (t k : Int) (κ : (Int × Bool) -> T β) : T β :=
 bif decide (atF g 12 (inF (inF t k 4) 0 2) < 0) then (κ ((0), (false))) else
 .op (.load (atF g 12 (inF (inF t k 4) 0 2))) fun x1 =>
 bif x1 != 0 then (.op (.cas (atF g 12 (inF (inF t k 4) 0 2)) x1 (0)) fun b3 =>
 bif b3 then (κ (x1, (true))) else
 bif decide (atF g 12 (inF (inF t k 4) 1 2) < 0) then (κ ((0), (false))) else
 .op (.load (atF g 12 (inF (inF t k 4) 1 2))) fun x6 =>
 bif x6 != 0 then (.op (.cas (atF g 12 (inF (inF t k 4) 1 2)) x6 (0)) fun b8 =>
 bif b8 then (κ (x6, (true))) else
 κ ((0), (false))) else
 κ ((0), (false))) else
 bif decide (atF g 12 (inF (inF t k 4) 1 2) < 0) then (κ ((0), (false))) else
 .op (.load (atF g 12 (inF (inF t k 4) 1 2))) fun x4 =>
 bif x4 != 0 then (.op (.cas (atF g 12 (inF (inF t k 4) 1 2)) x4 (0)) fun b6 =>
 bif b6 then (κ (x4, (true))) else
 κ ((0), (false))) else
 κ ((0), (false))
def qO (g : Geo) (t k : Int) : T (Int × Bool) := xbW g t k .ret
theorem xk1 {β : Type} (g : Geo) (t k : Int) (κ : (Int × Bool) -> T β) : (qO g t k).bind κ = xbW g t k κ := by
 unfold qO xbW
 first | rfl | (simp only [xa, xb, xe, xc, T.bind_assoc])
def VM {β : Type} (g : Geo) (κ : Int -> T β) : T β :=
 .op (.self ) fun x0 =>
 .op (.add (atF g 6 x0) (1)) fun x1 =>
 .op (.self ) fun x2 =>
 κ (u32.wrap (u32.wrap (u32.wrap (u32.wrap x1 + 1) * 64) + u32.wrap x2))
def kZ (g : Geo) : T Int := VM g .ret
theorem xhF {β : Type} (g : Geo) (κ : Int -> T β) : (kZ g).bind κ = VM g κ := by
 unfold kZ VM
 first | rfl | (simp only [xa, xb, xe, xc, T.bind_assoc])
def Wj {β : Type} (a b v : Int) (κ : Stt -> T β) : T β :=
 κ ⟨(2), (b), (a), (v)⟩
def xae (a b v : Int) : T Stt := Wj a b v .ret
theorem xdK {β : Type} (a b v : Int) (κ : Stt -> T β) : (xae a b v).bind κ = Wj a b v κ := by
 unfold xae Wj
 first | rfl | (simp only [xa, xb, xe, xc, T.bind_assoc])
def xhG {β : Type} (g : Geo) (p : Int) (κ : Pg -> T β) : T β :=
 .op (.load (atF g 7 p)) fun x0 =>
 κ ⟨((pgOf x0).kind), ((pgOf x0).len), ((pgOf x0).cls), ((pgOf x0).owner)⟩
def Yy (g : Geo) (p : Int) : T Pg := xhG g p .ret
theorem xnQ {β : Type} (g : Geo) (p : Int) (κ : Pg -> T β) : (Yy g p).bind κ = xhG g p κ := by
 unfold Yy xhG
 first | rfl | (simp only [xa, xb, xe, xc, T.bind_assoc])
def xhH {β : Type} (g : Geo) (p k n : Int) (κ : Unit -> T β) : T β :=
 .op (.store (atF g 7 p) ((Pg.mk k n 0 0).word)) fun _ =>
 κ ()
def ja (g : Geo) (p k n : Int) : T Unit := xhH g p k n .ret
theorem xnR {β : Type} (g : Geo) (p k n : Int) (κ : Unit -> T β) : (ja g p k n).bind κ = xhH g p k n κ := by
 unfold ja xhH
 first | rfl | (simp only [xa, xb, xe, xc, T.bind_assoc])
def xhI {β : Type} (g : Geo) (p : Int) (κ : Bt -> T β) : T β :=
 .op (.load (atF g 8 p)) fun x0 =>
 κ ⟨((btOf x0).map), ((btOf x0).has), ((btOf x0).cls), ((btOf x0).ver)⟩
def Yz (g : Geo) (p : Int) : T Bt := xhI g p .ret
theorem xnS {β : Type} (g : Geo) (p : Int) (κ : Bt -> T β) : (Yz g p).bind κ = xhI g p κ := by
 unfold Yz xhI
 first | rfl | (simp only [xa, xb, xe, xc, T.bind_assoc])
def xbX {β : Type} (g : Geo) (p : Int) (was : Bt) (now : Bt) (κ : Bool -> T β) : T β :=
 .op (.cas (atF g 8 p) ((Bt.mk was.map was.has was.cls was.ver).word) ((Bt.mk now.map now.has now.cls now.ver).word)) fun b0 =>
 κ b0
def ZU (g : Geo) (p : Int) (was : Bt) (now : Bt) : T Bool := xbX g p was now .ret
theorem xk2 {β : Type} (g : Geo) (p : Int) (was : Bt) (now : Bt) (κ : Bool -> T β) : (ZU g p was now).bind κ = xbX g p was now κ := by
 unfold ZU xbX
 first | rfl | (simp only [xa, xb, xe, xc, T.bind_assoc])
def xhJ {β : Type} (g : Geo) (κ : Bool -> T β) : T β :=
 κ (g.pages == 0)
def xnT (g : Geo) : T Bool := xhJ g .ret
theorem xk3 {β : Type} (g : Geo) (κ : Bool -> T β) : (xnT g).bind κ = xhJ g κ := by
 unfold xnT xhJ
 first | rfl | (simp only [xa, xb, xe, xc, T.bind_assoc])
def xbY {β : Type} (g : Geo) (κ : Bool -> T β) : T β :=
 .op (.self ) fun x0 =>
 κ (atF g 15 x0 == -1)
def qP (g : Geo) : T Bool := xbY g .ret
theorem xk4 {β : Type} (g : Geo) (κ : Bool -> T β) : (qP g).bind κ = xbY g κ := by
 unfold qP xbY
 first | rfl | (simp only [xa, xb, xe, xc, T.bind_assoc])
def xbZ {β : Type} (g : Geo) (c : Int) (κ : Bool -> T β) : T β :=
 .op (.self ) fun x0 =>
 κ (atF g 13 (inF x0 c 4) == -1)
def Wk (g : Geo) (c : Int) : T Bool := xbZ g c .ret
theorem xk5 {β : Type} (g : Geo) (c : Int) (κ : Bool -> T β) : (Wk g c).bind κ = xbZ g c κ := by
 unfold Wk xbZ
 first | rfl | (simp only [xa, xb, xe, xc, T.bind_assoc])
def xdL {β : Type} (it : Int) (κ : Int -> T β) : T β :=
 κ (i64.wrap (i64.wrap it - 1))
def xhK (it : Int) : T Int := xdL it .ret
theorem xhL {β : Type} (it : Int) (κ : Int -> T β) : (xhK it).bind κ = xdL it κ := by
 unfold xhK xdL
 first | rfl | (simp only [xa, xb, xe, xc, T.bind_assoc])
def xdM {β : Type} (s : Int) (κ : Int -> T β) : T β :=
 bif decide (s < 1) then (κ (0)) else
 κ (i64.wrap (i64.wrap ((i64.wrap (s - 1)).tdiv 64) + 1))
def xhM (s : Int) : T Int := xdM s .ret
theorem xhN {β : Type} (s : Int) (κ : Int -> T β) : (xhM s).bind κ = xdM s κ := by
 unfold xhM xdM
 first | rfl | (simp only [xa, xb, xe, xc, T.bind_assoc])
def xdN {β : Type} (s : Int) (κ : Bool -> T β) : T β :=
 bif decide (s > 0) then (κ (bits BinOp.and i64 s (i64.wrap (s - 1)) == 0)) else
 κ (false)
def VN (s : Int) : T Bool := xdN s .ret
theorem xhO {β : Type} (s : Int) (κ : Bool -> T β) : (VN s).bind κ = xdN s κ := by
 unfold VN xdN
 first | rfl | (simp only [xa, xb, xe, xc, T.bind_assoc])
def VO {β : Type} (s : Int) (κ : Bool -> T β) : T β :=
 bif decide (s > 0) then (κ (bits BinOp.and i64 s (i64.wrap (s - 1)) == 0)) else
 κ (false)
def XK (s : Int) : T Bool := VO s .ret
theorem xhP {β : Type} (s : Int) (κ : Bool -> T β) : (XK s).bind κ = VO s κ := by
 unfold XK VO
 first | rfl | (simp only [xa, xb, xe, xc, T.bind_assoc])
def xhQ {β : Type} (w : Pg) (k : Int) (κ : Bool -> T β) : T β :=
 bif w.len == k then (bif w.kind == 4 then (κ (true)) else
 bif w.kind == 5 then (κ (true)) else
 κ (w.kind == 3)) else
 κ (false)
def xgD (w : Pg) (k : Int) : T Bool := xhQ w k .ret
theorem xnU {β : Type} (w : Pg) (k : Int) (κ : Bool -> T β) : (xgD w k).bind κ = xhQ w k κ := by
 unfold xgD xhQ
 first | rfl | (simp only [xa, xb, xe, xc, T.bind_assoc])
def xaf {β : Type} (w : Pg) (κ : Int -> T β) : T β :=
 bif w.kind == 0 then (κ (1)) else
 bif w.kind == 2 then (κ (1)) else
 κ (if w.len < 1 then 1 else w.len)
def vQ (w : Pg) : T Int := xaf w .ret
theorem xnV {β : Type} (w : Pg) (κ : Int -> T β) : (vQ w).bind κ = xaf w κ := by
 unfold vQ xaf
 first | rfl | (simp only [xa, xb, xe, xc, T.bind_assoc])
def xb0 {β : Type} (g : Geo) (nd it : Int) (κ : Bool -> T β) : T β :=
 .op (.load (atF g 18 (inF (i64.wrap (nd - 1)) 0 8))) fun x0 =>
 bif x0 == 0 then (.op (.store (atF g 18 (inF (i64.wrap (nd - 1)) 0 8)) (it)) fun _ =>
 κ (true)) else
 .op (.load (atF g 18 (inF (i64.wrap (nd - 1)) 1 8))) fun x2 =>
 bif x2 == 0 then (.op (.store (atF g 18 (inF (i64.wrap (nd - 1)) 1 8)) (it)) fun _ =>
 κ (true)) else
 .op (.load (atF g 18 (inF (i64.wrap (nd - 1)) 2 8))) fun x4 =>
 bif x4 == 0 then (.op (.store (atF g 18 (inF (i64.wrap (nd - 1)) 2 8)) (it)) fun _ =>
 κ (true)) else
 .op (.load (atF g 18 (inF (i64.wrap (nd - 1)) 3 8))) fun x6 =>
 bif x6 == 0 then (.op (.store (atF g 18 (inF (i64.wrap (nd - 1)) 3 8)) (it)) fun _ =>
 κ (true)) else
 .op (.load (atF g 18 (inF (i64.wrap (nd - 1)) 4 8))) fun x8 =>
 bif x8 == 0 then (.op (.store (atF g 18 (inF (i64.wrap (nd - 1)) 4 8)) (it)) fun _ =>
 κ (true)) else
 .op (.load (atF g 18 (inF (i64.wrap (nd - 1)) 5 8))) fun x10 =>
 bif x10 == 0 then (.op (.store (atF g 18 (inF (i64.wrap (nd - 1)) 5 8)) (it)) fun _ =>
 κ (true)) else
 .op (.load (atF g 18 (inF (i64.wrap (nd - 1)) 6 8))) fun x12 =>
 bif x12 == 0 then (.op (.store (atF g 18 (inF (i64.wrap (nd - 1)) 6 8)) (it)) fun _ =>
 κ (true)) else
 .op (.load (atF g 18 (inF (i64.wrap (nd - 1)) 7 8))) fun x14 =>
 bif x14 == 0 then (.op (.store (atF g 18 (inF (i64.wrap (nd - 1)) 7 8)) (it)) fun _ =>
 κ (true)) else
 κ (false)
def Wl (g : Geo) (nd it : Int) : T Bool := xb0 g nd it .ret
theorem xk6 {β : Type} (g : Geo) (nd it : Int) (κ : Bool -> T β) : (Wl g nd it).bind κ = xb0 g nd it κ := by
 unfold Wl xb0
 first | rfl | (simp only [xa, xb, xe, xc, T.bind_assoc])
def xhR {β : Type} (g : Geo) (a s : Int) (κ : Int -> T β) : T β :=
 bif decide (s < 1) then (κ (11)) else
 bif decide (s > i64.wrap (g.pages * 64)) then (κ (11)) else
 bif decide (a < 0) then (κ (13)) else
 bif decide (a >= i64.wrap (g.pages * 64)) then (κ (13)) else
 bif a.tmod 8 != 0 then (κ (13)) else
 κ (0)
def xnW (g : Geo) (a s : Int) : T Int := xhR g a s .ret
theorem xk7 {β : Type} (g : Geo) (a s : Int) (κ : Int -> T β) : (xnW g a s).bind κ = xhR g a s κ := by
 unfold xnW xhR
 first | rfl | (simp only [xa, xb, xe, xc, T.bind_assoc])
def xhS : Sm := fun args H => match args, H with
 | [.c .port], [] => some (mkS (Int) (mineT) fun r => some (.c (.int .u64 r), []))
 | _, _ => none
variable {σ : Type} {I : Port Tryz.prog σ}
theorem xrh (hl : SoundL I ka0) : SoundF I 233 xhS := by
 refine sq hl 1 Tryz.func233 fun args H t ht => ?_
 unfold xhS at ht
 split at ht
 ·skip
  cases ht
  refine Eq.trans ?_ (xnO  _).symm
  kernel_rfl
 ·cases ht
def xhT : Sm := fun args H => match args, H with
 | [.c .port, .agg gc, .c (.int .i64 k), .c (.int .u64 it)], [] => (match xr gc with
   | some g => some (mkS (Bool) (xgC g k it) fun r => some (.c (.bool r), []))
   | _ => none)
 | _, _ => none
theorem xri (hl : SoundL I ka0) : SoundF I 89 xhT := by
 refine sq hl 5 Tryz.func89 fun args H t ht => ?_
 unfold xhT at ht
 split at ht
 ·rename_i gc k it
  split at ht
  ·rename_i g hg
   obtain rfl := xi hg
   cases ht
   refine Eq.trans ?_ (xnP g k it _).symm
   kernel_rfl
  ·cases ht
 ·cases ht
def xdO : Sm := fun args H => match args, H with
 | [.c .port, .agg gc, .c (.int .i64 t), .c (.int .i64 k)], [] => (match xr gc with
   | some g => some (mkS ((Int × Bool)) (qO g t k) fun r => some (.tup [.c (.int .u64 r.1), .c (.bool r.2)], []))
   | _ => none)
 | _, _ => none
theorem xnX (hl : SoundL I ka0) : SoundF I 253 xdO := by
 refine sq hl 5 Tryz.func253 fun args H t ht => ?_
 unfold xdO at ht
 split at ht
 ·rename_i gc t k
  split at ht
  ·rename_i g hg
   obtain rfl := xi hg
   cases ht
   refine Eq.trans ?_ (xk1 g t k _).symm
   kernel_rfl
  ·cases ht
 ·cases ht
def xag : Sm := fun args H => match args, H with
 | [.c .port, .agg gc], [] => (match xr gc with
   | some g => some (mkS (Int) (kZ g) fun r => some (.c (.int .u32 r), []))
   | _ => none)
 | _, _ => none
theorem xk8 (hl : SoundL I ka0) : SoundF I 230 xag := by
 refine sq hl 1 Tryz.func230 fun args H t ht => ?_
 unfold xag at ht
 split at ht
 ·rename_i gc
  split at ht
  ·rename_i g hg
   obtain rfl := xi hg
   cases ht
   refine Eq.trans ?_ (xhF g _).symm
   kernel_rfl
  ·cases ht
 ·cases ht
def ZV : Sm := fun args H => match args, H with
 | [.c (.int .i64 a), .c (.int .i64 b), .c (.int .u32 v)], [] => some (mkS (Stt) (xae a b v) fun r => some (.agg r.cells, []))
 | _, _ => none
theorem xe7 (hl : SoundL I ka0) : SoundF I 250 ZV := by
 refine sq hl 1 Tryz.func250 fun args H t ht => ?_
 unfold ZV at ht
 split at ht
 ·rename_i a b v
  cases ht
  refine Eq.trans ?_ (xdK a b v _).symm
  kernel_rfl
 ·cases ht
def xhU : Sm := fun args H => match args, H with
 | [.agg (.port :: gc), .c (.int .i64 p)], [] => (match xr gc with
   | some g => some (mkS (Pg) (Yy g p) fun r => some (.agg r.cells, []))
   | _ => none)
 | _, _ => none
theorem xrj (hl : SoundL I ka0) : SoundF I 234 xhU := by
 refine sq hl 1 Tryz.func234 fun args H t ht => ?_
 unfold xhU at ht
 split at ht
 ·rename_i gc p
  split at ht
  ·rename_i g hg
   obtain rfl := xi hg
   cases ht
   refine Eq.trans ?_ (xnQ g p _).symm
   kernel_rfl
  ·cases ht
 ·cases ht
def xhV : Sm := fun args H => match args, H with
 | [.agg (.port :: gc), .c (.int .i64 p), .c (.int .i64 k), .c (.int .i64 n)], [] => (match xr gc with
   | some g => some (mkS (Unit) (ja g p k n) fun r => some (.tup [], []))
   | _ => none)
 | _, _ => none
theorem xrk (hl : SoundL I ka0) : SoundF I 222 xhV := by
 refine sq hl 1 Tryz.func222 fun args H t ht => ?_
 unfold xhV at ht
 split at ht
 ·rename_i gc p k n
  split at ht
  ·rename_i g hg
   obtain rfl := xi hg
   cases ht
   refine Eq.trans ?_ (xnR g p k n _).symm
   kernel_rfl
  ·cases ht
 ·cases ht
def xhW : Sm := fun args H => match args, H with
 | [.agg (.port :: gc)], [] => (match shOf gc with
   | some (g, p) => some (mkS (Bt) (Yz g p) fun r => some (.agg r.cells, []))
   | _ => none)
 | _, _ => none
theorem xrl (hl : SoundL I ka0) : SoundF I 176 xhW := by
 refine sq hl 1 Tryz.func176 fun args H t ht => ?_
 unfold xhW at ht
 split at ht
 ·rename_i gc
  split at ht
  ·rename_i g p hg
   obtain rfl := xbS hg
   cases ht
   refine Eq.trans ?_ (xnS g p _).symm
   kernel_rfl
  ·cases ht
 ·cases ht
def xdP : Sm := fun args H => match args, H with
 | [.agg (.port :: gc), .agg wasc, .agg nowc], [] => (match shOf gc with
   | some (g, p) => (match Bt.of wasc with
   | some was => (match Bt.of nowc with
   | some now => some (mkS (Bool) (ZU g p was now) fun r => some (.c (.bool r), []))
   | _ => none)
   | _ => none)
   | _ => none)
 | _, _ => none
theorem xnY (hl : SoundL I ka0) : SoundF I 178 xdP := by
 refine sq hl 1 Tryz.func178 fun args H t ht => ?_
 unfold xdP at ht
 split at ht
 ·rename_i gc wasc nowc
  split at ht
  ·rename_i g p hg
   obtain rfl := xbS hg
   split at ht
   ·rename_i was hwas
    obtain rfl := Bt.of_eq hwas
    split at ht
    ·rename_i now hnow
     obtain rfl := Bt.of_eq hnow
     cases ht
     refine Eq.trans ?_ (xk2 g p was now _).symm
     kernel_rfl
    ·cases ht
   ·cases ht
  ·cases ht
 ·cases ht
def xdQ : Sm := fun args H => match args, H with
 | [.c .port, .agg gc], [] => (match xr gc with
   | some g => some (mkS (Bool) (xnT g) fun r => some (.c (.bool r), []))
   | _ => none)
 | _, _ => none
theorem xnZ (hl : SoundL I ka0) : SoundF I 73 xdQ := by
 refine sq hl 1 Tryz.func73 fun args H t ht => ?_
 unfold xdQ at ht
 split at ht
 ·rename_i gc
  split at ht
  ·rename_i g hg
   obtain rfl := xi hg
   cases ht
   refine Eq.trans ?_ (xk3 g _).symm
   kernel_rfl
  ·cases ht
 ·cases ht
def xdR : Sm := fun args H => match args, H with
 | [.c .port, .agg gc], [] => (match xr gc with
   | some g => some (mkS (Bool) (qP g) fun r => some (.c (.bool r), []))
   | _ => none)
 | _, _ => none
theorem xn0 (hl : SoundL I ka0) : SoundF I 83 xdR := by
 refine sq hl 1 Tryz.func83 fun args H t ht => ?_
 unfold xdR at ht
 split at ht
 ·rename_i gc
  split at ht
  ·rename_i g hg
   obtain rfl := xi hg
   cases ht
   refine Eq.trans ?_ (xk4 g _).symm
   kernel_rfl
  ·cases ht
 ·cases ht
def xdS : Sm := fun args H => match args, H with
 | [.c .port, .agg gc, .c (.int .i64 c)], [] => (match xr gc with
   | some g => some (mkS (Bool) (Wk g c) fun r => some (.c (.bool r), []))
   | _ => none)
 | _, _ => none
theorem xn1 (hl : SoundL I ka0) : SoundF I 173 xdS := by
 refine sq hl 1 Tryz.func173 fun args H t ht => ?_
 unfold xdS at ht
 split at ht
 ·rename_i gc c
  split at ht
  ·rename_i g hg
   obtain rfl := xi hg
   cases ht
   refine Eq.trans ?_ (xk5 g c _).symm
   kernel_rfl
  ·cases ht
 ·cases ht
def xah : Sm := fun args H => match args, H with
 | [.c (.int .u64 it)], [] => some (mkS (Int) (xhK it) fun r => some (.c (.int .i64 r), []))
 | _, _ => none
theorem xk9 (hl : SoundL I ka0) : SoundF I 214 xah := by
 refine sq hl 1 Tryz.func214 fun args H t ht => ?_
 unfold xah at ht
 split at ht
 ·rename_i it
  cases ht
  refine Eq.trans ?_ (xhL it _).symm
  kernel_rfl
 ·cases ht
def xai : Sm := fun args H => match args, H with
 | [.c (.int .i64 s)], [] => some (mkS (Int) (xhM s) fun r => some (.c (.int .i64 r), []))
 | _, _ => none
theorem xla (hl : SoundL I ka0) : SoundF I 78 xai := by
 refine sq hl 1 Tryz.func78 fun args H t ht => ?_
 unfold xai at ht
 split at ht
 ·rename_i s
  cases ht
  refine Eq.trans ?_ (xhN s _).symm
  kernel_rfl
 ·cases ht
def xaj : Sm := fun args H => match args, H with
 | [.c (.int .i64 s)], [] => some (mkS (Bool) (VN s) fun r => some (.c (.bool r), []))
 | _, _ => none
theorem xlb (hl : SoundL I ka0) : SoundF I 153 xaj := by
 refine sq hl 1 Tryz.func153 fun args H t ht => ?_
 unfold xaj at ht
 split at ht
 ·rename_i s
  cases ht
  refine Eq.trans ?_ (xhO s _).symm
  kernel_rfl
 ·cases ht
def xak : Sm := fun args H => match args, H with
 | [.c (.int .i64 s)], [] => some (mkS (Bool) (XK s) fun r => some (.c (.bool r), []))
 | _, _ => none
theorem xlc (hl : SoundL I ka0) : SoundF I 74 xak := by
 refine sq hl 1 Tryz.func74 fun args H t ht => ?_
 unfold xak at ht
 split at ht
 ·rename_i s
  cases ht
  refine Eq.trans ?_ (xhP s _).symm
  kernel_rfl
 ·cases ht
def xhX : Sm := fun args H => match args, H with
 | [.agg wc, .c (.int .i64 k)], [] => (match Pg.of wc with
   | some w => some (mkS (Bool) (xgD w k) fun r => some (.c (.bool r), []))
   | _ => none)
 | _, _ => none
theorem xrm (hl : SoundL I ka0) : SoundF I 264 xhX := by
 refine sq hl 1 Tryz.func264 fun args H t ht => ?_
 unfold xhX at ht
 split at ht
 ·rename_i wc k
  split at ht
  ·rename_i w hw
   obtain rfl := Pg.of_eq hw
   cases ht
   refine Eq.trans ?_ (xnU w k _).symm
   kernel_rfl
  ·cases ht
 ·cases ht
def xhY : Sm := fun args H => match args, H with
 | [.agg wc], [] => (match Pg.of wc with
   | some w => some (mkS (Int) (vQ w) fun r => some (.c (.int .i64 r), []))
   | _ => none)
 | _, _ => none
theorem xrn (hl : SoundL I ka0) : SoundF I 236 xhY := by
 refine sq hl 1 Tryz.func236 fun args H t ht => ?_
 unfold xhY at ht
 split at ht
 ·rename_i wc
  split at ht
  ·rename_i w hw
   obtain rfl := Pg.of_eq hw
   cases ht
   refine Eq.trans ?_ (xnV w _).symm
   kernel_rfl
  ·cases ht
 ·cases ht
def xdT : Sm := fun args H => match args, H with
 | [.c .port, .agg gc, .c (.int .i64 nd), .c (.int .u64 it)], [] => (match xr gc with
   | some g => some (mkS (Bool) (Wl g nd it) fun r => some (.c (.bool r), []))
   | _ => none)
 | _, _ => none
theorem xn2 (hl : SoundL I ka0) : SoundF I 237 xdT := by
 refine sq hl 10 Tryz.func237 fun args H t ht => ?_
 unfold xdT at ht
 split at ht
 ·rename_i gc nd it
  split at ht
  ·rename_i g hg
   obtain rfl := xi hg
   cases ht
   refine Eq.trans ?_ (xk6 g nd it _).symm
   kernel_rfl
  ·cases ht
 ·cases ht
def xdU : Sm := fun args H => match args, H with
 | [.agg gc, .c (.int .i64 a), .c (.int .i64 s)], [] => (match xr gc with
   | some g => some (mkS (Int) (xnW g a s) fun r => some (.c (.int .i64 r), []))
   | _ => none)
 | _, _ => none
theorem xn3 (hl : SoundL I ka0) : SoundF I 113 xdU := by
 refine sq hl 1 Tryz.func113 fun args H t ht => ?_
 unfold xdU at ht
 split at ht
 ·rename_i gc a s
  split at ht
  ·rename_i g hg
   obtain rfl := xi hg
   cases ht
   refine Eq.trans ?_ (xk7 g a s _).symm
   kernel_rfl
  ·cases ht
 ·cases ht
def ka1 : List (Nat × Sm) := (233, xhS) :: (89, xhT) :: (253, xdO) :: (230, xag) :: (250, ZV) :: (234, xhU) :: (222, xhV) :: (176, xhW) :: (178, xdP) :: (73, xdQ) :: (83, xdR) :: (173, xdS) :: (214, xah) :: (78, xai) :: (153, xaj) :: (74, xak) :: (264, xhX) :: (236, xhY) :: (237, xdT) :: (113, xdU) :: ka0
theorem YA : SoundL I ka1 := (.cons (xrh vo) (.cons (xri vo) (.cons (xnX vo) (.cons (xk8 vo) (.cons (xe7 vo) (.cons (xrj vo) (.cons (xrk vo) (.cons (xrl vo) (.cons (xnY vo) (.cons (xnZ vo) (.cons (xn0 vo) (.cons (xn1 vo) (.cons (xk9 vo) (.cons (xla vo) (.cons (xlb vo) (.cons (xlc vo) (.cons (xrm vo) (.cons (xrn vo) (.cons (xn2 vo) (.cons (xn3 vo) vo))))))))))))))))))))
end Go.Proofs.YtaegelbaghaooaaGreat.Lx
