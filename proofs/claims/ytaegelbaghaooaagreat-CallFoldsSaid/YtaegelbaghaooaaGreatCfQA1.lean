/- Part. -/
import Derived.Test.YtaegelbaghaooaaGreatCfM3
set_option linter.all false
open Go.IntKind (i64 u64 u32 u8)
namespace Go.Proofs.YtaegelbaghaooaaGreat.Lx
open Go
set_option maxRecDepth 1000000
def xqf {β : Type} (κ : Int -> T β) : T β :=
 .op (.self ) fun x0 =>
 κ (u64.wrap (u64.wrap x0 + 1))
def mineT  : T Int := xqf  .ret
theorem xqg {β : Type}  (κ : Int -> T β) : (mineT ).bind κ = xqf  κ := by
 unfold mineT xqf
 first | rfl | simp only [bz]
def xjA {β : Type} (g : Geo) (k it : Int) (κ : Bool -> T β) : T β :=
 .op (.self ) fun x0 =>
 bif it == 0 then (κ (false)) else
 bif decide (atF g 12 (inF (inF x0 k 4) 0 2) < 0) then (κ (false)) else
 .op (.cas (atF g 12 (inF (inF x0 k 4) 0 2)) (0) (it)) fun b3 =>
 bif b3 then (κ (true)) else
 .op (.self ) fun x5 =>
 bif it == 0 then (κ (false)) else
 bif decide (atF g 12 (inF (inF x5 k 4) 1 2) < 0) then (κ (false)) else
 .op (.cas (atF g 12 (inF (inF x5 k 4) 1 2)) (0) (it)) fun b8 =>
 bif b8 then (κ (true)) else
 κ (false)
def xib (g : Geo) (k it : Int) : T Bool := xjA g k it .ret
theorem xqh {β : Type} (g : Geo) (k it : Int) (κ : Bool -> T β) : (xib g k it).bind κ = xjA g k it κ := by
 unfold xib xjA
 first | rfl | simp only [bz]
def xdc {β : Type} (g : Geo) (t k : Int) (κ : (Int × Bool) -> T β) : T β :=
 bif decide (atF g 12 (inF (inF t k 4) 0 2) < 0) then (κ ((0), (false))) else
 .op (.load (atF g 12 (inF (inF t k 4) 0 2))) fun x1 =>
 bif x1 != 0 then (.op (.cas (atF g 12 (inF (inF t k 4) 0 2)) x1 (0)) fun b3 =>
 bif b3 then (κ (x1, (true))) else
 bif decide (atF g 12 (inF (inF t k 4) 1 2) < 0) then (κ ((0), (false))) else
 .op (.load (atF g 12 (inF (inF t k 4) 1 2))) fun x6 =>
 bif x6 != 0 then (.op (.cas (atF g 12 (inF (inF t k 4) 1 2)) x6 (0)) fun b8 =>
 bif b8 then (κ (x6, (true))) else
 κ ((0), (false))) else
 κ ((0), (false))) else
 bif decide (atF g 12 (inF (inF t k 4) 1 2) < 0) then (κ ((0), (false))) else
 .op (.load (atF g 12 (inF (inF t k 4) 1 2))) fun x4 =>
 bif x4 != 0 then (.op (.cas (atF g 12 (inF (inF t k 4) 1 2)) x4 (0)) fun b6 =>
 bif b6 then (κ (x4, (true))) else
 κ ((0), (false))) else
 κ ((0), (false))
def Zf (g : Geo) (t k : Int) : T (Int × Bool) := xdc g t k .ret
theorem xm0 {β : Type} (g : Geo) (t k : Int) (κ : (Int × Bool) -> T β) : (Zf g t k).bind κ = xdc g t k κ := by
 unfold Zf xdc
 first | rfl | simp only [bz]
def KG {β : Type} (g : Geo) (κ : Int -> T β) : T β :=
 .op (.self ) fun x0 =>
 .op (.add (atF g 6 x0) (1)) fun x1 =>
 .op (.self ) fun x2 =>
 κ (u32.wrap (u32.wrap (u32.wrap (u32.wrap x1 + 1) * 64) + u32.wrap x2))
def jh (g : Geo) : T Int := KG g .ret
theorem xjB {β : Type} (g : Geo) (κ : Int -> T β) : (jh g).bind κ = KG g κ := by
 unfold jh KG
 first | rfl | simp only [bz]
def WT {β : Type} (a b v : Int) (κ : Stt -> T β) : T β :=
 κ ⟨(2), (b), (a), (v)⟩
def xbg (a b v : Int) : T Stt := WT a b v .ret
theorem xe7 {β : Type} (a b v : Int) (κ : Stt -> T β) : (xbg a b v).bind κ = WT a b v κ := by
 unfold xbg WT
 first | rfl | simp only [bz]
def xjC {β : Type} (g : Geo) (p : Int) (κ : Pg -> T β) : T β :=
 .op (.load (atF g 7 p)) fun x0 =>
 κ ⟨((pgOf x0).kind), ((pgOf x0).len), ((pgOf x0).cls), ((pgOf x0).owner)⟩
def We (g : Geo) (p : Int) : T Pg := xjC g p .ret
theorem xqi {β : Type} (g : Geo) (p : Int) (κ : Pg -> T β) : (We g p).bind κ = xjC g p κ := by
 unfold We xjC
 first | rfl | simp only [bz]
def xjD {β : Type} (g : Geo) (p k n : Int) (κ : Unit -> T β) : T β :=
 .op (.store (atF g 7 p) ((Pg.mk k n 0 0).word)) fun _ =>
 κ ()
def ji (g : Geo) (p k n : Int) : T Unit := xjD g p k n .ret
theorem xqj {β : Type} (g : Geo) (p k n : Int) (κ : Unit -> T β) : (ji g p k n).bind κ = xjD g p k n κ := by
 unfold ji xjD
 first | rfl | simp only [bz]
def xjE {β : Type} (g : Geo) (p : Int) (κ : Bt -> T β) : T β :=
 .op (.load (atF g 8 p)) fun x0 =>
 κ ⟨((btOf x0).map), ((btOf x0).has), ((btOf x0).cls), ((btOf x0).ver)⟩
def Wf (g : Geo) (p : Int) : T Bt := xjE g p .ret
theorem xqk {β : Type} (g : Geo) (p : Int) (κ : Bt -> T β) : (Wf g p).bind κ = xjE g p κ := by
 unfold Wf xjE
 first | rfl | simp only [bz]
def xdd {β : Type} (g : Geo) (p : Int) (was : Bt) (now : Bt) (κ : Bool -> T β) : T β :=
 .op (.cas (atF g 8 p) ((Bt.mk was.map was.has was.cls was.ver).word) ((Bt.mk now.map now.has now.cls now.ver).word)) fun b0 =>
 κ b0
def Xj (g : Geo) (p : Int) (was : Bt) (now : Bt) : T Bool := xdd g p was now .ret
theorem xm1 {β : Type} (g : Geo) (p : Int) (was : Bt) (now : Bt) (κ : Bool -> T β) : (Xj g p was now).bind κ = xdd g p was now κ := by
 unfold Xj xdd
 first | rfl | simp only [bz]
def xjF {β : Type} (g : Geo) (κ : Bool -> T β) : T β :=
 κ (g.pages == 0)
def xql (g : Geo) : T Bool := xjF g .ret
theorem xm2 {β : Type} (g : Geo) (κ : Bool -> T β) : (xql g).bind κ = xjF g κ := by
 unfold xql xjF
 first | rfl | simp only [bz]
def xde {β : Type} (g : Geo) (κ : Bool -> T β) : T β :=
 .op (.self ) fun x0 =>
 κ (atF g 15 x0 == -1)
def jC (g : Geo) : T Bool := xde g .ret
theorem xm3 {β : Type} (g : Geo) (κ : Bool -> T β) : (jC g).bind κ = xde g κ := by
 unfold jC xde
 first | rfl | simp only [bz]
def xdf {β : Type} (g : Geo) (c : Int) (κ : Bool -> T β) : T β :=
 .op (.self ) fun x0 =>
 κ (atF g 13 (inF x0 c 4) == -1)
def Xk (g : Geo) (c : Int) : T Bool := xdf g c .ret
theorem xm4 {β : Type} (g : Geo) (c : Int) (κ : Bool -> T β) : (Xk g c).bind κ = xdf g c κ := by
 unfold Xk xdf
 first | rfl | simp only [bz]
def xe8 {β : Type} (it : Int) (κ : Int -> T β) : T β :=
 κ (i64.wrap (i64.wrap it - 1))
def xjG (it : Int) : T Int := xe8 it .ret
theorem xjH {β : Type} (it : Int) (κ : Int -> T β) : (xjG it).bind κ = xe8 it κ := by
 unfold xjG xe8
 first | rfl | simp only [bz]
def xe9 {β : Type} (s : Int) (κ : Int -> T β) : T β :=
 bif decide (s < 1) then (κ (0)) else
 κ (i64.wrap (i64.wrap ((i64.wrap (s - 1)).tdiv 64) + 1))
def xjI (s : Int) : T Int := xe9 s .ret
theorem xjJ {β : Type} (s : Int) (κ : Int -> T β) : (xjI s).bind κ = xe9 s κ := by
 unfold xjI xe9
 first | rfl | simp only [bz]
def xfa {β : Type} (s : Int) (κ : Bool -> T β) : T β :=
 bif decide (s > 0) then (κ (bits BinOp.and i64 s (i64.wrap (s - 1)) == 0)) else
 κ (false)
def KH (s : Int) : T Bool := xfa s .ret
theorem xjK {β : Type} (s : Int) (κ : Bool -> T β) : (KH s).bind κ = xfa s κ := by
 unfold KH xfa
 first | rfl | simp only [bz]
def KI {β : Type} (s : Int) (κ : Bool -> T β) : T β :=
 bif decide (s > 0) then (κ (bits BinOp.and i64 s (i64.wrap (s - 1)) == 0)) else
 κ (false)
def Yq (s : Int) : T Bool := KI s .ret
theorem xjL {β : Type} (s : Int) (κ : Bool -> T β) : (Yq s).bind κ = KI s κ := by
 unfold Yq KI
 first | rfl | simp only [bz]
def xjM {β : Type} (w : Pg) (k : Int) (κ : Bool -> T β) : T β :=
 bif w.len == k then (bif w.kind == 4 then (κ (true)) else
 bif w.kind == 5 then (κ (true)) else
 κ (w.kind == 3)) else
 κ (false)
def xic (w : Pg) (k : Int) : T Bool := xjM w k .ret
theorem xqm {β : Type} (w : Pg) (k : Int) (κ : Bool -> T β) : (xic w k).bind κ = xjM w k κ := by
 unfold xic xjM
 first | rfl | simp only [bz]
def xbh {β : Type} (w : Pg) (κ : Int -> T β) : T β :=
 bif w.kind == 0 then (κ (1)) else
 bif w.kind == 2 then (κ (1)) else
 κ (if w.len < 1 then 1 else w.len)
def vJ (w : Pg) : T Int := xbh w .ret
theorem xqn {β : Type} (w : Pg) (κ : Int -> T β) : (vJ w).bind κ = xbh w κ := by
 unfold vJ xbh
 first | rfl | simp only [bz]
def xdg {β : Type} (g : Geo) (nd it : Int) (κ : Bool -> T β) : T β :=
 .op (.load (atF g 18 (inF (i64.wrap (nd - 1)) 0 8))) fun x0 =>
 bif x0 == 0 then (.op (.store (atF g 18 (inF (i64.wrap (nd - 1)) 0 8)) (it)) fun _ =>
 κ (true)) else
 .op (.load (atF g 18 (inF (i64.wrap (nd - 1)) 1 8))) fun x2 =>
 bif x2 == 0 then (.op (.store (atF g 18 (inF (i64.wrap (nd - 1)) 1 8)) (it)) fun _ =>
 κ (true)) else
 .op (.load (atF g 18 (inF (i64.wrap (nd - 1)) 2 8))) fun x4 =>
 bif x4 == 0 then (.op (.store (atF g 18 (inF (i64.wrap (nd - 1)) 2 8)) (it)) fun _ =>
 κ (true)) else
 .op (.load (atF g 18 (inF (i64.wrap (nd - 1)) 3 8))) fun x6 =>
 bif x6 == 0 then (.op (.store (atF g 18 (inF (i64.wrap (nd - 1)) 3 8)) (it)) fun _ =>
 κ (true)) else
 .op (.load (atF g 18 (inF (i64.wrap (nd - 1)) 4 8))) fun x8 =>
 bif x8 == 0 then (.op (.store (atF g 18 (inF (i64.wrap (nd - 1)) 4 8)) (it)) fun _ =>
 κ (true)) else
 .op (.load (atF g 18 (inF (i64.wrap (nd - 1)) 5 8))) fun x10 =>
 bif x10 == 0 then (.op (.store (atF g 18 (inF (i64.wrap (nd - 1)) 5 8)) (it)) fun _ =>
 κ (true)) else
 .op (.load (atF g 18 (inF (i64.wrap (nd - 1)) 6 8))) fun x12 =>
 bif x12 == 0 then (.op (.store (atF g 18 (inF (i64.wrap (nd - 1)) 6 8)) (it)) fun _ =>
 κ (true)) else
 .op (.load (atF g 18 (inF (i64.wrap (nd - 1)) 7 8))) fun x14 =>
 bif x14 == 0 then (.op (.store (atF g 18 (inF (i64.wrap (nd - 1)) 7 8)) (it)) fun _ =>
 κ (true)) else
 κ (false)
def WU (g : Geo) (nd it : Int) : T Bool := xdg g nd it .ret
theorem xm5 {β : Type} (g : Geo) (nd it : Int) (κ : Bool -> T β) : (WU g nd it).bind κ = xdg g nd it κ := by
 unfold WU xdg
 first | rfl | simp only [bz]
def xjN {β : Type} (g : Geo) (nd : Int) (κ : Bool -> T β) : T β :=
 .op (.load (atF g 18 (inF (i64.wrap (nd - 1)) 0 8))) fun x0 =>
 bif x0 != 0 then (κ (false)) else
 .op (.load (atF g 18 (inF (i64.wrap (nd - 1)) 1 8))) fun x2 =>
 bif x2 != 0 then (κ (false)) else
 .op (.load (atF g 18 (inF (i64.wrap (nd - 1)) 2 8))) fun x4 =>
 bif x4 != 0 then (κ (false)) else
 .op (.load (atF g 18 (inF (i64.wrap (nd - 1)) 3 8))) fun x6 =>
 bif x6 != 0 then (κ (false)) else
 .op (.load (atF g 18 (inF (i64.wrap (nd - 1)) 4 8))) fun x8 =>
 bif x8 != 0 then (κ (false)) else
 .op (.load (atF g 18 (inF (i64.wrap (nd - 1)) 5 8))) fun x10 =>
 bif x10 != 0 then (κ (false)) else
 .op (.load (atF g 18 (inF (i64.wrap (nd - 1)) 6 8))) fun x12 =>
 bif x12 != 0 then (κ (false)) else
 .op (.load (atF g 18 (inF (i64.wrap (nd - 1)) 7 8))) fun x14 =>
 bif x14 != 0 then (κ (false)) else
 κ (true)
def xid (g : Geo) (nd : Int) : T Bool := xjN g nd .ret
theorem xqo {β : Type} (g : Geo) (nd : Int) (κ : Bool -> T β) : (xid g nd).bind κ = xjN g nd κ := by
 unfold xid xjN
 first | rfl | simp only [bz]
def xjO {β : Type} (g : Geo) (a s : Int) (κ : Int -> T β) : T β :=
 bif decide (s < 1) then (κ (11)) else
 bif decide (s > i64.wrap (g.pages * 64)) then (κ (11)) else
 bif decide (a < 0) then (κ (13)) else
 bif decide (a >= i64.wrap (g.pages * 64)) then (κ (13)) else
 bif a.tmod 8 != 0 then (κ (13)) else
 κ (0)
def xqp (g : Geo) (a s : Int) : T Int := xjO g a s .ret
theorem xm6 {β : Type} (g : Geo) (a s : Int) (κ : Int -> T β) : (xqp g a s).bind κ = xjO g a s κ := by
 unfold xqp xjO
 first | rfl | simp only [bz]
def xjP : Sm := fun
 | [.c .port], [] => some (mkS (Int) (mineT) fun r => some (.c (.int .u64 r), []))
 | _, _ => none
variable {σ : Type} {I : Port Tryz.prog σ}
theorem xub (hl : SoundL I ka0) : SoundF I 233 xjP := by
 refine sq hl 1 Tryz.func233 fun args H t ht => ?_
 unfold xjP at ht
 split at ht
 ·skip
  cases ht
  refine Eq.trans ?_ (xqg  _).symm
  kernel_rfl
 ·cases ht
def xsg : Sm := gS fun
 | g, [.c (.int .i64 k), .c (.int .u64 it)] => some (mkS (Bool) (xib g k it) fun r => some (.c (.bool r), []))
 | _, _ => none
theorem xuc (hl : SoundL I ka0) : SoundF I 89 xsg := by
 refine gsq hl 5 Tryz.func89 fun g l t ht => ?_
 split at ht
 ·rename_i k it
  cases ht
  refine Eq.trans ?_ (xqh g k it _).symm
  kernel_rfl
 ·cases ht
def xm7 : Sm := gS fun
 | g, [.c (.int .i64 t), .c (.int .i64 k)] => some (mkS ((Int × Bool)) (Zf g t k) fun r => some (.tup [.c (.int .u64 r.1), .c (.bool r.2)], []))
 | _, _ => none
theorem xqq (hl : SoundL I ka0) : SoundF I 253 xm7 := by
 refine gsq hl 5 Tryz.func253 fun g l t ht => ?_
 split at ht
 ·rename_i t k
  cases ht
  refine Eq.trans ?_ (xm0 g t k _).symm
  kernel_rfl
 ·cases ht
def xie : Sm := gS fun
 | g, [] => some (mkS (Int) (jh g) fun r => some (.c (.int .u32 r), []))
 | _, _ => none
theorem xm8 (hl : SoundL I ka0) : SoundF I 230 xie := by
 refine gsq hl 1 Tryz.func230 fun g l t ht => ?_
 split at ht
 ·cases ht
  refine Eq.trans ?_ (xjB g _).symm
  kernel_rfl
 ·cases ht
def Xl : Sm := fun
 | [.c (.int .i64 a), .c (.int .i64 b), .c (.int .u32 v)], [] => some (mkS (Stt) (xbg a b v) fun r => some (.agg r.cells, []))
 | _, _ => none
theorem xgw (hl : SoundL I ka0) : SoundF I 250 Xl := by
 refine sq hl 1 Tryz.func250 fun args H t ht => ?_
 unfold Xl at ht
 split at ht
 ·rename_i a b v
  cases ht
  refine Eq.trans ?_ (xe7 a b v _).symm
  kernel_rfl
 ·cases ht
def xjQ : Sm := fun
 | [.agg (.port :: gc), .c (.int .i64 p)], [] => (match xu gc with
   | some g => some (mkS (Pg) (We g p) fun r => some (.agg r.cells, []))
   | _ => none)
 | _, _ => none
theorem xud (hl : SoundL I ka0) : SoundF I 234 xjQ := by
 refine sq hl 1 Tryz.func234 fun args H t ht => ?_
 unfold xjQ at ht
 split at ht
 ·rename_i gc p
  split at ht
  ·rename_i g hg
   obtain rfl := xe hg
   cases ht
   refine Eq.trans ?_ (xqi g p _).symm
   kernel_rfl
  ·cases ht
 ·cases ht
def xjR : Sm := fun
 | [.agg (.port :: gc), .c (.int .i64 p), .c (.int .i64 k), .c (.int .i64 n)], [] => (match xu gc with
   | some g => some (mkS (Unit) (ji g p k n) fun r => some (.tup [], []))
   | _ => none)
 | _, _ => none
theorem xue (hl : SoundL I ka0) : SoundF I 222 xjR := by
 refine sq hl 1 Tryz.func222 fun args H t ht => ?_
 unfold xjR at ht
 split at ht
 ·rename_i gc p k n
  split at ht
  ·rename_i g hg
   obtain rfl := xe hg
   cases ht
   refine Eq.trans ?_ (xqj g p k n _).symm
   kernel_rfl
  ·cases ht
 ·cases ht
def xjS : Sm := fun
 | [.agg (.port :: gc)], [] => (match shOf gc with
   | some (g, p) => some (mkS (Bt) (Wf g p) fun r => some (.agg r.cells, []))
   | _ => none)
 | _, _ => none
theorem xuf (hl : SoundL I ka0) : SoundF I 176 xjS := by
 refine sq hl 1 Tryz.func176 fun args H t ht => ?_
 unfold xjS at ht
 split at ht
 ·rename_i gc
  split at ht
  ·rename_i g p hg
   obtain rfl := xc7 hg
   cases ht
   refine Eq.trans ?_ (xqk g p _).symm
   kernel_rfl
  ·cases ht
 ·cases ht
def xfb : Sm := fun
 | [.agg (.port :: gc), .agg wasc, .agg nowc], [] => (match shOf gc with
   | some (g, p) => (match Bt.of wasc with
   | some was => (match Bt.of nowc with
   | some now => some (mkS (Bool) (Xj g p was now) fun r => some (.c (.bool r), []))
   | _ => none)
   | _ => none)
   | _ => none)
 | _, _ => none
theorem xqr (hl : SoundL I ka0) : SoundF I 178 xfb := by
 refine sq hl 1 Tryz.func178 fun args H t ht => ?_
 unfold xfb at ht
 split at ht
 ·rename_i gc wasc nowc
  split at ht
  ·rename_i g p hg
   obtain rfl := xc7 hg
   split at ht
   ·rename_i was hwas
    obtain rfl := Bt.of_eq hwas
    split at ht
    ·rename_i now hnow
     obtain rfl := Bt.of_eq hnow
     cases ht
     refine Eq.trans ?_ (xm1 g p was now _).symm
     kernel_rfl
    ·cases ht
   ·cases ht
  ·cases ht
 ·cases ht
def xm9 : Sm := gS fun
 | g, [] => some (mkS (Bool) (xql g) fun r => some (.c (.bool r), []))
 | _, _ => none
theorem xqs (hl : SoundL I ka0) : SoundF I 73 xm9 := by
 refine gsq hl 1 Tryz.func73 fun g l t ht => ?_
 split at ht
 ·cases ht
  refine Eq.trans ?_ (xm2 g _).symm
  kernel_rfl
 ·cases ht
def xna : Sm := gS fun
 | g, [] => some (mkS (Bool) (jC g) fun r => some (.c (.bool r), []))
 | _, _ => none
theorem xqt (hl : SoundL I ka0) : SoundF I 83 xna := by
 refine gsq hl 1 Tryz.func83 fun g l t ht => ?_
 split at ht
 ·cases ht
  refine Eq.trans ?_ (xm3 g _).symm
  kernel_rfl
 ·cases ht
def xnb : Sm := gS fun
 | g, [.c (.int .i64 c)] => some (mkS (Bool) (Xk g c) fun r => some (.c (.bool r), []))
 | _, _ => none
theorem xqu (hl : SoundL I ka0) : SoundF I 173 xnb := by
 refine gsq hl 1 Tryz.func173 fun g l t ht => ?_
 split at ht
 ·rename_i c
  cases ht
  refine Eq.trans ?_ (xm4 g c _).symm
  kernel_rfl
 ·cases ht
def xbi : Sm := fun
 | [.c (.int .u64 it)], [] => some (mkS (Int) (xjG it) fun r => some (.c (.int .i64 r), []))
 | _, _ => none
theorem xnc (hl : SoundL I ka0) : SoundF I 214 xbi := by
 refine sq hl 1 Tryz.func214 fun args H t ht => ?_
 unfold xbi at ht
 split at ht
 ·rename_i it
  cases ht
  refine Eq.trans ?_ (xjH it _).symm
  kernel_rfl
 ·cases ht
def xbj : Sm := fun
 | [.c (.int .i64 s)], [] => some (mkS (Int) (xjI s) fun r => some (.c (.int .i64 r), []))
 | _, _ => none
theorem xnd (hl : SoundL I ka0) : SoundF I 78 xbj := by
 refine sq hl 1 Tryz.func78 fun args H t ht => ?_
 unfold xbj at ht
 split at ht
 ·rename_i s
  cases ht
  refine Eq.trans ?_ (xjJ s _).symm
  kernel_rfl
 ·cases ht
def xbk : Sm := fun
 | [.c (.int .i64 s)], [] => some (mkS (Bool) (KH s) fun r => some (.c (.bool r), []))
 | _, _ => none
theorem xne (hl : SoundL I ka0) : SoundF I 153 xbk := by
 refine sq hl 1 Tryz.func153 fun args H t ht => ?_
 unfold xbk at ht
 split at ht
 ·rename_i s
  cases ht
  refine Eq.trans ?_ (xjK s _).symm
  kernel_rfl
 ·cases ht
def xbl : Sm := fun
 | [.c (.int .i64 s)], [] => some (mkS (Bool) (Yq s) fun r => some (.c (.bool r), []))
 | _, _ => none
theorem xnf (hl : SoundL I ka0) : SoundF I 74 xbl := by
 refine sq hl 1 Tryz.func74 fun args H t ht => ?_
 unfold xbl at ht
 split at ht
 ·rename_i s
  cases ht
  refine Eq.trans ?_ (xjL s _).symm
  kernel_rfl
 ·cases ht
def xjT : Sm := fun
 | [.agg wc, .c (.int .i64 k)], [] => (match Pg.of wc with
   | some w => some (mkS (Bool) (xic w k) fun r => some (.c (.bool r), []))
   | _ => none)
 | _, _ => none
theorem xug (hl : SoundL I ka0) : SoundF I 264 xjT := by
 refine sq hl 1 Tryz.func264 fun args H t ht => ?_
 unfold xjT at ht
 split at ht
 ·rename_i wc k
  split at ht
  ·rename_i w hw
   obtain rfl := Pg.of_eq hw
   cases ht
   refine Eq.trans ?_ (xqm w k _).symm
   kernel_rfl
  ·cases ht
 ·cases ht
def xjU : Sm := fun
 | [.agg wc], [] => (match Pg.of wc with
   | some w => some (mkS (Int) (vJ w) fun r => some (.c (.int .i64 r), []))
   | _ => none)
 | _, _ => none
theorem xuh (hl : SoundL I ka0) : SoundF I 236 xjU := by
 refine sq hl 1 Tryz.func236 fun args H t ht => ?_
 unfold xjU at ht
 split at ht
 ·rename_i wc
  split at ht
  ·rename_i w hw
   obtain rfl := Pg.of_eq hw
   cases ht
   refine Eq.trans ?_ (xqn w _).symm
   kernel_rfl
  ·cases ht
 ·cases ht
def xng : Sm := gS fun
 | g, [.c (.int .i64 nd), .c (.int .u64 it)] => some (mkS (Bool) (WU g nd it) fun r => some (.c (.bool r), []))
 | _, _ => none
theorem xqv (hl : SoundL I ka0) : SoundF I 237 xng := by
 refine gsq hl 10 Tryz.func237 fun g l t ht => ?_
 split at ht
 ·rename_i nd it
  cases ht
  refine Eq.trans ?_ (xm5 g nd it _).symm
  kernel_rfl
 ·cases ht
def xsh : Sm := gS fun
 | g, [.c (.int .i64 nd)] => some (mkS (Bool) (xid g nd) fun r => some (.c (.bool r), []))
 | _, _ => none
theorem xui (hl : SoundL I ka0) : SoundF I 254 xsh := by
 refine gsq hl 10 Tryz.func254 fun g l t ht => ?_
 split at ht
 ·rename_i nd
  cases ht
  refine Eq.trans ?_ (xqo g nd _).symm
  kernel_rfl
 ·cases ht
def xfc : Sm := fun
 | [.agg gc, .c (.int .i64 a), .c (.int .i64 s)], [] => (match xu gc with
   | some g => some (mkS (Int) (xqp g a s) fun r => some (.c (.int .i64 r), []))
   | _ => none)
 | _, _ => none
theorem xqw (hl : SoundL I ka0) : SoundF I 113 xfc := by
 refine sq hl 1 Tryz.func113 fun args H t ht => ?_
 unfold xfc at ht
 split at ht
 ·rename_i gc a s
  split at ht
  ·rename_i g hg
   obtain rfl := xe hg
   cases ht
   refine Eq.trans ?_ (xm6 g a s _).symm
   kernel_rfl
  ·cases ht
 ·cases ht
def ka1 : List (Nat × Sm) := (233, xjP) :: (89, xsg) :: (253, xm7) :: (230, xie) :: (250, Xl) :: (234, xjQ) :: (222, xjR) :: (176, xjS) :: (178, xfb) :: (73, xm9) :: (83, xna) :: (173, xnb) :: (214, xbi) :: (78, xbj) :: (153, xbk) :: (74, xbl) :: (264, xjT) :: (236, xjU) :: (237, xng) :: (254, xsh) :: (113, xfc) :: ka0
theorem Wg : SoundL I ka1 := (.cons (xub vf) (.cons (xuc vf) (.cons (xqq vf) (.cons (xm8 vf) (.cons (xgw vf) (.cons (xud vf) (.cons (xue vf) (.cons (xuf vf) (.cons (xqr vf) (.cons (xqs vf) (.cons (xqt vf) (.cons (xqu vf) (.cons (xnc vf) (.cons (xnd vf) (.cons (xne vf) (.cons (xnf vf) (.cons (xug vf) (.cons (xuh vf) (.cons (xqv vf) (.cons (xui vf) (.cons (xqw vf) vf)))))))))))))))))))))
end Go.Proofs.YtaegelbaghaooaaGreat.Lx
