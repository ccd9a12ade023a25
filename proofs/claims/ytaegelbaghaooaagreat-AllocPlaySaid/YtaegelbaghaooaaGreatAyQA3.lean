/- Summaries: runs, slab. (trees printed by program, wip/auto.py) -/
import Derived.Test.YtaegelbaghaooaaGreatAyQA2
import Derived.WalkKit
set_option linter.unusedSimpArgs false
set_option linter.unusedVariables false
set_option linter.unusedSectionVars false
namespace Go.Proofs.YtaegelbaghaooaaGreat.Lx
open Go
set_option maxRecDepth 1000000

def xpD {β : Type} (n : Int) (κ : Int → T β) : T β :=
 (yz (decide (0 ≤ IntKind.u64.wrap n) && decide (IntKind.u64.wrap n ≤ 18446744073709551615))).bind fun r0 =>
 κ (IntKind.i64.wrap (↑(Lib.bitLen (Int.toNat (IntKind.u64.wrap n))) - 1))
def logT (n : Int) : T Int := xpD n .ret
theorem xrq {β : Type} (n : Int) (κ : Int → T β) : (logT n).bind κ = xpD n κ := by
 unfold logT xpD
 first | rfl | (simp only [xa, xb, xe, xc, T.bind_assoc])
def xb3 {β : Type} (g : Geo) (p : Int) (κ : Int → T β) : T β :=
 bif p == 0 then (κ (0)) else
 (Yz g (IntKind.i64.wrap (p - 1))).bind fun r1 =>
 bif r1.kind == 2 then (κ (r1.len)) else
 bif r1.kind == 1 then (κ (r1.len)) else
 κ (0)
def xar (g : Geo) (p : Int) : T Int := xb3 g p .ret
theorem xk4 {β : Type} (g : Geo) (p : Int) (κ : Int → T β) : (xar g p).bind κ = xb3 g p κ := by
 unfold xar xb3
 first | rfl | (simp only [xa, xb, xe, xc, T.bind_assoc])
def VV {β : Type} (g : Geo) (p : Int) (κ : Int → T β) : T β :=
 bif p == g.pages then (κ (0)) else
 (Yz g p).bind fun r1 =>
 bif r1.kind == 1 then (κ (r1.len)) else
 κ (0)
def XJ (g : Geo) (p : Int) : T Int := VV g p .ret
theorem xid {β : Type} (g : Geo) (p : Int) (κ : Int → T β) : (XJ g p).bind κ = VV g p κ := by
 unfold XJ VV
 first | rfl | (simp only [xa, xb, xe, xc, T.bind_assoc])
def xie {β : Type} (g : Geo) (p k : Int) (κ : Bool → T β) : T β :=
 bif decide (p < 0) then (κ (false)) else
 bif decide (p ≥ g.pages) then (κ (false)) else
 bif decide (k < 1) then (κ (false)) else
 bif decide (k > g.pages) then (κ (false)) else
 .op (.cas (atF g 7 p) (Pg.word (Pg.mk 4 k 0 0)) (Pg.word (Pg.mk 5 k 0 0))) fun b4 =>
 κ (b4)
def markT (g : Geo) (p k : Int) : T Bool := xie g p k .ret
theorem xnO {β : Type} (g : Geo) (p k : Int) (κ : Bool → T β) : (markT g p k).bind κ = xie g p k κ := by
 unfold markT xie
 first | rfl | (simp only [xa, xb, xe, xc, T.bind_assoc])
def xif {β : Type} (g : Geo) (p b : Int) (c : Cls) (κ : Int → T β) : T β :=
 κ (IntKind.i64.wrap (IntKind.i64.wrap (p * 8) + IntKind.i64.wrap (Int.tdiv (IntKind.i64.wrap (b * c.size)) 8)))
def xnP (g : Geo) (p b : Int) (c : Cls) : T Int := xif g p b c .ret
theorem xk5 {β : Type} (g : Geo) (p b : Int) (c : Cls) (κ : Int → T β) : (xnP g p b c).bind κ = xif g p b c κ := by
 unfold xnP xif
 first | rfl | (simp only [xa, xb, xe, xc, T.bind_assoc])
def xdQ {β : Type} (c : Cls) (κ : Int → T β) : T β :=
 bif bif decide (c.blocks < 0) then false else true then (κ (IntKind.u8.wrap (IntKind.u8.wrap (1 * 2 ^ if Int.toNat c.blocks ≤ 8 then Int.toNat c.blocks else 8) - 1))) else
 .fail
def xb4 (c : Cls) : T Int := xdQ c .ret
theorem xig {β : Type} (c : Cls) (κ : Int → T β) : (xb4 c).bind κ = xdQ c κ := by
 unfold xb4 xdQ
 first | rfl | (simp only [xa, xb, xe, xc, T.bind_assoc])
def VW {β : Type} (b : Bt) (κ : Int → T β) : T β :=
 bif b.map == 0 then (κ (-1)) else
 (yz (decide (0 ≤ b.map) && decide (b.map ≤ 255))).bind fun r1 =>
 κ (↑(Lib.trailingZeros8 (Int.toNat b.map)))
def firstT (b : Bt) : T Int := VW b .ret
theorem xk6 {β : Type} (b : Bt) (κ : Int → T β) : (firstT b).bind κ = VW b κ := by
 unfold firstT VW
 first | rfl | (simp only [xa, xb, xe, xc, T.bind_assoc])
def xih {β : Type} (b : Bt) (n : Int) (κ : Bool → T β) : T β :=
 bif decide (n > 8) then (κ (false)) else
 (yz (decide (0 ≤ bits BinOp.xor IntKind.u8 (if IntKind.signed IntKind.u8 = true then -1 else IntKind.max IntKind.u8) b.map) && decide (bits BinOp.xor IntKind.u8 (if IntKind.signed IntKind.u8 = true then -1 else IntKind.max IntKind.u8) b.map ≤ 255))).bind fun r1 =>
 κ (decide (↑(Lib.trailingZeros8 (Int.toNat (bits BinOp.xor IntKind.u8 (if IntKind.signed IntKind.u8 = true then -1 else Int.ofNat (2 ^ 8 - 1)) b.map))) ≥ if n < 0 then 0 else n))
def xbr (b : Bt) (n : Int) : T Bool := xih b n .ret
theorem xnQ {β : Type} (b : Bt) (n : Int) (κ : Bool → T β) : (xbr b n).bind κ = xih b n κ := by
 unfold xbr xih
 first | rfl | (simp only [xa, xb, xe, xc, T.bind_assoc])
def xb5 {β : Type} (g : Geo) (k s : Int) (κ : Unit → T β) : T β :=
 (qT g k).bind fun r0 =>
 bif !r0 then ((Xy g).bind fun r2 =>
 .op (.store (atF g 11 k) (Stt.word (Stt.mk 1 s 0 r2))) fun _ =>
 κ ()) else
 κ ()
def xas (g : Geo) (k s : Int) : T Unit := xb5 g k s .ret
theorem xk7 {β : Type} (g : Geo) (k s : Int) (κ : Unit → T β) : (xas g k s).bind κ = xb5 g k s κ := by
 unfold xas xb5
 first | rfl | (simp only [xa, xb, xe, xc, T.bind_assoc])
def xii {β : Type} (g : Geo) (k : Int) (κ : Seen → T β) : T β :=
 (qT g k).bind fun r0 =>
 bif r0 then (κ ⟨(0), (0), (0), (0), (false), (0)⟩) else
 .op (.load (atF g 11 k)) fun x2 =>
 .op (.steps ) fun x3 =>
 bif (wa x2).kind == 1 then (κ ⟨((wa x2).kind), ((wa x2).size), ((wa x2).other), ((wa x2).ver), (true), (x3)⟩) else
 bif (wa x2).kind == 2 then ((xb2 g k x2).bind fun r6 =>
 bif r6.2 then (κ ⟨(r6.fst.kind), (r6.fst.size), (r6.fst.other), (r6.fst.ver), (r6.fst.live), (r6.fst.lin)⟩) else
 .fail) else
 κ ⟨(0), (0), (0), (0), (false), (x3)⟩
def xdR (g : Geo) (k : Int) : T Seen := xii g k .ret
theorem xnR {β : Type} (g : Geo) (k : Int) (κ : Seen → T β) : (xdR g k).bind κ = xii g k κ := by
 unfold xdR xii
 first | rfl | (simp only [xa, xb, xe, xc, T.bind_assoc])
def xat {β : Type} (o : Int) (κ : (Int × Bool) → T β) : T β :=
 bif decide (o < 0) then (κ ((0), (false))) else
 bif Int.tmod o 8 == 0 then (bif decide (IntKind.i64.wrap (Int.tdiv o 8) < 8) then (κ ((IntKind.i64.wrap (Int.tdiv o 8)), (true))) else
 κ ((0), (false))) else
 κ ((0), (false))
def xdS (o : Int) : T (Int × Bool) := xat o .ret
theorem xfb {β : Type} (o : Int) (κ : (Int × Bool) → T β) : (xdS o).bind κ = xat o κ := by
 unfold xdS xat
 first | rfl | (simp only [xa, xb, xe, xc, T.bind_assoc])
def xau {β : Type} (o : Int) (κ : (Int × Bool) → T β) : T β :=
 bif decide (o < 0) then (κ ((0), (false))) else
 bif Int.tmod o 16 == 0 then (bif decide (IntKind.i64.wrap (Int.tdiv o 16) < 4) then (κ ((IntKind.i64.wrap (Int.tdiv o 16)), (true))) else
 κ ((0), (false))) else
 κ ((0), (false))
def xdT (o : Int) : T (Int × Bool) := xau o .ret
theorem xfc {β : Type} (o : Int) (κ : (Int × Bool) → T β) : (xdT o).bind κ = xau o κ := by
 unfold xdT xau
 first | rfl | (simp only [xa, xb, xe, xc, T.bind_assoc])
def xav {β : Type} (o : Int) (κ : (Int × Bool) → T β) : T β :=
 bif decide (o < 0) then (κ ((0), (false))) else
 bif Int.tmod o 24 == 0 then (bif decide (IntKind.i64.wrap (Int.tdiv o 24) < 2) then (κ ((IntKind.i64.wrap (Int.tdiv o 24)), (true))) else
 κ ((0), (false))) else
 κ ((0), (false))
def xdU (o : Int) : T (Int × Bool) := xav o .ret
theorem xfd {β : Type} (o : Int) (κ : (Int × Bool) → T β) : (xdU o).bind κ = xav o κ := by
 unfold xdU xav
 first | rfl | (simp only [xa, xb, xe, xc, T.bind_assoc])
def xaw {β : Type} (o : Int) (κ : (Int × Bool) → T β) : T β :=
 bif decide (o < 0) then (κ ((0), (false))) else
 bif Int.tmod o 32 == 0 then (bif decide (IntKind.i64.wrap (Int.tdiv o 32) < 2) then (κ ((IntKind.i64.wrap (Int.tdiv o 32)), (true))) else
 κ ((0), (false))) else
 κ ((0), (false))
def xdV (o : Int) : T (Int × Bool) := xaw o .ret
theorem xfe {β : Type} (o : Int) (κ : (Int × Bool) → T β) : (xdV o).bind κ = xaw o κ := by
 unfold xdV xaw
 first | rfl | (simp only [xa, xb, xe, xc, T.bind_assoc])
def xpE {β : Type} (s a : Int) (κ : Int → T β) : T β :=
 bif decide (s < 1) then (κ (-1)) else
 (Vz a).bind fun r1 =>
 bif !r1 then (κ (-1)) else
 bif decide (8 ≥ s) then (bif decide (8 ≥ a) then (κ (0)) else
 bif decide (16 ≥ s) then (bif decide (16 ≥ a) then (κ (1)) else
 bif decide (24 ≥ s) then (bif decide (8 ≥ a) then (κ (2)) else
 bif decide (32 ≥ s) then (bif decide (32 ≥ a) then (κ (3)) else
 κ (-1)) else
 κ (-1)) else
 bif decide (32 ≥ s) then (bif decide (32 ≥ a) then (κ (3)) else
 κ (-1)) else
 κ (-1)) else
 bif decide (24 ≥ s) then (bif decide (8 ≥ a) then (κ (2)) else
 bif decide (32 ≥ s) then (bif decide (32 ≥ a) then (κ (3)) else
 κ (-1)) else
 κ (-1)) else
 bif decide (32 ≥ s) then (bif decide (32 ≥ a) then (κ (3)) else
 κ (-1)) else
 κ (-1)) else
 bif decide (16 ≥ s) then (bif decide (16 ≥ a) then (κ (1)) else
 bif decide (24 ≥ s) then (bif decide (8 ≥ a) then (κ (2)) else
 bif decide (32 ≥ s) then (bif decide (32 ≥ a) then (κ (3)) else
 κ (-1)) else
 κ (-1)) else
 bif decide (32 ≥ s) then (bif decide (32 ≥ a) then (κ (3)) else
 κ (-1)) else
 κ (-1)) else
 bif decide (24 ≥ s) then (bif decide (8 ≥ a) then (κ (2)) else
 bif decide (32 ≥ s) then (bif decide (32 ≥ a) then (κ (3)) else
 κ (-1)) else
 κ (-1)) else
 bif decide (32 ≥ s) then (bif decide (32 ≥ a) then (κ (3)) else
 κ (-1)) else
 κ (-1)
def cofT (s a : Int) : T Int := xpE s a .ret
theorem xrr {β : Type} (s a : Int) (κ : Int → T β) : (cofT s a).bind κ = xpE s a κ := by
 unfold cofT xpE
 first | rfl | (simp only [xa, xb, xe, xc, T.bind_assoc])
def xnS : Sm := fun args H => match args, H with
 | [.c (.int .i64 n)], [] => some (mkS (Int) (logT n) fun r => some (.c (.int .i64 r), []))
 | _, _ => none
variable {σ : Type} {I : Port Tryz.prog σ}
theorem xtm (hl : SoundL I ka2) : SoundF I 257 xnS := by
 refine sq hl 1 Tryz.func257 fun args H t ht => ?_
 unfold xnS at ht
 split at ht
 ·rename_i n
  cases ht
  refine Eq.trans ?_ (xrq n _).symm
  kernel_rfl
 ·cases ht
def xdW : Sm := fun args H => match args, H with
 | [.agg (.port :: gc), .c (.int .i64 p)], [] => (match xu gc with
   | some g => some (mkS (Int) (xar g p) fun r => some (.c (.int .i64 r), []))
   | _ => none)
 | _, _ => none
theorem xnT (hl : SoundL I ka2) : SoundF I 265 xdW := by
 refine sq hl 1 Tryz.func265 fun args H t ht => ?_
 unfold xdW at ht
 split at ht
 ·rename_i gc p
  split at ht
  ·rename_i g hg
   obtain rfl := xh hg
   cases ht
   refine Eq.trans ?_ (xk4 g p _).symm
   kernel_rfl
  ·cases ht
 ·cases ht
def xax : Sm := fun args H => match args, H with
 | [.agg (.port :: gc), .c (.int .i64 p)], [] => (match xu gc with
   | some g => some (mkS (Int) (XJ g p) fun r => some (.c (.int .i64 r), []))
   | _ => none)
 | _, _ => none
theorem xk8 (hl : SoundL I ka2) : SoundF I 266 xax := by
 refine sq hl 1 Tryz.func266 fun args H t ht => ?_
 unfold xax at ht
 split at ht
 ·rename_i gc p
  split at ht
  ·rename_i g hg
   obtain rfl := xh hg
   cases ht
   refine Eq.trans ?_ (xid g p _).symm
   kernel_rfl
  ·cases ht
 ·cases ht
def xij : Sm := fun args H => match args, H with
 | [.c .port, .agg gc, .c (.int .i64 p), .c (.int .i64 k)], [] => (match xu gc with
   | some g => some (mkS (Bool) (markT g p k) fun r => some (.c (.bool r), []))
   | _ => none)
 | _, _ => none
theorem xrs (hl : SoundL I ka2) : SoundF I 85 xij := by
 refine sq hl 1 Tryz.func85 fun args H t ht => ?_
 unfold xij at ht
 split at ht
 ·rename_i gc p k
  split at ht
  ·rename_i g hg
   obtain rfl := xh hg
   cases ht
   refine Eq.trans ?_ (xnO g p k _).symm
   kernel_rfl
  ·cases ht
 ·cases ht
def xdX : Sm := fun args H => match args, H with
 | [.agg (.port :: gc), .c (.int .i64 b), .agg cc], [] => (match shOf gc with
   | some (g, p) => (match Cls.of cc with
   | some c => some (mkS (Int) (xnP g p b c) fun r => some (.c (.int .i64 r), []))
   | _ => none)
   | _ => none)
 | _, _ => none
theorem xnU (hl : SoundL I ka2) : SoundF I 279 xdX := by
 refine sq hl 1 Tryz.func279 fun args H t ht => ?_
 unfold xdX at ht
 split at ht
 ·rename_i gc b cc
  split at ht
  ·rename_i g p hg
   obtain rfl := xbM hg
   split at ht
   ·rename_i c hc
    obtain rfl := Cls.of_eq hc
    cases ht
    refine Eq.trans ?_ (xk5 g p b c _).symm
    kernel_rfl
   ·cases ht
  ·cases ht
 ·cases ht
def xay : Sm := fun args H => match args, H with
 | [.agg cc], [] => (match Cls.of cc with
   | some c => some (mkS (Int) (xb4 c) fun r => some (.c (.int .u8 r), []))
   | _ => none)
 | _, _ => none
theorem xk9 (hl : SoundL I ka2) : SoundF I 280 xay := by
 refine sq hl 1 Tryz.func280 fun args H t ht => ?_
 unfold xay at ht
 split at ht
 ·rename_i cc
  split at ht
  ·rename_i c hc
   obtain rfl := Cls.of_eq hc
   cases ht
   refine Eq.trans ?_ (xig c _).symm
   kernel_rfl
  ·cases ht
 ·cases ht
def xdY : Sm := fun args H => match args, H with
 | [.agg bc], [] => (match Bt.of bc with
   | some b => some (mkS (Int) (firstT b) fun r => some (.c (.int .i64 r), []))
   | _ => none)
 | _, _ => none
theorem xnV (hl : SoundL I ka2) : SoundF I 278 xdY := by
 refine sq hl 1 Tryz.func278 fun args H t ht => ?_
 unfold xdY at ht
 split at ht
 ·rename_i bc
  split at ht
  ·rename_i b hb
   obtain rfl := Bt.of_eq hb
   cases ht
   refine Eq.trans ?_ (xk6 b _).symm
   kernel_rfl
  ·cases ht
 ·cases ht
def xik : Sm := fun args H => match args, H with
 | [.agg bc, .c (.int .i64 n)], [] => (match Bt.of bc with
   | some b => some (mkS (Bool) (xbr b n) fun r => some (.c (.bool r), []))
   | _ => none)
 | _, _ => none
theorem xrt (hl : SoundL I ka2) : SoundF I 269 xik := by
 refine sq hl 1 Tryz.func269 fun args H t ht => ?_
 unfold xik at ht
 split at ht
 ·rename_i bc n
  split at ht
  ·rename_i b hb
   obtain rfl := Bt.of_eq hb
   cases ht
   refine Eq.trans ?_ (xnQ b n _).symm
   kernel_rfl
  ·cases ht
 ·cases ht
def xdZ : Sm := fun args H => match args, H with
 | [.c .port, .agg gc, .c (.int .i64 k), .c (.int .i64 s)], [] => (match xu gc with
   | some g => some (mkS (Unit) (xas g k s) fun r => some (.tup [], []))
   | _ => none)
 | _, _ => none
theorem xnW (hl : SoundL I ka2) : SoundF I 164 xdZ := by
 refine sq hl 1 Tryz.func164 fun args H t ht => ?_
 unfold xdZ at ht
 split at ht
 ·rename_i gc k s
  split at ht
  ·rename_i g hg
   obtain rfl := xh hg
   cases ht
   refine Eq.trans ?_ (xk7 g k s _).symm
   kernel_rfl
  ·cases ht
 ·cases ht
def xil : Sm := fun args H => match args, H with
 | [.c .port, .agg gc, .c (.int .i64 k)], [] => (match xu gc with
   | some g => some (mkS (Seen) (xdR g k) fun r => some (.agg r.cells, []))
   | _ => none)
 | _, _ => none
theorem xru (hl : SoundL I ka2) : SoundF I 115 xil := by
 refine sq hl 1 Tryz.func115 fun args H t ht => ?_
 unfold xil at ht
 split at ht
 ·rename_i gc k
  split at ht
  ·rename_i g hg
   obtain rfl := xh hg
   cases ht
   refine Eq.trans ?_ (xnR g k _).symm
   kernel_rfl
  ·cases ht
 ·cases ht
def Wk : Sm := fun args H => match args, H with
 | [.c (.int .i64 0), .c (.int .i64 o)], [] => some (mkS ((Int × Bool)) (xdS o) fun r => some (.tup [.c (.int .i64 r.1), .c (.bool r.2)], []))
 | _, _ => none
theorem xim (hl : SoundL I ka2) : SoundF I 177 Wk := by
 refine sq hl 1 Tryz.func177 fun args H t ht => ?_
 unfold Wk at ht
 split at ht
 ·rename_i o
  cases ht
  refine Eq.trans ?_ (xfb o _).symm
  kernel_rfl
 ·cases ht
def Wl : Sm := fun args H => match args, H with
 | [.c (.int .i64 1), .c (.int .i64 o)], [] => some (mkS ((Int × Bool)) (xdT o) fun r => some (.tup [.c (.int .i64 r.1), .c (.bool r.2)], []))
 | _, _ => none
theorem xin (hl : SoundL I ka2) : SoundF I 177 Wl := by
 refine sq hl 1 Tryz.func177 fun args H t ht => ?_
 unfold Wl at ht
 split at ht
 ·rename_i o
  cases ht
  refine Eq.trans ?_ (xfc o _).symm
  kernel_rfl
 ·cases ht
def Wm : Sm := fun args H => match args, H with
 | [.c (.int .i64 2), .c (.int .i64 o)], [] => some (mkS ((Int × Bool)) (xdU o) fun r => some (.tup [.c (.int .i64 r.1), .c (.bool r.2)], []))
 | _, _ => none
theorem xio (hl : SoundL I ka2) : SoundF I 177 Wm := by
 refine sq hl 1 Tryz.func177 fun args H t ht => ?_
 unfold Wm at ht
 split at ht
 ·rename_i o
  cases ht
  refine Eq.trans ?_ (xfd o _).symm
  kernel_rfl
 ·cases ht
def Wn : Sm := fun args H => match args, H with
 | [.c (.int .i64 3), .c (.int .i64 o)], [] => some (mkS ((Int × Bool)) (xdV o) fun r => some (.tup [.c (.int .i64 r.1), .c (.bool r.2)], []))
 | _, _ => none
theorem xip (hl : SoundL I ka2) : SoundF I 177 Wn := by
 refine sq hl 1 Tryz.func177 fun args H t ht => ?_
 unfold Wn at ht
 split at ht
 ·rename_i o
  cases ht
  refine Eq.trans ?_ (xfe o _).symm
  kernel_rfl
 ·cases ht
def xnX : Sm := fun args H => match args, H with
 | [.c (.int .i64 s), .c (.int .i64 a)], [] => some (mkS (Int) (cofT s a) fun r => some (.c (.int .i64 r), []))
 | _, _ => none
theorem xtn (hl : SoundL I ka2) : SoundF I 75 xnX := by
 refine sq hl 6 Tryz.func75 fun args H t ht => ?_
 unfold xnX at ht
 split at ht
 ·rename_i s a
  cases ht
  refine Eq.trans ?_ (xrr s a _).symm
  kernel_rfl
 ·cases ht
def ka3 : List (Nat × Sm) := (257, xnS) :: (265, xdW) :: (266, xax) :: (85, xij) :: (279, xdX) :: (280, xay) :: (278, xdY) :: (269, xik) :: (164, xdZ) :: (115, xil) :: (177, (orSm Wk (orSm Wl (orSm Wm Wn)))) :: (75, xnX) :: ka2
theorem s_ka3 : SoundL I ka3 := (.cons (xtm wD) (.cons (xnT wD) (.cons (xk8 wD) (.cons (xrs wD) (.cons (xnU wD) (.cons (xk9 wD) (.cons (xnV wD) (.cons (xrt wD) (.cons (xnW wD) (.cons (xru wD) (.cons (SoundF.or (xim wD) (SoundF.or (xin wD) (SoundF.or (xio wD) (xip wD)))) (.cons (xtn wD) wD))))))))))))
end Go.Proofs.YtaegelbaghaooaaGreat.Lx
