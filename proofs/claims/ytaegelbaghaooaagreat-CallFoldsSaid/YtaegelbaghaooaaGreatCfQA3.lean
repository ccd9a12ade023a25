/- Part. -/
import Derived.Test.YtaegelbaghaooaaGreatCfQA2
set_option linter.all false
open Go.IntKind (i64 u64 u32 u8)
namespace Go.Proofs.YtaegelbaghaooaaGreat.Lx
open Go
set_option maxRecDepth 1000000
def xsk {β : Type} (n : Int) (κ : Int -> T β) : T β :=
 (yu (decide (0 <= u64.wrap n) && decide (u64.wrap n <= 18446744073709551615))).bind fun r0 =>
 κ (i64.wrap (↑(Lib.bitLen (Int.toNat (u64.wrap n))) - 1))
def logT (n : Int) : T Int := xsk n .ret
theorem xul {β : Type} (n : Int) (κ : Int -> T β) : (logT n).bind κ = xsk n κ := by
 unfold logT xsk
 first | rfl | simp only [bz]
def xdi {β : Type} (g : Geo) (p : Int) (κ : Int -> T β) : T β :=
 bif p == 0 then (κ (0)) else
 (We g (i64.wrap (p - 1))).bind fun r1 =>
 bif r1.kind == 2 then (κ (r1.len)) else
 bif r1.kind == 1 then (κ (r1.len)) else
 κ (0)
def xbq (g : Geo) (p : Int) : T Int := xdi g p .ret
theorem xnn {β : Type} (g : Geo) (p : Int) (κ : Int -> T β) : (xbq g p).bind κ = xdi g p κ := by
 unfold xbq xdi
 first | rfl | simp only [bz]
def KM {β : Type} (g : Geo) (p : Int) (κ : Int -> T β) : T β :=
 bif p == g.pages then (κ (0)) else
 (We g p).bind fun r1 =>
 bif r1.kind == 1 then (κ (r1.len)) else
 κ (0)
def Yr (g : Geo) (p : Int) : T Int := KM g p .ret
theorem xj2 {β : Type} (g : Geo) (p : Int) (κ : Int -> T β) : (Yr g p).bind κ = KM g p κ := by
 unfold Yr KM
 first | rfl | simp only [bz]
def xj3 {β : Type} (g : Geo) (p k : Int) (κ : Bool -> T β) : T β :=
 bif decide (p < 0) then (κ (false)) else
 bif decide (p >= g.pages) then (κ (false)) else
 bif decide (k < 1) then (κ (false)) else
 bif decide (k > g.pages) then (κ (false)) else
 .op (.cas (atF g 7 p) (Pg.word (Pg.mk 4 k 0 0)) (Pg.word (Pg.mk 5 k 0 0))) fun b4 =>
 κ b4
def markT (g : Geo) (p k : Int) : T Bool := xj3 g p k .ret
theorem xqz {β : Type} (g : Geo) (p k : Int) (κ : Bool -> T β) : (markT g p k).bind κ = xj3 g p k κ := by
 unfold markT xj3
 first | rfl | simp only [bz]
def xj4 {β : Type} (g : Geo) (p b : Int) (c : Cls) (κ : Int -> T β) : T β :=
 κ (i64.wrap (i64.wrap (p * 8) + i64.wrap (Int.tdiv (i64.wrap (b * c.size)) 8)))
def xqA (g : Geo) (p b : Int) (c : Cls) : T Int := xj4 g p b c .ret
theorem xno {β : Type} (g : Geo) (p b : Int) (c : Cls) (κ : Int -> T β) : (xqA g p b c).bind κ = xj4 g p b c κ := by
 unfold xqA xj4
 first | rfl | simp only [bz]
def xfg {β : Type} (c : Cls) (κ : Int -> T β) : T β :=
 bif bif decide (c.blocks < 0) then false else true then (κ (u8.wrap (u8.wrap (1 * 2 ^ if Int.toNat c.blocks <= 8 then Int.toNat c.blocks else 8) - 1))) else
 .fail
def xdj (c : Cls) : T Int := xfg c .ret
theorem xj5 {β : Type} (c : Cls) (κ : Int -> T β) : (xdj c).bind κ = xfg c κ := by
 unfold xdj xfg
 first | rfl | simp only [bz]
def KN {β : Type} (b : Bt) (κ : Int -> T β) : T β :=
 bif b.map == 0 then (κ (-1)) else
 (yu (decide (0 <= b.map) && decide (b.map <= 255))).bind fun r1 =>
 κ (↑(Lib.trailingZeros8 (Int.toNat b.map)))
def firstT (b : Bt) : T Int := KN b .ret
theorem xnp {β : Type} (b : Bt) (κ : Int -> T β) : (firstT b).bind κ = KN b κ := by
 unfold firstT KN
 first | rfl | simp only [bz]
def xj6 {β : Type} (b : Bt) (n : Int) (κ : Bool -> T β) : T β :=
 bif decide (n > 8) then (κ (false)) else
 (yu (decide (0 <= bits BinOp.xor u8 (if IntKind.signed u8 = true then -1 else IntKind.max u8) b.map) && decide (bits BinOp.xor u8 (if IntKind.signed u8 = true then -1 else IntKind.max u8) b.map <= 255))).bind fun r1 =>
 κ (decide (↑(Lib.trailingZeros8 (Int.toNat (bits BinOp.xor u8 (if IntKind.signed u8 = true then -1 else Int.ofNat (2 ^ 8 - 1)) b.map))) >= if n < 0 then 0 else n))
def xcs (b : Bt) (n : Int) : T Bool := xj6 b n .ret
theorem xqB {β : Type} (b : Bt) (n : Int) (κ : Bool -> T β) : (xcs b n).bind κ = xj6 b n κ := by
 unfold xcs xj6
 first | rfl | simp only [bz]
def xdk {β : Type} (g : Geo) (k s : Int) (κ : Unit -> T β) : T β :=
 (wK g k).bind fun r0 =>
 bif !r0 then ((jh g).bind fun r2 =>
 .op (.store (atF g 11 k) (Stt.word (Stt.mk 1 s 0 r2))) fun _ =>
 κ ()) else
 κ ()
def xbr (g : Geo) (k s : Int) : T Unit := xdk g k s .ret
theorem xnq {β : Type} (g : Geo) (k s : Int) (κ : Unit -> T β) : (xbr g k s).bind κ = xdk g k s κ := by
 unfold xbr xdk
 first | rfl | simp only [bz]
def KO {β : Type} (g : Geo) (k : Int) (s : Stt) (z : Int) (κ : Bool -> T β) : T β :=
 (wK g k).bind fun r0 =>
 bif r0 then (κ (false)) else
 (jh g).bind fun r2 =>
 .op (.cas (atF g 11 k) (Stt.word (Stt.mk s.kind s.size s.other s.ver)) (Stt.word (Stt.mk 1 z 0 r2))) fun b3 =>
 κ b3
def Ys (g : Geo) (k : Int) (s : Stt) (z : Int) : T Bool := KO g k s z .ret
theorem xj7 {β : Type} (g : Geo) (k : Int) (s : Stt) (z : Int) (κ : Bool -> T β) : (Ys g k s z).bind κ = KO g k s z κ := by
 unfold Ys KO
 first | rfl | simp only [bz]
def Yt {β : Type} (g : Geo) (to fr z : Int) (κ : Int -> T β) : T β :=
 (jj g to fr).bind fun r0 =>
 bif r0 then (κ (0)) else
 (jh g).bind fun r2 =>
 .op (.store (atF g 11 to) (Stt.word (Stt.mk (Stt.mk 2 z fr r2).kind (Stt.mk 2 z fr r2).size (Stt.mk 2 z fr r2).other (Stt.mk 2 z fr r2).ver))) fun _ =>
 κ r2
def kO (g : Geo) (to fr z : Int) : T Int := Yt g to fr z .ret
theorem xgy {β : Type} (g : Geo) (to fr z : Int) (κ : Int -> T β) : (kO g to fr z).bind κ = Yt g to fr z κ := by
 unfold kO Yt
 first | rfl | simp only [bz]
def xj8 {β : Type} (g : Geo) (fr : Int) (s : Stt) (to v : Int) (κ : Bool -> T β) : T β :=
 (jj g fr to).bind fun r0 =>
 bif r0 then (κ (false)) else
 .op (.cas (atF g 11 fr) (Stt.word (Stt.mk s.kind s.size s.other s.ver)) (Stt.word (Stt.mk 3 0 to v))) fun b2 =>
 κ b2
def xfh (g : Geo) (fr : Int) (s : Stt) (to v : Int) : T Bool := xj8 g fr s to v .ret
theorem xqC {β : Type} (g : Geo) (fr : Int) (s : Stt) (to v : Int) (κ : Bool -> T β) : (xfh g fr s to v).bind κ = xj8 g fr s to v κ := by
 unfold xfh xj8
 first | rfl | simp only [bz]
def KP {β : Type} (g : Geo) (to fr z v : Int) (κ : Unit -> T β) : T β :=
 (jj g to fr).bind fun r0 =>
 bif r0 then (κ ()) else
 .op (.cas (atF g 11 to) (Stt.word (Stt.mk (Stt.mk 2 z fr v).kind (Stt.mk 2 z fr v).size (Stt.mk 2 z fr v).other (Stt.mk 2 z fr v).ver)) (Stt.word (Stt.mk 1 z 0 v))) fun b2 =>
 .op (.store (atF g 11 fr) (0)) fun _ =>
 κ ()
def Zg (g : Geo) (to fr z v : Int) : T Unit := KP g to fr z v .ret
theorem xj9 {β : Type} (g : Geo) (to fr z v : Int) (κ : Unit -> T β) : (Zg g to fr z v).bind κ = KP g to fr z v κ := by
 unfold Zg KP
 first | rfl | simp only [bz]
def xka {β : Type} (g : Geo) (to : Int) (κ : Unit -> T β) : T β :=
 (wK g to).bind fun r0 =>
 bif !r0 then (.op (.store (atF g 11 to) (0)) fun _ =>
 κ ()) else
 κ ()
def xfi (g : Geo) (to : Int) : T Unit := xka g to .ret
theorem xnr {β : Type} (g : Geo) (to : Int) (κ : Unit -> T β) : (xfi g to).bind κ = xka g to κ := by
 unfold xfi xka
 first | rfl | simp only [bz]
def xkb {β : Type} (g : Geo) (k : Int) (κ : Seen -> T β) : T β :=
 (wK g k).bind fun r0 =>
 bif r0 then (κ ⟨(0), (0), (0), (0), (false), (0)⟩) else
 .op (.load (atF g 11 k)) fun x2 =>
 .op (.steps ) fun x3 =>
 bif (vP x2).kind == 1 then (κ ⟨((vP x2).kind), ((vP x2).size), ((vP x2).other), ((vP x2).ver), (true), (x3)⟩) else
 bif (vP x2).kind == 2 then ((xdh g k x2).bind fun r6 =>
 bif r6.2 then (κ ⟨(r6.fst.kind), (r6.fst.size), (r6.fst.other), (r6.fst.ver), (r6.fst.live), (r6.fst.lin)⟩) else
 .fail) else
 κ ⟨(0), (0), (0), (0), (false), (x3)⟩
def KQ (g : Geo) (k : Int) : T Seen := xkb g k .ret
theorem xqD {β : Type} (g : Geo) (k : Int) (κ : Seen -> T β) : (KQ g k).bind κ = xkb g k κ := by
 unfold KQ xkb
 first | rfl | simp only [bz]
def xbs {β : Type} (o : Int) (κ : (Int × Bool) -> T β) : T β :=
 bif decide (o < 0) then (κ ((0), (false))) else
 bif Int.tmod o 8 == 0 then (bif decide (i64.wrap (Int.tdiv o 8) < 8) then (κ ((i64.wrap (Int.tdiv o 8)), (true))) else
 κ ((0), (false))) else
 κ ((0), (false))
def xfj (o : Int) : T (Int × Bool) := xbs o .ret
theorem xgz {β : Type} (o : Int) (κ : (Int × Bool) -> T β) : (xfj o).bind κ = xbs o κ := by
 unfold xfj xbs
 first | rfl | simp only [bz]
def xbt {β : Type} (o : Int) (κ : (Int × Bool) -> T β) : T β :=
 bif decide (o < 0) then (κ ((0), (false))) else
 bif Int.tmod o 16 == 0 then (bif decide (i64.wrap (Int.tdiv o 16) < 4) then (κ ((i64.wrap (Int.tdiv o 16)), (true))) else
 κ ((0), (false))) else
 κ ((0), (false))
def xfk (o : Int) : T (Int × Bool) := xbt o .ret
theorem xgA {β : Type} (o : Int) (κ : (Int × Bool) -> T β) : (xfk o).bind κ = xbt o κ := by
 unfold xfk xbt
 first | rfl | simp only [bz]
def xbu {β : Type} (o : Int) (κ : (Int × Bool) -> T β) : T β :=
 bif decide (o < 0) then (κ ((0), (false))) else
 bif Int.tmod o 24 == 0 then (bif decide (i64.wrap (Int.tdiv o 24) < 2) then (κ ((i64.wrap (Int.tdiv o 24)), (true))) else
 κ ((0), (false))) else
 κ ((0), (false))
def xfl (o : Int) : T (Int × Bool) := xbu o .ret
theorem xgB {β : Type} (o : Int) (κ : (Int × Bool) -> T β) : (xfl o).bind κ = xbu o κ := by
 unfold xfl xbu
 first | rfl | simp only [bz]
def xbv {β : Type} (o : Int) (κ : (Int × Bool) -> T β) : T β :=
 bif decide (o < 0) then (κ ((0), (false))) else
 bif Int.tmod o 32 == 0 then (bif decide (i64.wrap (Int.tdiv o 32) < 2) then (κ ((i64.wrap (Int.tdiv o 32)), (true))) else
 κ ((0), (false))) else
 κ ((0), (false))
def xfm (o : Int) : T (Int × Bool) := xbv o .ret
theorem xgC {β : Type} (o : Int) (κ : (Int × Bool) -> T β) : (xfm o).bind κ = xbv o κ := by
 unfold xfm xbv
 first | rfl | simp only [bz]
def xsl {β : Type} (s a : Int) (κ : Int -> T β) : T β :=
 bif decide (s < 1) then (κ (-1)) else
 (KH a).bind fun r1 =>
 bif !r1 then (κ (-1)) else
 bif decide (8 >= s) then (bif decide (8 >= a) then (κ (0)) else
 bif decide (16 >= s) then (bif decide (16 >= a) then (κ (1)) else
 bif decide (24 >= s) then (bif decide (8 >= a) then (κ (2)) else
 bif decide (32 >= s) then (bif decide (32 >= a) then (κ (3)) else
 κ (-1)) else
 κ (-1)) else
 bif decide (32 >= s) then (bif decide (32 >= a) then (κ (3)) else
 κ (-1)) else
 κ (-1)) else
 bif decide (24 >= s) then (bif decide (8 >= a) then (κ (2)) else
 bif decide (32 >= s) then (bif decide (32 >= a) then (κ (3)) else
 κ (-1)) else
 κ (-1)) else
 bif decide (32 >= s) then (bif decide (32 >= a) then (κ (3)) else
 κ (-1)) else
 κ (-1)) else
 bif decide (16 >= s) then (bif decide (16 >= a) then (κ (1)) else
 bif decide (24 >= s) then (bif decide (8 >= a) then (κ (2)) else
 bif decide (32 >= s) then (bif decide (32 >= a) then (κ (3)) else
 κ (-1)) else
 κ (-1)) else
 bif decide (32 >= s) then (bif decide (32 >= a) then (κ (3)) else
 κ (-1)) else
 κ (-1)) else
 bif decide (24 >= s) then (bif decide (8 >= a) then (κ (2)) else
 bif decide (32 >= s) then (bif decide (32 >= a) then (κ (3)) else
 κ (-1)) else
 κ (-1)) else
 bif decide (32 >= s) then (bif decide (32 >= a) then (κ (3)) else
 κ (-1)) else
 κ (-1)
def cofT (s a : Int) : T Int := xsl s a .ret
theorem xum {β : Type} (s a : Int) (κ : Int -> T β) : (cofT s a).bind κ = xsl s a κ := by
 unfold cofT xsl
 first | rfl | simp only [bz]
def xqE : Sm := fun
 | [.c (.int .i64 n)], [] => some (mkS (Int) (logT n) fun r => some (.c (.int .i64 r), []))
 | _, _ => none
variable {σ : Type} {I : Port Tryz.prog σ}
theorem xwp (hl : SoundL I ka2) : SoundF I 257 xqE := by
 refine sq hl 1 Tryz.func257 fun args H t ht => ?_
 unfold xqE at ht
 split at ht
 ·rename_i n
  cases ht
  refine Eq.trans ?_ (xul n _).symm
  kernel_rfl
 ·cases ht
def xfn : Sm := fun
 | [.agg (.port :: gc), .c (.int .i64 p)], [] => (match xu gc with
   | some g => some (mkS (Int) (xbq g p) fun r => some (.c (.int .i64 r), []))
   | _ => none)
 | _, _ => none
theorem xqF (hl : SoundL I ka2) : SoundF I 265 xfn := by
 refine sq hl 1 Tryz.func265 fun args H t ht => ?_
 unfold xfn at ht
 split at ht
 ·rename_i gc p
  split at ht
  ·rename_i g hg
   obtain rfl := xe hg
   cases ht
   refine Eq.trans ?_ (xnn g p _).symm
   kernel_rfl
  ·cases ht
 ·cases ht
def xbw : Sm := fun
 | [.agg (.port :: gc), .c (.int .i64 p)], [] => (match xu gc with
   | some g => some (mkS (Int) (Yr g p) fun r => some (.c (.int .i64 r), []))
   | _ => none)
 | _, _ => none
theorem xns (hl : SoundL I ka2) : SoundF I 266 xbw := by
 refine sq hl 1 Tryz.func266 fun args H t ht => ?_
 unfold xbw at ht
 split at ht
 ·rename_i gc p
  split at ht
  ·rename_i g hg
   obtain rfl := xe hg
   cases ht
   refine Eq.trans ?_ (xj2 g p _).symm
   kernel_rfl
  ·cases ht
 ·cases ht
def xsm : Sm := gS fun
 | g, [.c (.int .i64 p), .c (.int .i64 k)] => some (mkS (Bool) (markT g p k) fun r => some (.c (.bool r), []))
 | _, _ => none
theorem xun (hl : SoundL I ka2) : SoundF I 85 xsm := by
 refine gsq hl 1 Tryz.func85 fun g l t ht => ?_
 split at ht
 ·rename_i p k
  cases ht
  refine Eq.trans ?_ (xqz g p k _).symm
  kernel_rfl
 ·cases ht
def xfo : Sm := fun
 | [.agg (.port :: gc), .c (.int .i64 b), .agg cc], [] => (match shOf gc with
   | some (g, p) => (match Cls.of cc with
   | some c => some (mkS (Int) (xqA g p b c) fun r => some (.c (.int .i64 r), []))
   | _ => none)
   | _ => none)
 | _, _ => none
theorem xqG (hl : SoundL I ka2) : SoundF I 279 xfo := by
 refine sq hl 1 Tryz.func279 fun args H t ht => ?_
 unfold xfo at ht
 split at ht
 ·rename_i gc b cc
  split at ht
  ·rename_i g p hg
   obtain rfl := xc7 hg
   split at ht
   ·rename_i c hc
    obtain rfl := Cls.of_eq hc
    cases ht
    refine Eq.trans ?_ (xno g p b c _).symm
    kernel_rfl
   ·cases ht
  ·cases ht
 ·cases ht
def xbx : Sm := fun
 | [.agg cc], [] => (match Cls.of cc with
   | some c => some (mkS (Int) (xdj c) fun r => some (.c (.int .u8 r), []))
   | _ => none)
 | _, _ => none
theorem xnt (hl : SoundL I ka2) : SoundF I 280 xbx := by
 refine sq hl 1 Tryz.func280 fun args H t ht => ?_
 unfold xbx at ht
 split at ht
 ·rename_i cc
  split at ht
  ·rename_i c hc
   obtain rfl := Cls.of_eq hc
   cases ht
   refine Eq.trans ?_ (xj5 c _).symm
   kernel_rfl
  ·cases ht
 ·cases ht
def xfp : Sm := fun
 | [.agg bc], [] => (match Bt.of bc with
   | some b => some (mkS (Int) (firstT b) fun r => some (.c (.int .i64 r), []))
   | _ => none)
 | _, _ => none
theorem xqH (hl : SoundL I ka2) : SoundF I 278 xfp := by
 refine sq hl 1 Tryz.func278 fun args H t ht => ?_
 unfold xfp at ht
 split at ht
 ·rename_i bc
  split at ht
  ·rename_i b hb
   obtain rfl := Bt.of_eq hb
   cases ht
   refine Eq.trans ?_ (xnp b _).symm
   kernel_rfl
  ·cases ht
 ·cases ht
def xkc : Sm := fun
 | [.agg bc, .c (.int .i64 n)], [] => (match Bt.of bc with
   | some b => some (mkS (Bool) (xcs b n) fun r => some (.c (.bool r), []))
   | _ => none)
 | _, _ => none
theorem xuo (hl : SoundL I ka2) : SoundF I 269 xkc := by
 refine sq hl 1 Tryz.func269 fun args H t ht => ?_
 unfold xkc at ht
 split at ht
 ·rename_i bc n
  split at ht
  ·rename_i b hb
   obtain rfl := Bt.of_eq hb
   cases ht
   refine Eq.trans ?_ (xqB b n _).symm
   kernel_rfl
  ·cases ht
 ·cases ht
def xnu : Sm := gS fun
 | g, [.c (.int .i64 k), .c (.int .i64 s)] => some (mkS (Unit) (xbr g k s) fun r => some (.tup [], []))
 | _, _ => none
theorem xqI (hl : SoundL I ka2) : SoundF I 164 xnu := by
 refine gsq hl 1 Tryz.func164 fun g l t ht => ?_
 split at ht
 ·rename_i k s
  cases ht
  refine Eq.trans ?_ (xnq g k s _).symm
  kernel_rfl
 ·cases ht
def xig : Sm := gS fun
 | g, [.c (.int .i64 k), .agg sc, .c (.int .i64 z)] => (match Stt.of sc with
   | some s => some (mkS (Bool) (Ys g k s z) fun r => some (.c (.bool r), []))
   | _ => none)
 | _, _ => none
theorem xnv (hl : SoundL I ka2) : SoundF I 193 xig := by
 refine gsq hl 1 Tryz.func193 fun g l t ht => ?_
 split at ht
 ·rename_i k sc z
  split at ht
  ·rename_i s hs
   obtain rfl := Stt.of_eq hs
   cases ht
   refine Eq.trans ?_ (xj7 g k s z _).symm
   kernel_rfl
  ·cases ht
 ·cases ht
def xfq : Sm := gS fun
 | g, [.c (.int .i64 to), .c (.int .i64 fr), .c (.int .i64 z)] => some (mkS (Int) (kO g to fr z) fun r => some (.c (.int .u32 r), []))
 | _, _ => none
theorem xkd (hl : SoundL I ka2) : SoundF I 195 xfq := by
 refine gsq hl 1 Tryz.func195 fun g l t ht => ?_
 split at ht
 ·rename_i to fr z
  cases ht
  refine Eq.trans ?_ (xgy g to fr z _).symm
  kernel_rfl
 ·cases ht
def xsn : Sm := gS fun
 | g, [.c (.int .i64 fr), .agg sc, .c (.int .i64 to), .c (.int .u32 v)] => (match Stt.of sc with
   | some s => some (mkS (Bool) (xfh g fr s to v) fun r => some (.c (.bool r), []))
   | _ => none)
 | _, _ => none
theorem xup (hl : SoundL I ka2) : SoundF I 196 xsn := by
 refine gsq hl 1 Tryz.func196 fun g l t ht => ?_
 split at ht
 ·rename_i fr sc to v
  split at ht
  ·rename_i s hs
   obtain rfl := Stt.of_eq hs
   cases ht
   refine Eq.trans ?_ (xqC g fr s to v _).symm
   kernel_rfl
  ·cases ht
 ·cases ht
def xih : Sm := gS fun
 | g, [.c (.int .i64 to), .c (.int .i64 fr), .c (.int .i64 z), .c (.int .u32 v)] => some (mkS (Unit) (Zg g to fr z v) fun r => some (.tup [], []))
 | _, _ => none
theorem xnw (hl : SoundL I ka2) : SoundF I 198 xih := by
 refine gsq hl 1 Tryz.func198 fun g l t ht => ?_
 split at ht
 ·rename_i to fr z v
  cases ht
  refine Eq.trans ?_ (xj9 g to fr z v _).symm
  kernel_rfl
 ·cases ht
def xnx : Sm := gS fun
 | g, [.c (.int .i64 to)] => some (mkS (Unit) (xfi g to) fun r => some (.tup [], []))
 | _, _ => none
theorem xqJ (hl : SoundL I ka2) : SoundF I 197 xnx := by
 refine gsq hl 1 Tryz.func197 fun g l t ht => ?_
 split at ht
 ·rename_i to
  cases ht
  refine Eq.trans ?_ (xnr g to _).symm
  kernel_rfl
 ·cases ht
def xso : Sm := gS fun
 | g, [.c (.int .i64 k)] => some (mkS (Seen) (KQ g k) fun r => some (.agg r.cells, []))
 | _, _ => none
theorem xuq (hl : SoundL I ka2) : SoundF I 115 xso := by
 refine gsq hl 1 Tryz.func115 fun g l t ht => ?_
 split at ht
 ·rename_i k
  cases ht
  refine Eq.trans ?_ (xqD g k _).symm
  kernel_rfl
 ·cases ht
def WW : Sm := fun
 | [.c (.int .i64 0), .c (.int .i64 o)], [] => some (mkS ((Int × Bool)) (xfj o) fun r => some (.tup [.c (.int .i64 r.1), .c (.bool r.2)], []))
 | _, _ => none
theorem xke (hl : SoundL I ka2) : SoundF I 177 WW := by
 refine sq hl 1 Tryz.func177 fun args H t ht => ?_
 unfold WW at ht
 split at ht
 ·rename_i o
  cases ht
  refine Eq.trans ?_ (xgz o _).symm
  kernel_rfl
 ·cases ht
def WX : Sm := fun
 | [.c (.int .i64 1), .c (.int .i64 o)], [] => some (mkS ((Int × Bool)) (xfk o) fun r => some (.tup [.c (.int .i64 r.1), .c (.bool r.2)], []))
 | _, _ => none
theorem xkf (hl : SoundL I ka2) : SoundF I 177 WX := by
 refine sq hl 1 Tryz.func177 fun args H t ht => ?_
 unfold WX at ht
 split at ht
 ·rename_i o
  cases ht
  refine Eq.trans ?_ (xgA o _).symm
  kernel_rfl
 ·cases ht
def WY : Sm := fun
 | [.c (.int .i64 2), .c (.int .i64 o)], [] => some (mkS ((Int × Bool)) (xfl o) fun r => some (.tup [.c (.int .i64 r.1), .c (.bool r.2)], []))
 | _, _ => none
theorem xkg (hl : SoundL I ka2) : SoundF I 177 WY := by
 refine sq hl 1 Tryz.func177 fun args H t ht => ?_
 unfold WY at ht
 split at ht
 ·rename_i o
  cases ht
  refine Eq.trans ?_ (xgB o _).symm
  kernel_rfl
 ·cases ht
def WZ : Sm := fun
 | [.c (.int .i64 3), .c (.int .i64 o)], [] => some (mkS ((Int × Bool)) (xfm o) fun r => some (.tup [.c (.int .i64 r.1), .c (.bool r.2)], []))
 | _, _ => none
theorem xkh (hl : SoundL I ka2) : SoundF I 177 WZ := by
 refine sq hl 1 Tryz.func177 fun args H t ht => ?_
 unfold WZ at ht
 split at ht
 ·rename_i o
  cases ht
  refine Eq.trans ?_ (xgC o _).symm
  kernel_rfl
 ·cases ht
def xqK : Sm := fun
 | [.c (.int .i64 s), .c (.int .i64 a)], [] => some (mkS (Int) (cofT s a) fun r => some (.c (.int .i64 r), []))
 | _, _ => none
theorem xwq (hl : SoundL I ka2) : SoundF I 75 xqK := by
 refine sq hl 6 Tryz.func75 fun args H t ht => ?_
 unfold xqK at ht
 split at ht
 ·rename_i s a
  cases ht
  refine Eq.trans ?_ (xum s a _).symm
  kernel_rfl
 ·cases ht
def ka3 : List (Nat × Sm) := (257, xqE) :: (265, xfn) :: (266, xbw) :: (85, xsm) :: (279, xfo) :: (280, xbx) :: (278, xfp) :: (269, xkc) :: (164, xnu) :: (193, xig) :: (195, xfq) :: (196, xsn) :: (198, xih) :: (197, xnx) :: (115, xso) :: (177, (orSm WW (orSm WX (orSm WY WZ)))) :: (75, xqK) :: ka2
theorem s_ka3 : SoundL I ka3 := (.cons (xwp vj) (.cons (xqF vj) (.cons (xns vj) (.cons (xun vj) (.cons (xqG vj) (.cons (xnt vj) (.cons (xqH vj) (.cons (xuo vj) (.cons (xqI vj) (.cons (xnv vj) (.cons (xkd vj) (.cons (xup vj) (.cons (xnw vj) (.cons (xqJ vj) (.cons (xuq vj) (.cons (SoundF.or (xke vj) (SoundF.or (xkf vj) (SoundF.or (xkg vj) (xkh vj)))) (.cons (xwq vj) vj)))))))))))))))))
end Go.Proofs.YtaegelbaghaooaaGreat.Lx
