/- Summaries: runs, slab. (trees printed by program, wip/auto.py) -/
import Derived.Test.YtaegelbaghaooaaGreatErQA2
import Derived.WalkKit
set_option linter.all false
open Go.IntKind (i64 u64 u32 u8)
namespace Go.Proofs.YtaegelbaghaooaaGreat.Lx
open Go
set_option maxRecDepth 1000000
def xpE {β : Type} (n : Int) (κ : Int -> T β) : T β :=
 (xE (decide (0 <= u64.wrap n) && decide (u64.wrap n <= 18446744073709551615))).bind fun r0 =>
 κ (i64.wrap (↑(Lib.bitLen (Int.toNat (u64.wrap n))) - 1))
def logT (n : Int) : T Int := xpE n .ret
theorem xrq {β : Type} (n : Int) (κ : Int -> T β) : (logT n).bind κ = xpE n κ := by
 unfold logT xpE
 first | rfl | (simp only [xa, xb, xe, xc, T.bind_assoc])
def xb3 {β : Type} (g : Geo) (p : Int) (κ : Int -> T β) : T β :=
 bif p == 0 then (κ (0)) else
 (Yy g (i64.wrap (p - 1))).bind fun r1 =>
 bif r1.kind == 2 then (κ (r1.len)) else
 bif r1.kind == 1 then (κ (r1.len)) else
 κ (0)
def xaq (g : Geo) (p : Int) : T Int := xb3 g p .ret
theorem xli {β : Type} (g : Geo) (p : Int) (κ : Int -> T β) : (xaq g p).bind κ = xb3 g p κ := by
 unfold xaq xb3
 first | rfl | (simp only [xa, xb, xe, xc, T.bind_assoc])
def VR {β : Type} (g : Geo) (p : Int) (κ : Int -> T β) : T β :=
 bif p == g.pages then (κ (0)) else
 (Yy g p).bind fun r1 =>
 bif r1.kind == 1 then (κ (r1.len)) else
 κ (0)
def XL (g : Geo) (p : Int) : T Int := VR g p .ret
theorem xh7 {β : Type} (g : Geo) (p : Int) (κ : Int -> T β) : (XL g p).bind κ = VR g p κ := by
 unfold XL VR
 first | rfl | (simp only [xa, xb, xe, xc, T.bind_assoc])
def xh8 {β : Type} (g : Geo) (p k : Int) (κ : Bool -> T β) : T β :=
 bif decide (p < 0) then (κ (false)) else
 bif decide (p >= g.pages) then (κ (false)) else
 bif decide (k < 1) then (κ (false)) else
 bif decide (k > g.pages) then (κ (false)) else
 .op (.cas (atF g 7 p) (Pg.word (Pg.mk 4 k 0 0)) (Pg.word (Pg.mk 5 k 0 0))) fun b4 =>
 κ b4
def markT (g : Geo) (p k : Int) : T Bool := xh8 g p k .ret
theorem xn7 {β : Type} (g : Geo) (p k : Int) (κ : Bool -> T β) : (markT g p k).bind κ = xh8 g p k κ := by
 unfold markT xh8
 first | rfl | (simp only [xa, xb, xe, xc, T.bind_assoc])
def xh9 {β : Type} (g : Geo) (p b : Int) (c : Cls) (κ : Int -> T β) : T β :=
 κ (i64.wrap (i64.wrap (p * 8) + i64.wrap (Int.tdiv (i64.wrap (b * c.size)) 8)))
def xn8 (g : Geo) (p b : Int) (c : Cls) : T Int := xh9 g p b c .ret
theorem xlj {β : Type} (g : Geo) (p b : Int) (c : Cls) (κ : Int -> T β) : (xn8 g p b c).bind κ = xh9 g p b c κ := by
 unfold xn8 xh9
 first | rfl | (simp only [xa, xb, xe, xc, T.bind_assoc])
def xd0 {β : Type} (c : Cls) (κ : Int -> T β) : T β :=
 bif bif decide (c.blocks < 0) then false else true then (κ (u8.wrap (u8.wrap (1 * 2 ^ if Int.toNat c.blocks <= 8 then Int.toNat c.blocks else 8) - 1))) else
 .fail
def xb4 (c : Cls) : T Int := xd0 c .ret
theorem xia {β : Type} (c : Cls) (κ : Int -> T β) : (xb4 c).bind κ = xd0 c κ := by
 unfold xb4 xd0
 first | rfl | (simp only [xa, xb, xe, xc, T.bind_assoc])
def VS {β : Type} (b : Bt) (κ : Int -> T β) : T β :=
 bif b.map == 0 then (κ (-1)) else
 (xE (decide (0 <= b.map) && decide (b.map <= 255))).bind fun r1 =>
 κ (↑(Lib.trailingZeros8 (Int.toNat b.map)))
def firstT (b : Bt) : T Int := VS b .ret
theorem xlk {β : Type} (b : Bt) (κ : Int -> T β) : (firstT b).bind κ = VS b κ := by
 unfold firstT VS
 first | rfl | (simp only [xa, xb, xe, xc, T.bind_assoc])
def xib {β : Type} (b : Bt) (n : Int) (κ : Bool -> T β) : T β :=
 bif decide (n > 8) then (κ (false)) else
 (xE (decide (0 <= bits BinOp.xor u8 (if IntKind.signed u8 = true then -1 else IntKind.max u8) b.map) && decide (bits BinOp.xor u8 (if IntKind.signed u8 = true then -1 else IntKind.max u8) b.map <= 255))).bind fun r1 =>
 κ (decide (↑(Lib.trailingZeros8 (Int.toNat (bits BinOp.xor u8 (if IntKind.signed u8 = true then -1 else Int.ofNat (2 ^ 8 - 1)) b.map))) >= if n < 0 then 0 else n))
def xbk (b : Bt) (n : Int) : T Bool := xib b n .ret
theorem xn9 {β : Type} (b : Bt) (n : Int) (κ : Bool -> T β) : (xbk b n).bind κ = xib b n κ := by
 unfold xbk xib
 first | rfl | (simp only [xa, xb, xe, xc, T.bind_assoc])
def xb5 {β : Type} (g : Geo) (k s : Int) (κ : Unit -> T β) : T β :=
 (wP g k).bind fun r0 =>
 bif !r0 then ((kZ g).bind fun r2 =>
 .op (.store (atF g 11 k) (Stt.word (Stt.mk 1 s 0 r2))) fun _ =>
 κ ()) else
 κ ()
def xar (g : Geo) (k s : Int) : T Unit := xb5 g k s .ret
theorem xll {β : Type} (g : Geo) (k s : Int) (κ : Unit -> T β) : (xar g k s).bind κ = xb5 g k s κ := by
 unfold xar xb5
 first | rfl | (simp only [xa, xb, xe, xc, T.bind_assoc])
def VT {β : Type} (g : Geo) (k : Int) (s : Stt) (z : Int) (κ : Bool -> T β) : T β :=
 (wP g k).bind fun r0 =>
 bif r0 then (κ (false)) else
 (kZ g).bind fun r2 =>
 .op (.cas (atF g 11 k) (Stt.word (Stt.mk s.kind s.size s.other s.ver)) (Stt.word (Stt.mk 1 z 0 r2))) fun b3 =>
 κ b3
def XM (g : Geo) (k : Int) (s : Stt) (z : Int) : T Bool := VT g k s z .ret
theorem xic {β : Type} (g : Geo) (k : Int) (s : Stt) (z : Int) (κ : Bool -> T β) : (XM g k s z).bind κ = VT g k s z κ := by
 unfold XM VT
 first | rfl | (simp only [xa, xb, xe, xc, T.bind_assoc])
def XN {β : Type} (g : Geo) (to fr z : Int) (κ : Int -> T β) : T β :=
 (jb g to fr).bind fun r0 =>
 bif r0 then (κ (0)) else
 (kZ g).bind fun r2 =>
 .op (.store (atF g 11 to) (Stt.word (Stt.mk (Stt.mk 2 z fr r2).kind (Stt.mk 2 z fr r2).size (Stt.mk 2 z fr r2).other (Stt.mk 2 z fr r2).ver))) fun _ =>
 κ r2
def kI (g : Geo) (to fr z : Int) : T Int := XN g to fr z .ret
theorem xe9 {β : Type} (g : Geo) (to fr z : Int) (κ : Int -> T β) : (kI g to fr z).bind κ = XN g to fr z κ := by
 unfold kI XN
 first | rfl | (simp only [xa, xb, xe, xc, T.bind_assoc])
def xid {β : Type} (g : Geo) (fr : Int) (s : Stt) (to v : Int) (κ : Bool -> T β) : T β :=
 (jb g fr to).bind fun r0 =>
 bif r0 then (κ (false)) else
 .op (.cas (atF g 11 fr) (Stt.word (Stt.mk s.kind s.size s.other s.ver)) (Stt.word (Stt.mk 3 0 to v))) fun b2 =>
 κ b2
def xd1 (g : Geo) (fr : Int) (s : Stt) (to v : Int) : T Bool := xid g fr s to v .ret
theorem xoa {β : Type} (g : Geo) (fr : Int) (s : Stt) (to v : Int) (κ : Bool -> T β) : (xd1 g fr s to v).bind κ = xid g fr s to v κ := by
 unfold xd1 xid
 first | rfl | (simp only [xa, xb, xe, xc, T.bind_assoc])
def VU {β : Type} (g : Geo) (to fr z v : Int) (κ : Unit -> T β) : T β :=
 (jb g to fr).bind fun r0 =>
 bif r0 then (κ ()) else
 .op (.cas (atF g 11 to) (Stt.word (Stt.mk (Stt.mk 2 z fr v).kind (Stt.mk 2 z fr v).size (Stt.mk 2 z fr v).other (Stt.mk 2 z fr v).ver)) (Stt.word (Stt.mk 1 z 0 v))) fun b2 =>
 .op (.store (atF g 11 fr) (0)) fun _ =>
 κ ()
def qQ (g : Geo) (to fr z v : Int) : T Unit := VU g to fr z v .ret
theorem xie {β : Type} (g : Geo) (to fr z v : Int) (κ : Unit -> T β) : (qQ g to fr z v).bind κ = VU g to fr z v κ := by
 unfold qQ VU
 first | rfl | (simp only [xa, xb, xe, xc, T.bind_assoc])
def xif {β : Type} (g : Geo) (to : Int) (κ : Unit -> T β) : T β :=
 (wP g to).bind fun r0 =>
 bif !r0 then (.op (.store (atF g 11 to) (0)) fun _ =>
 κ ()) else
 κ ()
def xd2 (g : Geo) (to : Int) : T Unit := xif g to .ret
theorem xlm {β : Type} (g : Geo) (to : Int) (κ : Unit -> T β) : (xd2 g to).bind κ = xif g to κ := by
 unfold xd2 xif
 first | rfl | (simp only [xa, xb, xe, xc, T.bind_assoc])
def xig {β : Type} (g : Geo) (k : Int) (κ : Seen -> T β) : T β :=
 (wP g k).bind fun r0 =>
 bif r0 then (κ ⟨(0), (0), (0), (0), (false), (0)⟩) else
 .op (.load (atF g 11 k)) fun x2 =>
 .op (.steps ) fun x3 =>
 bif (vV x2).kind == 1 then (κ ⟨((vV x2).kind), ((vV x2).size), ((vV x2).other), ((vV x2).ver), (true), (x3)⟩) else
 bif (vV x2).kind == 2 then ((xb2 g k x2).bind fun r6 =>
 bif r6.2 then (κ ⟨(r6.fst.kind), (r6.fst.size), (r6.fst.other), (r6.fst.ver), (r6.fst.live), (r6.fst.lin)⟩) else
 .fail) else
 κ ⟨(0), (0), (0), (0), (false), (x3)⟩
def xbl (g : Geo) (k : Int) : T Seen := xig g k .ret
theorem xob {β : Type} (g : Geo) (k : Int) (κ : Seen -> T β) : (xbl g k).bind κ = xig g k κ := by
 unfold xbl xig
 first | rfl | (simp only [xa, xb, xe, xc, T.bind_assoc])
def xas {β : Type} (o : Int) (κ : (Int × Bool) -> T β) : T β :=
 bif decide (o < 0) then (κ ((0), (false))) else
 bif Int.tmod o 8 == 0 then (bif decide (i64.wrap (Int.tdiv o 8) < 8) then (κ ((i64.wrap (Int.tdiv o 8)), (true))) else
 κ ((0), (false))) else
 κ ((0), (false))
def xd3 (o : Int) : T (Int × Bool) := xas o .ret
theorem xfa {β : Type} (o : Int) (κ : (Int × Bool) -> T β) : (xd3 o).bind κ = xas o κ := by
 unfold xd3 xas
 first | rfl | (simp only [xa, xb, xe, xc, T.bind_assoc])
def xat {β : Type} (o : Int) (κ : (Int × Bool) -> T β) : T β :=
 bif decide (o < 0) then (κ ((0), (false))) else
 bif Int.tmod o 16 == 0 then (bif decide (i64.wrap (Int.tdiv o 16) < 4) then (κ ((i64.wrap (Int.tdiv o 16)), (true))) else
 κ ((0), (false))) else
 κ ((0), (false))
def xd4 (o : Int) : T (Int × Bool) := xat o .ret
theorem xfb {β : Type} (o : Int) (κ : (Int × Bool) -> T β) : (xd4 o).bind κ = xat o κ := by
 unfold xd4 xat
 first | rfl | (simp only [xa, xb, xe, xc, T.bind_assoc])
def xau {β : Type} (o : Int) (κ : (Int × Bool) -> T β) : T β :=
 bif decide (o < 0) then (κ ((0), (false))) else
 bif Int.tmod o 24 == 0 then (bif decide (i64.wrap (Int.tdiv o 24) < 2) then (κ ((i64.wrap (Int.tdiv o 24)), (true))) else
 κ ((0), (false))) else
 κ ((0), (false))
def xd5 (o : Int) : T (Int × Bool) := xau o .ret
theorem xfc {β : Type} (o : Int) (κ : (Int × Bool) -> T β) : (xd5 o).bind κ = xau o κ := by
 unfold xd5 xau
 first | rfl | (simp only [xa, xb, xe, xc, T.bind_assoc])
def xav {β : Type} (o : Int) (κ : (Int × Bool) -> T β) : T β :=
 bif decide (o < 0) then (κ ((0), (false))) else
 bif Int.tmod o 32 == 0 then (bif decide (i64.wrap (Int.tdiv o 32) < 2) then (κ ((i64.wrap (Int.tdiv o 32)), (true))) else
 κ ((0), (false))) else
 κ ((0), (false))
def xd6 (o : Int) : T (Int × Bool) := xav o .ret
theorem xfd {β : Type} (o : Int) (κ : (Int × Bool) -> T β) : (xd6 o).bind κ = xav o κ := by
 unfold xd6 xav
 first | rfl | (simp only [xa, xb, xe, xc, T.bind_assoc])
def xpF {β : Type} (s a : Int) (κ : Int -> T β) : T β :=
 bif decide (s < 1) then (κ (-1)) else
 (VN a).bind fun r1 =>
 bif !r1 then (κ (-1)) else
 bif decide (8 >= s) then (bif decide (8 >= a) then (κ (0)) else
 bif decide (16 >= s) then (bif decide (16 >= a) then (κ (1)) else
 bif decide (24 >= s) then (bif decide (8 >= a) then (κ (2)) else
 bif decide (32 >= s) then (bif decide (32 >= a) then (κ (3)) else
 κ (-1)) else
 κ (-1)) else
 bif decide (32 >= s) then (bif decide (32 >= a) then (κ (3)) else
 κ (-1)) else
 κ (-1)) else
 bif decide (24 >= s) then (bif decide (8 >= a) then (κ (2)) else
 bif decide (32 >= s) then (bif decide (32 >= a) then (κ (3)) else
 κ (-1)) else
 κ (-1)) else
 bif decide (32 >= s) then (bif decide (32 >= a) then (κ (3)) else
 κ (-1)) else
 κ (-1)) else
 bif decide (16 >= s) then (bif decide (16 >= a) then (κ (1)) else
 bif decide (24 >= s) then (bif decide (8 >= a) then (κ (2)) else
 bif decide (32 >= s) then (bif decide (32 >= a) then (κ (3)) else
 κ (-1)) else
 κ (-1)) else
 bif decide (32 >= s) then (bif decide (32 >= a) then (κ (3)) else
 κ (-1)) else
 κ (-1)) else
 bif decide (24 >= s) then (bif decide (8 >= a) then (κ (2)) else
 bif decide (32 >= s) then (bif decide (32 >= a) then (κ (3)) else
 κ (-1)) else
 κ (-1)) else
 bif decide (32 >= s) then (bif decide (32 >= a) then (κ (3)) else
 κ (-1)) else
 κ (-1)
def cofT (s a : Int) : T Int := xpF s a .ret
theorem xrr {β : Type} (s a : Int) (κ : Int -> T β) : (cofT s a).bind κ = xpF s a κ := by
 unfold cofT xpF
 first | rfl | (simp only [xa, xb, xe, xc, T.bind_assoc])
def xoc : Sm := fun args H => match args, H with
 | [.c (.int .i64 n)], [] => some (mkS (Int) (logT n) fun r => some (.c (.int .i64 r), []))
 | _, _ => none
variable {σ : Type} {I : Port Tryz.prog σ}
theorem xte (hl : SoundL I ka2) : SoundF I 257 xoc := by
 refine sq hl 1 Tryz.func257 fun args H t ht => ?_
 unfold xoc at ht
 split at ht
 ·rename_i n
  cases ht
  refine Eq.trans ?_ (xrq n _).symm
  kernel_rfl
 ·cases ht
def xd7 : Sm := fun args H => match args, H with
 | [.agg (.port :: gc), .c (.int .i64 p)], [] => (match xr gc with
   | some g => some (mkS (Int) (xaq g p) fun r => some (.c (.int .i64 r), []))
   | _ => none)
 | _, _ => none
theorem xod (hl : SoundL I ka2) : SoundF I 265 xd7 := by
 refine sq hl 1 Tryz.func265 fun args H t ht => ?_
 unfold xd7 at ht
 split at ht
 ·rename_i gc p
  split at ht
  ·rename_i g hg
   obtain rfl := xi hg
   cases ht
   refine Eq.trans ?_ (xli g p _).symm
   kernel_rfl
  ·cases ht
 ·cases ht
def xaw : Sm := fun args H => match args, H with
 | [.agg (.port :: gc), .c (.int .i64 p)], [] => (match xr gc with
   | some g => some (mkS (Int) (XL g p) fun r => some (.c (.int .i64 r), []))
   | _ => none)
 | _, _ => none
theorem xln (hl : SoundL I ka2) : SoundF I 266 xaw := by
 refine sq hl 1 Tryz.func266 fun args H t ht => ?_
 unfold xaw at ht
 split at ht
 ·rename_i gc p
  split at ht
  ·rename_i g hg
   obtain rfl := xi hg
   cases ht
   refine Eq.trans ?_ (xh7 g p _).symm
   kernel_rfl
  ·cases ht
 ·cases ht
def xih : Sm := fun args H => match args, H with
 | [.c .port, .agg gc, .c (.int .i64 p), .c (.int .i64 k)], [] => (match xr gc with
   | some g => some (mkS (Bool) (markT g p k) fun r => some (.c (.bool r), []))
   | _ => none)
 | _, _ => none
theorem xrs (hl : SoundL I ka2) : SoundF I 85 xih := by
 refine sq hl 1 Tryz.func85 fun args H t ht => ?_
 unfold xih at ht
 split at ht
 ·rename_i gc p k
  split at ht
  ·rename_i g hg
   obtain rfl := xi hg
   cases ht
   refine Eq.trans ?_ (xn7 g p k _).symm
   kernel_rfl
  ·cases ht
 ·cases ht
def xd8 : Sm := fun args H => match args, H with
 | [.agg (.port :: gc), .c (.int .i64 b), .agg cc], [] => (match shOf gc with
   | some (g, p) => (match Cls.of cc with
   | some c => some (mkS (Int) (xn8 g p b c) fun r => some (.c (.int .i64 r), []))
   | _ => none)
   | _ => none)
 | _, _ => none
theorem xoe (hl : SoundL I ka2) : SoundF I 279 xd8 := by
 refine sq hl 1 Tryz.func279 fun args H t ht => ?_
 unfold xd8 at ht
 split at ht
 ·rename_i gc b cc
  split at ht
  ·rename_i g p hg
   obtain rfl := xbS hg
   split at ht
   ·rename_i c hc
    obtain rfl := Cls.of_eq hc
    cases ht
    refine Eq.trans ?_ (xlj g p b c _).symm
    kernel_rfl
   ·cases ht
  ·cases ht
 ·cases ht
def xax : Sm := fun args H => match args, H with
 | [.agg cc], [] => (match Cls.of cc with
   | some c => some (mkS (Int) (xb4 c) fun r => some (.c (.int .u8 r), []))
   | _ => none)
 | _, _ => none
theorem xlo (hl : SoundL I ka2) : SoundF I 280 xax := by
 refine sq hl 1 Tryz.func280 fun args H t ht => ?_
 unfold xax at ht
 split at ht
 ·rename_i cc
  split at ht
  ·rename_i c hc
   obtain rfl := Cls.of_eq hc
   cases ht
   refine Eq.trans ?_ (xia c _).symm
   kernel_rfl
  ·cases ht
 ·cases ht
def xd9 : Sm := fun args H => match args, H with
 | [.agg bc], [] => (match Bt.of bc with
   | some b => some (mkS (Int) (firstT b) fun r => some (.c (.int .i64 r), []))
   | _ => none)
 | _, _ => none
theorem xof (hl : SoundL I ka2) : SoundF I 278 xd9 := by
 refine sq hl 1 Tryz.func278 fun args H t ht => ?_
 unfold xd9 at ht
 split at ht
 ·rename_i bc
  split at ht
  ·rename_i b hb
   obtain rfl := Bt.of_eq hb
   cases ht
   refine Eq.trans ?_ (xlk b _).symm
   kernel_rfl
  ·cases ht
 ·cases ht
def xii : Sm := fun args H => match args, H with
 | [.agg bc, .c (.int .i64 n)], [] => (match Bt.of bc with
   | some b => some (mkS (Bool) (xbk b n) fun r => some (.c (.bool r), []))
   | _ => none)
 | _, _ => none
theorem xrt (hl : SoundL I ka2) : SoundF I 269 xii := by
 refine sq hl 1 Tryz.func269 fun args H t ht => ?_
 unfold xii at ht
 split at ht
 ·rename_i bc n
  split at ht
  ·rename_i b hb
   obtain rfl := Bt.of_eq hb
   cases ht
   refine Eq.trans ?_ (xn9 b n _).symm
   kernel_rfl
  ·cases ht
 ·cases ht
def xea : Sm := fun args H => match args, H with
 | [.c .port, .agg gc, .c (.int .i64 k), .c (.int .i64 s)], [] => (match xr gc with
   | some g => some (mkS (Unit) (xar g k s) fun r => some (.tup [], []))
   | _ => none)
 | _, _ => none
theorem xog (hl : SoundL I ka2) : SoundF I 164 xea := by
 refine sq hl 1 Tryz.func164 fun args H t ht => ?_
 unfold xea at ht
 split at ht
 ·rename_i gc k s
  split at ht
  ·rename_i g hg
   obtain rfl := xi hg
   cases ht
   refine Eq.trans ?_ (xll g k s _).symm
   kernel_rfl
  ·cases ht
 ·cases ht
def xay : Sm := fun args H => match args, H with
 | [.c .port, .agg gc, .c (.int .i64 k), .agg sc, .c (.int .i64 z)], [] => (match xr gc with
   | some g => (match Stt.of sc with
   | some s => some (mkS (Bool) (XM g k s z) fun r => some (.c (.bool r), []))
   | _ => none)
   | _ => none)
 | _, _ => none
theorem xlp (hl : SoundL I ka2) : SoundF I 193 xay := by
 refine sq hl 1 Tryz.func193 fun args H t ht => ?_
 unfold xay at ht
 split at ht
 ·rename_i gc k sc z
  split at ht
  ·rename_i g hg
   obtain rfl := xi hg
   split at ht
   ·rename_i s hs
    obtain rfl := Stt.of_eq hs
    cases ht
    refine Eq.trans ?_ (xic g k s z _).symm
    kernel_rfl
   ·cases ht
  ·cases ht
 ·cases ht
def Wn : Sm := fun args H => match args, H with
 | [.c .port, .agg gc, .c (.int .i64 to), .c (.int .i64 fr), .c (.int .i64 z)], [] => (match xr gc with
   | some g => some (mkS (Int) (kI g to fr z) fun r => some (.c (.int .u32 r), []))
   | _ => none)
 | _, _ => none
theorem xij (hl : SoundL I ka2) : SoundF I 195 Wn := by
 refine sq hl 1 Tryz.func195 fun args H t ht => ?_
 unfold Wn at ht
 split at ht
 ·rename_i gc to fr z
  split at ht
  ·rename_i g hg
   obtain rfl := xi hg
   cases ht
   refine Eq.trans ?_ (xe9 g to fr z _).symm
   kernel_rfl
  ·cases ht
 ·cases ht
def xik : Sm := fun args H => match args, H with
 | [.c .port, .agg gc, .c (.int .i64 fr), .agg sc, .c (.int .i64 to), .c (.int .u32 v)], [] => (match xr gc with
   | some g => (match Stt.of sc with
   | some s => some (mkS (Bool) (xd1 g fr s to v) fun r => some (.c (.bool r), []))
   | _ => none)
   | _ => none)
 | _, _ => none
theorem xru (hl : SoundL I ka2) : SoundF I 196 xik := by
 refine sq hl 1 Tryz.func196 fun args H t ht => ?_
 unfold xik at ht
 split at ht
 ·rename_i gc fr sc to v
  split at ht
  ·rename_i g hg
   obtain rfl := xi hg
   split at ht
   ·rename_i s hs
    obtain rfl := Stt.of_eq hs
    cases ht
    refine Eq.trans ?_ (xoa g fr s to v _).symm
    kernel_rfl
   ·cases ht
  ·cases ht
 ·cases ht
def xaz : Sm := fun args H => match args, H with
 | [.c .port, .agg gc, .c (.int .i64 to), .c (.int .i64 fr), .c (.int .i64 z), .c (.int .u32 v)], [] => (match xr gc with
   | some g => some (mkS (Unit) (qQ g to fr z v) fun r => some (.tup [], []))
   | _ => none)
 | _, _ => none
theorem xlq (hl : SoundL I ka2) : SoundF I 198 xaz := by
 refine sq hl 1 Tryz.func198 fun args H t ht => ?_
 unfold xaz at ht
 split at ht
 ·rename_i gc to fr z v
  split at ht
  ·rename_i g hg
   obtain rfl := xi hg
   cases ht
   refine Eq.trans ?_ (xie g to fr z v _).symm
   kernel_rfl
  ·cases ht
 ·cases ht
def xeb : Sm := fun args H => match args, H with
 | [.c .port, .agg gc, .c (.int .i64 to)], [] => (match xr gc with
   | some g => some (mkS (Unit) (xd2 g to) fun r => some (.tup [], []))
   | _ => none)
 | _, _ => none
theorem xoh (hl : SoundL I ka2) : SoundF I 197 xeb := by
 refine sq hl 1 Tryz.func197 fun args H t ht => ?_
 unfold xeb at ht
 split at ht
 ·rename_i gc to
  split at ht
  ·rename_i g hg
   obtain rfl := xi hg
   cases ht
   refine Eq.trans ?_ (xlm g to _).symm
   kernel_rfl
  ·cases ht
 ·cases ht
def xil : Sm := fun args H => match args, H with
 | [.c .port, .agg gc, .c (.int .i64 k)], [] => (match xr gc with
   | some g => some (mkS (Seen) (xbl g k) fun r => some (.agg r.cells, []))
   | _ => none)
 | _, _ => none
theorem xrv (hl : SoundL I ka2) : SoundF I 115 xil := by
 refine sq hl 1 Tryz.func115 fun args H t ht => ?_
 unfold xil at ht
 split at ht
 ·rename_i gc k
  split at ht
  ·rename_i g hg
   obtain rfl := xi hg
   cases ht
   refine Eq.trans ?_ (xob g k _).symm
   kernel_rfl
  ·cases ht
 ·cases ht
def Wo : Sm := fun args H => match args, H with
 | [.c (.int .i64 0), .c (.int .i64 o)], [] => some (mkS ((Int × Bool)) (xd3 o) fun r => some (.tup [.c (.int .i64 r.1), .c (.bool r.2)], []))
 | _, _ => none
theorem xim (hl : SoundL I ka2) : SoundF I 177 Wo := by
 refine sq hl 1 Tryz.func177 fun args H t ht => ?_
 unfold Wo at ht
 split at ht
 ·rename_i o
  cases ht
  refine Eq.trans ?_ (xfa o _).symm
  kernel_rfl
 ·cases ht
def Wp : Sm := fun args H => match args, H with
 | [.c (.int .i64 1), .c (.int .i64 o)], [] => some (mkS ((Int × Bool)) (xd4 o) fun r => some (.tup [.c (.int .i64 r.1), .c (.bool r.2)], []))
 | _, _ => none
theorem xin (hl : SoundL I ka2) : SoundF I 177 Wp := by
 refine sq hl 1 Tryz.func177 fun args H t ht => ?_
 unfold Wp at ht
 split at ht
 ·rename_i o
  cases ht
  refine Eq.trans ?_ (xfb o _).symm
  kernel_rfl
 ·cases ht
def Wq : Sm := fun args H => match args, H with
 | [.c (.int .i64 2), .c (.int .i64 o)], [] => some (mkS ((Int × Bool)) (xd5 o) fun r => some (.tup [.c (.int .i64 r.1), .c (.bool r.2)], []))
 | _, _ => none
theorem xio (hl : SoundL I ka2) : SoundF I 177 Wq := by
 refine sq hl 1 Tryz.func177 fun args H t ht => ?_
 unfold Wq at ht
 split at ht
 ·rename_i o
  cases ht
  refine Eq.trans ?_ (xfc o _).symm
  kernel_rfl
 ·cases ht
def Wr : Sm := fun args H => match args, H with
 | [.c (.int .i64 3), .c (.int .i64 o)], [] => some (mkS ((Int × Bool)) (xd6 o) fun r => some (.tup [.c (.int .i64 r.1), .c (.bool r.2)], []))
 | _, _ => none
theorem xip (hl : SoundL I ka2) : SoundF I 177 Wr := by
 refine sq hl 1 Tryz.func177 fun args H t ht => ?_
 unfold Wr at ht
 split at ht
 ·rename_i o
  cases ht
  refine Eq.trans ?_ (xfd o _).symm
  kernel_rfl
 ·cases ht
def xoi : Sm := fun args H => match args, H with
 | [.c (.int .i64 s), .c (.int .i64 a)], [] => some (mkS (Int) (cofT s a) fun r => some (.c (.int .i64 r), []))
 | _, _ => none
theorem xtf (hl : SoundL I ka2) : SoundF I 75 xoi := by
 refine sq hl 6 Tryz.func75 fun args H t ht => ?_
 unfold xoi at ht
 split at ht
 ·rename_i s a
  cases ht
  refine Eq.trans ?_ (xrr s a _).symm
  kernel_rfl
 ·cases ht
def ka3 : List (Nat × Sm) := (257, xoc) :: (265, xd7) :: (266, xaw) :: (85, xih) :: (279, xd8) :: (280, xax) :: (278, xd9) :: (269, xii) :: (164, xea) :: (193, xay) :: (195, Wn) :: (196, xik) :: (198, xaz) :: (197, xeb) :: (115, xil) :: (177, (orSm Wo (orSm Wp (orSm Wq Wr)))) :: (75, xoi) :: ka2
theorem s_ka3 : SoundL I ka3 := (.cons (xte vp) (.cons (xod vp) (.cons (xln vp) (.cons (xrs vp) (.cons (xoe vp) (.cons (xlo vp) (.cons (xof vp) (.cons (xrt vp) (.cons (xog vp) (.cons (xlp vp) (.cons (xij vp) (.cons (xru vp) (.cons (xlq vp) (.cons (xoh vp) (.cons (xrv vp) (.cons (SoundF.or (xim vp) (SoundF.or (xin vp) (SoundF.or (xio vp) (xip vp)))) (.cons (xtf vp) vp)))))))))))))))))
end Go.Proofs.YtaegelbaghaooaaGreat.Lx
