/- Summaries: lock, cache, state, pool, small functions. (trees printed by program, wip/auto.py) -/
import Derived.Test.YtaegelbaghaooaaGreatErQA1
import Derived.WalkKit
set_option linter.all false
open Go.IntKind (i64 u64 u32 u8)
namespace Go.Proofs.YtaegelbaghaooaaGreat.Lx
open Go
set_option maxRecDepth 1000000
structure Seen where
 (kind size other ver : Int) (live : Bool) (lin : Int)
def Seen.cells (r : Seen) : List C := [.int .i64 r.kind, .int .i64 r.size, .int .i64 r.other, .int .u32 r.ver, .bool r.live, .int .i64 r.lin]
def Seen.of : List C -> Option Seen
 | [.int .i64 a, .int .i64 b, .int .i64 c, .int .u32 d, .bool e, .int .i64 f] => some ⟨a, b, c, d, e, f⟩
 | _ => none
theorem Seen.of_eq {l : List C} {r : Seen} (h : Seen.of l = some r) : l = r.cells := by
 unfold Seen.of at h; split at h <;> cases h; rfl
def xpD {β : Type} (g : Geo) (κ : Bool -> T β) : T β :=
 .op (.self ) fun x0 =>
 .op (.cas (atF g 0 0) (0) (u64.wrap (u64.wrap x0 + 1))) fun b1 =>
 bif b1 then (κ (true)) else
 .op (.self ) fun x3 =>
 .op (.cas (atF g 0 0) (0) (u64.wrap (u64.wrap x3 + 1))) fun b4 =>
 bif b4 then (κ (true)) else
 .op (.self ) fun x6 =>
 .op (.cas (atF g 0 0) (0) (u64.wrap (u64.wrap x6 + 1))) fun b7 =>
 bif b7 then (κ (true)) else
 κ (false)
def tryT (g : Geo) : T Bool := xpD g .ret
theorem xro {β : Type} (g : Geo) (κ : Bool -> T β) : (tryT g).bind κ = xpD g κ := by
 unfold tryT xpD
 first | rfl | (simp only [xa, xb, xe, xc, T.bind_assoc])
def xhZ {β : Type} (g : Geo) (κ : Bool -> T β) : T β :=
 .op (.self ) fun x0 =>
 .op (.cas (atF g 0 0) (u64.wrap (u64.wrap x0 + 1)) (0)) fun b1 =>
 κ b1
def ZW (g : Geo) : T Bool := xhZ g .ret
theorem xn4 {β : Type} (g : Geo) (κ : Bool -> T β) : (ZW g).bind κ = xhZ g κ := by
 unfold ZW xhZ
 first | rfl | (simp only [xa, xb, xe, xc, T.bind_assoc])
def xb1 {β : Type} (g : Geo) (k : Int) (κ : (Int × Bool) -> T β) : T β :=
 .op (.self ) fun x0 =>
 (qO g x0 k).bind fun r1 =>
 κ ((r1.1), (r1.2))
def xdV (g : Geo) (k : Int) : T (Int × Bool) := xb1 g k .ret
theorem xld {β : Type} (g : Geo) (k : Int) (κ : (Int × Bool) -> T β) : (xdV g k).bind κ = xb1 g k κ := by
 unfold xdV xb1
 first | rfl | (simp only [xa, xb, xe, xc, T.bind_assoc])
def VP {β : Type} (g : Geo) (k : Int) (κ : Bool -> T β) : T β :=
 .op (.self ) fun x0 =>
 bif atF g 6 x0 == -1 then (κ (true)) else
 bif atF g 11 k == -1 then (κ (true)) else
 κ (false)
def wP (g : Geo) (k : Int) : T Bool := VP g k .ret
theorem xh0 {β : Type} (g : Geo) (k : Int) (κ : Bool -> T β) : (wP g k).bind κ = VP g k κ := by
 unfold wP VP
 first | rfl | (simp only [xa, xb, xe, xc, T.bind_assoc])
def VQ {β : Type} (g : Geo) (k j : Int) (κ : Bool -> T β) : T β :=
 .op (.self ) fun x0 =>
 bif atF g 6 x0 == -1 then (κ (true)) else
 bif atF g 11 k == -1 then (κ (true)) else
 bif atF g 11 j == -1 then (κ (true)) else
 κ (false)
def jb (g : Geo) (k j : Int) : T Bool := VQ g k j .ret
theorem xh1 {β : Type} (g : Geo) (k j : Int) (κ : Bool -> T β) : (jb g k j).bind κ = VQ g k j κ := by
 unfold jb VQ
 first | rfl | (simp only [xa, xb, xe, xc, T.bind_assoc])
def xdW {β : Type} (x k : Int) (κ : Int -> T β) : T β :=
 bif x == k then (κ (0)) else
 κ (-1)
def xh2 (x k : Int) : T Int := xdW x k .ret
theorem xh3 {β : Type} (x k : Int) (κ : Int -> T β) : (xh2 x k).bind κ = xdW x k κ := by
 unfold xh2 xdW
 first | rfl | (simp only [xa, xb, xe, xc, T.bind_assoc])
def xdX {β : Type} (g : Geo) (k was : Int) (κ : (Seen × Bool) -> T β) : T β :=
 .op (.load (atF g 11 (vV was).other)) fun x0 =>
 .op (.steps ) fun x1 =>
 bif (vV x0).kind == 3 then (bif (vV x0).other == k then (bif (vV x0).ver == (vV was).ver then (.op (.cas (atF g 11 k) (was) ((Stt.mk 1 (vV was).size 0 (vV was).ver).word)) fun b5 =>
 κ (⟨(0), (0), (0), (0), (false), (0)⟩, (false))) else
 .op (.load (atF g 11 k)) fun x5 =>
 κ (⟨(0), (0), (0), (0), (false), (x1)⟩, (x5 == was))) else
 .op (.load (atF g 11 k)) fun x4 =>
 κ (⟨(0), (0), (0), (0), (false), (x1)⟩, (x4 == was))) else
 .op (.load (atF g 11 k)) fun x3 =>
 κ (⟨(0), (0), (0), (0), (false), (x1)⟩, (x3 == was))
def xb2 (g : Geo) (k was : Int) : T (Seen × Bool) := xdX g k was .ret
theorem xh4 {β : Type} (g : Geo) (k was : Int) (κ : (Seen × Bool) -> T β) : (xb2 g k was).bind κ = xdX g k was κ := by
 unfold xb2 xdX
 first | rfl | (simp only [xa, xb, xe, xc, T.bind_assoc])
def isTK {β : Type} (g : Geo) (p k : Int) (κ : Bool -> T β) : T β :=
 bif decide (p >= 0) then (bif decide (p < g.pages) then (bif decide (k >= 0) then (κ (decide (k < 4))) else
 κ (false)) else
 κ (false)) else
 κ (false)
def isT (g : Geo) (p k : Int) : T Bool := isTK g p k .ret
theorem xtc {β : Type} (g : Geo) (p k : Int) (κ : Bool -> T β) : (isT g p k).bind κ = isTK g p k κ := by
 unfold isT isTK
 first | rfl | (simp only [xa, xb, xe, xc, T.bind_assoc])
def xal {β : Type} (it : Int) (κ : Int -> T β) : T β :=
 κ (i64.wrap (i64.wrap it - 1))
def xdY (it : Int) : T Int := xal it .ret
theorem xe8 {β : Type} (it : Int) (κ : Int -> T β) : (xdY it).bind κ = xal it κ := by
 unfold xdY xal
 first | rfl | (simp only [xa, xb, xe, xc, T.bind_assoc])
def xn5 : Sm := fun args H => match args, H with
 | [.c .port, .agg gc], [] => (match xr gc with
   | some g => some (mkS (Bool) (tryT g) fun r => some (.c (.bool r), []))
   | _ => none)
 | _, _ => none
variable {σ : Type} {I : Port Tryz.prog σ}
theorem xtd (hl : SoundL I ka1) : SoundF I 169 xn5 := by
 refine sq hl 5 Tryz.func169 fun args H t ht => ?_
 unfold xn5 at ht
 split at ht
 ·rename_i gc
  split at ht
  ·rename_i g hg
   obtain rfl := xi hg
   cases ht
   refine Eq.trans ?_ (xro g _).symm
   kernel_rfl
  ·cases ht
 ·cases ht
def xh5 : Sm := fun args H => match args, H with
 | [.c .port, .agg gc], [] => (match xr gc with
   | some g => some (mkS (Bool) (ZW g) fun r => some (.c (.bool r), []))
   | _ => none)
 | _, _ => none
theorem xrp (hl : SoundL I ka1) : SoundF I 171 xh5 := by
 refine sq hl 1 Tryz.func171 fun args H t ht => ?_
 unfold xh5 at ht
 split at ht
 ·rename_i gc
  split at ht
  ·rename_i g hg
   obtain rfl := xi hg
   cases ht
   refine Eq.trans ?_ (xn4 g _).symm
   kernel_rfl
  ·cases ht
 ·cases ht
def xdZ : Sm := fun args H => match args, H with
 | [.c .port, .agg gc, .c (.int .i64 k)], [] => (match xr gc with
   | some g => some (mkS ((Int × Bool)) (xdV g k) fun r => some (.tup [.c (.int .u64 r.1), .c (.bool r.2)], []))
   | _ => none)
 | _, _ => none
theorem xn6 (hl : SoundL I ka1) : SoundF I 212 xdZ := by
 refine sq hl 1 Tryz.func212 fun args H t ht => ?_
 unfold xdZ at ht
 split at ht
 ·rename_i gc k
  split at ht
  ·rename_i g hg
   obtain rfl := xi hg
   cases ht
   refine Eq.trans ?_ (xld g k _).symm
   kernel_rfl
  ·cases ht
 ·cases ht
def xam : Sm := fun args H => match args, H with
 | [.c .port, .agg gc, .c (.sl 0 0 1 1)], [some ⟨[.int .i64 k], 3, false, none⟩] => (match xr gc with
   | some g => some (mkS Bool (wP g k) fun r => some (.c (.bool r), [some ⟨[.int .i64 k], 3, false, none⟩]))
   | _ => none)
 | _, _ => none
theorem xle (hl : SoundL I ka1) : SoundF I 190 xam := by
 refine sq hl 5 Tryz.func190 fun args H t ht => ?_
 unfold xam at ht
 split at ht
 ·rename_i gc k
  split at ht
  ·rename_i g hg
   obtain rfl := xi hg
   cases ht
   refine Eq.trans ?_ (xh0 g k _).symm
   kernel_rfl
  ·cases ht
 ·cases ht
def xan : Sm := fun args H => match args, H with
 | [.c .port, .agg gc, .c (.sl 0 0 2 2)], [some ⟨[.int .i64 k, .int .i64 j], 3, false, none⟩] => (match xr gc with
   | some g => some (mkS Bool (jb g k j) fun r => some (.c (.bool r), [some ⟨[.int .i64 k, .int .i64 j], 3, false, none⟩]))
   | _ => none)
 | _, _ => none
theorem xlf (hl : SoundL I ka1) : SoundF I 190 xan := by
 refine sq hl 5 Tryz.func190 fun args H t ht => ?_
 unfold xan at ht
 split at ht
 ·rename_i gc k j
  split at ht
  ·rename_i g hg
   obtain rfl := xi hg
   cases ht
   refine Eq.trans ?_ (xh1 g k j _).symm
   kernel_rfl
  ·cases ht
 ·cases ht
def xao : Sm := fun args H => match args, H with
 | [.c (.sl 0 0 1 1), .c (.int .i64 x)], [some ⟨[.int .i64 k], 3, false, none⟩] => some (mkS Int (xh2 x k) fun r => some (.c (.int .i64 r), [some ⟨[.int .i64 k], 3, false, none⟩]))
 | _, _ => none
theorem xlg (hl : SoundL I ka1) : SoundF I 271 xao := by
 refine sq hl 5 Tryz.func271 fun args H t ht => ?_
 unfold xao at ht
 split at ht
 ·rename_i x k
  cases ht
  refine Eq.trans ?_ (xh3 x k _).symm
  kernel_rfl
 ·cases ht
def xap : Sm := fun args H => match args, H with
 | [.c .port, .agg gc, .c (.int .i64 k), .c (.int .u64 was)], [] => (match xr gc with
   | some g => some (mkS ((Seen × Bool)) (xb2 g k was) fun r => some (.tup [.agg r.1.cells, .c (.bool r.2)], []))
   | _ => none)
 | _, _ => none
theorem xlh (hl : SoundL I ka1) : SoundF I 192 xap := by
 refine sq hl 1 Tryz.func192 fun args H t ht => ?_
 unfold xap at ht
 split at ht
 ·rename_i gc k was
  split at ht
  ·rename_i g hg
   obtain rfl := xi hg
   cases ht
   refine Eq.trans ?_ (xh4 g k was _).symm
   kernel_rfl
  ·cases ht
 ·cases ht
def m_isT : Sm := fun args H => match args, H with
 | [.agg (.port :: gc), .c (.int .i64 k)], [] => (match shOf gc with
   | some (g, p) => some (mkS (Bool) (isT g p k) fun r => some (.c (.bool r), []))
   | _ => none)
 | _, _ => none
theorem s_m_isT (hl : SoundL I ka1) : SoundF I 277 m_isT := by
 refine sq hl 1 Tryz.func277 fun args H t ht => ?_
 unfold m_isT at ht
 split at ht
 ·rename_i gc k
  split at ht
  ·rename_i g p hg
   obtain rfl := xbS hg
   cases ht
   refine Eq.trans ?_ (xtc g p k _).symm
   kernel_rfl
  ·cases ht
 ·cases ht
def Wm : Sm := fun args H => match args, H with
 | [.c (.int .u64 it)], [] => some (mkS (Int) (xdY it) fun r => some (.c (.int .i64 r), []))
 | _, _ => none
theorem xh6 (hl : SoundL I ka1) : SoundF I 214 Wm := by
 refine sq hl 1 Tryz.func214 fun args H t ht => ?_
 unfold Wm at ht
 split at ht
 ·rename_i it
  cases ht
  refine Eq.trans ?_ (xe8 it _).symm
  kernel_rfl
 ·cases ht
def ka2 : List (Nat × Sm) := (169, xn5) :: (171, xh5) :: (212, xdZ) :: (190, (orSm xam xan)) :: (271, xao) :: (192, xap) :: (277, m_isT) :: (214, Wm) :: ka1
theorem vp : SoundL I ka2 := (.cons (xtd YA) (.cons (xrp YA) (.cons (xn6 YA) (.cons (SoundF.or (xle YA) (xlf YA)) (.cons (xlg YA) (.cons (xlh YA) (.cons (s_m_isT YA) (.cons (xh6 YA) YA))))))))
end Go.Proofs.YtaegelbaghaooaaGreat.Lx
