/- Part. -/
import Derived.Test.YtaegelbaghaooaaGreatCfQA1
set_option linter.all false
open Go.IntKind (i64 u64 u32 u8)
namespace Go.Proofs.YtaegelbaghaooaaGreat.Lx
open Go
set_option maxRecDepth 1000000
structure Seen where
 (kind size other ver : Int) (live : Bool) (lin : Int)
def Seen.cells (r : Seen) : List C := [.int .i64 r.kind, .int .i64 r.size, .int .i64 r.other, .int .u32 r.ver, .bool r.live, .int .i64 r.lin]
def Seen.of : List C -> Option Seen
 | [.int .i64 a, .int .i64 b, .int .i64 c, .int .u32 d, .bool e, .int .i64 f] => some ⟨a, b, c, d, e, f⟩
 | _ => none
theorem Seen.of_eq {l : List C} {r : Seen} (h : Seen.of l = some r) : l = r.cells := by
 unfold Seen.of at h; split at h <;> cases h; rfl
def xsi {β : Type} (g : Geo) (κ : Bool -> T β) : T β :=
 .op (.self ) fun x0 =>
 .op (.cas (atF g 0 0) (0) (u64.wrap (u64.wrap x0 + 1))) fun b1 =>
 bif b1 then (κ (true)) else
 .op (.self ) fun x3 =>
 .op (.cas (atF g 0 0) (0) (u64.wrap (u64.wrap x3 + 1))) fun b4 =>
 bif b4 then (κ (true)) else
 .op (.self ) fun x6 =>
 .op (.cas (atF g 0 0) (0) (u64.wrap (u64.wrap x6 + 1))) fun b7 =>
 bif b7 then (κ (true)) else
 κ (false)
def tryT (g : Geo) : T Bool := xsi g .ret
theorem xuj {β : Type} (g : Geo) (κ : Bool -> T β) : (tryT g).bind κ = xsi g κ := by
 unfold tryT xsi
 first | rfl | simp only [bz]
def xjV {β : Type} (g : Geo) (κ : Bool -> T β) : T β :=
 .op (.self ) fun x0 =>
 .op (.cas (atF g 0 0) (u64.wrap (u64.wrap x0 + 1)) (0)) fun b1 =>
 κ b1
def Xm (g : Geo) : T Bool := xjV g .ret
theorem xqx {β : Type} (g : Geo) (κ : Bool -> T β) : (Xm g).bind κ = xjV g κ := by
 unfold Xm xjV
 first | rfl | simp only [bz]
def KJ {β : Type} (g : Geo) (k : Int) (κ : (Int × Bool) -> T β) : T β :=
 .op (.self ) fun x0 =>
 (Zf g x0 k).bind fun r1 =>
 κ ((r1.1), (r1.2))
def jD (g : Geo) (k : Int) : T (Int × Bool) := KJ g k .ret
theorem xnh {β : Type} (g : Geo) (k : Int) (κ : (Int × Bool) -> T β) : (jD g k).bind κ = KJ g k κ := by
 unfold jD KJ
 first | rfl | simp only [bz]
def KK {β : Type} (g : Geo) (k : Int) (κ : Bool -> T β) : T β :=
 .op (.self ) fun x0 =>
 bif atF g 6 x0 == -1 then (κ (true)) else
 bif atF g 11 k == -1 then (κ (true)) else
 κ (false)
def wK (g : Geo) (k : Int) : T Bool := KK g k .ret
theorem xjW {β : Type} (g : Geo) (k : Int) (κ : Bool -> T β) : (wK g k).bind κ = KK g k κ := by
 unfold wK KK
 first | rfl | simp only [bz]
def KL {β : Type} (g : Geo) (k j : Int) (κ : Bool -> T β) : T β :=
 .op (.self ) fun x0 =>
 bif atF g 6 x0 == -1 then (κ (true)) else
 bif atF g 11 k == -1 then (κ (true)) else
 bif atF g 11 j == -1 then (κ (true)) else
 κ (false)
def jj (g : Geo) (k j : Int) : T Bool := KL g k j .ret
theorem xjX {β : Type} (g : Geo) (k j : Int) (κ : Bool -> T β) : (jj g k j).bind κ = KL g k j κ := by
 unfold jj KL
 first | rfl | simp only [bz]
def xfd {β : Type} (x k : Int) (κ : Int -> T β) : T β :=
 bif x == k then (κ (0)) else
 κ (-1)
def xjY (x k : Int) : T Int := xfd x k .ret
theorem xjZ {β : Type} (x k : Int) (κ : Int -> T β) : (xjY x k).bind κ = xfd x k κ := by
 unfold xjY xfd
 first | rfl | simp only [bz]
def xfe {β : Type} (g : Geo) (k was : Int) (κ : (Seen × Bool) -> T β) : T β :=
 .op (.load (atF g 11 (vP was).other)) fun x0 =>
 .op (.steps ) fun x1 =>
 bif (vP x0).kind == 3 then (bif (vP x0).other == k then (bif (vP x0).ver == (vP was).ver then (.op (.cas (atF g 11 k) (was) ((Stt.mk 1 (vP was).size 0 (vP was).ver).word)) fun b5 =>
 κ (⟨(0), (0), (0), (0), (false), (0)⟩, (false))) else
 .op (.load (atF g 11 k)) fun x5 =>
 κ (⟨(0), (0), (0), (0), (false), (x1)⟩, (x5 == was))) else
 .op (.load (atF g 11 k)) fun x4 =>
 κ (⟨(0), (0), (0), (0), (false), (x1)⟩, (x4 == was))) else
 .op (.load (atF g 11 k)) fun x3 =>
 κ (⟨(0), (0), (0), (0), (false), (x1)⟩, (x3 == was))
def xdh (g : Geo) (k was : Int) : T (Seen × Bool) := xfe g k was .ret
theorem xj0 {β : Type} (g : Geo) (k was : Int) (κ : (Seen × Bool) -> T β) : (xdh g k was).bind κ = xfe g k was κ := by
 unfold xdh xfe
 first | rfl | simp only [bz]
def isTK {β : Type} (g : Geo) (p k : Int) (κ : Bool -> T β) : T β :=
 bif decide (p >= 0) then (bif decide (p < g.pages) then (bif decide (k >= 0) then (κ (decide (k < 4))) else
 κ (false)) else
 κ (false)) else
 κ (false)
def isT (g : Geo) (p k : Int) : T Bool := isTK g p k .ret
theorem xwm {β : Type} (g : Geo) (p k : Int) (κ : Bool -> T β) : (isT g p k).bind κ = isTK g p k κ := by
 unfold isT isTK
 first | rfl | simp only [bz]
def xbm {β : Type} (it : Int) (κ : Int -> T β) : T β :=
 κ (i64.wrap (i64.wrap it - 1))
def xff (it : Int) : T Int := xbm it .ret
theorem xgx {β : Type} (it : Int) (κ : Int -> T β) : (xff it).bind κ = xbm it κ := by
 unfold xff xbm
 first | rfl | simp only [bz]
def xwn : Sm := gS fun
 | g, [] => some (mkS (Bool) (tryT g) fun r => some (.c (.bool r), []))
 | _, _ => none
variable {σ : Type} {I : Port Tryz.prog σ}
theorem xwo (hl : SoundL I ka1) : SoundF I 169 xwn := by
 refine gsq hl 5 Tryz.func169 fun g l t ht => ?_
 split at ht
 ·cases ht
  refine Eq.trans ?_ (xuj g _).symm
  kernel_rfl
 ·cases ht
def xsj : Sm := gS fun
 | g, [] => some (mkS (Bool) (Xm g) fun r => some (.c (.bool r), []))
 | _, _ => none
theorem xuk (hl : SoundL I ka1) : SoundF I 171 xsj := by
 refine gsq hl 1 Tryz.func171 fun g l t ht => ?_
 split at ht
 ·cases ht
  refine Eq.trans ?_ (xqx g _).symm
  kernel_rfl
 ·cases ht
def xni : Sm := gS fun
 | g, [.c (.int .i64 k)] => some (mkS ((Int × Bool)) (jD g k) fun r => some (.tup [.c (.int .u64 r.1), .c (.bool r.2)], []))
 | _, _ => none
theorem xqy (hl : SoundL I ka1) : SoundF I 212 xni := by
 refine gsq hl 1 Tryz.func212 fun g l t ht => ?_
 split at ht
 ·rename_i k
  cases ht
  refine Eq.trans ?_ (xnh g k _).symm
  kernel_rfl
 ·cases ht
def xbn : Sm := fun
 | [.c .port, .agg gc, .c (.sl 0 0 1 1)], [some ⟨[.int .i64 k], 3, false, none⟩] => (match xu gc with
   | some g => some (mkS Bool (wK g k) fun r => some (.c (.bool r), [some ⟨[.int .i64 k], 3, false, none⟩]))
   | _ => none)
 | _, _ => none
theorem xnj (hl : SoundL I ka1) : SoundF I 190 xbn := by
 refine sq hl 5 Tryz.func190 fun args H t ht => ?_
 unfold xbn at ht
 split at ht
 ·rename_i gc k
  split at ht
  ·rename_i g hg
   obtain rfl := xe hg
   cases ht
   refine Eq.trans ?_ (xjW g k _).symm
   kernel_rfl
  ·cases ht
 ·cases ht
def xbo : Sm := fun
 | [.c .port, .agg gc, .c (.sl 0 0 2 2)], [some ⟨[.int .i64 k, .int .i64 j], 3, false, none⟩] => (match xu gc with
   | some g => some (mkS Bool (jj g k j) fun r => some (.c (.bool r), [some ⟨[.int .i64 k, .int .i64 j], 3, false, none⟩]))
   | _ => none)
 | _, _ => none
theorem xnk (hl : SoundL I ka1) : SoundF I 190 xbo := by
 refine sq hl 5 Tryz.func190 fun args H t ht => ?_
 unfold xbo at ht
 split at ht
 ·rename_i gc k j
  split at ht
  ·rename_i g hg
   obtain rfl := xe hg
   cases ht
   refine Eq.trans ?_ (xjX g k j _).symm
   kernel_rfl
  ·cases ht
 ·cases ht
def xbp : Sm := fun
 | [.c (.sl 0 0 1 1), .c (.int .i64 x)], [some ⟨[.int .i64 k], 3, false, none⟩] => some (mkS Int (xjY x k) fun r => some (.c (.int .i64 r), [some ⟨[.int .i64 k], 3, false, none⟩]))
 | _, _ => none
theorem xnl (hl : SoundL I ka1) : SoundF I 271 xbp := by
 refine sq hl 5 Tryz.func271 fun args H t ht => ?_
 unfold xbp at ht
 split at ht
 ·rename_i x k
  cases ht
  refine Eq.trans ?_ (xjZ x k _).symm
  kernel_rfl
 ·cases ht
def xif : Sm := gS fun
 | g, [.c (.int .i64 k), .c (.int .u64 was)] => some (mkS ((Seen × Bool)) (xdh g k was) fun r => some (.tup [.agg r.1.cells, .c (.bool r.2)], []))
 | _, _ => none
theorem xnm (hl : SoundL I ka1) : SoundF I 192 xif := by
 refine gsq hl 1 Tryz.func192 fun g l t ht => ?_
 split at ht
 ·rename_i k was
  cases ht
  refine Eq.trans ?_ (xj0 g k was _).symm
  kernel_rfl
 ·cases ht
def m_isT : Sm := fun
 | [.agg (.port :: gc), .c (.int .i64 k)], [] => (match shOf gc with
   | some (g, p) => some (mkS (Bool) (isT g p k) fun r => some (.c (.bool r), []))
   | _ => none)
 | _, _ => none
theorem s_m_isT (hl : SoundL I ka1) : SoundF I 277 m_isT := by
 refine sq hl 1 Tryz.func277 fun args H t ht => ?_
 unfold m_isT at ht
 split at ht
 ·rename_i gc k
  split at ht
  ·rename_i g p hg
   obtain rfl := xc7 hg
   cases ht
   refine Eq.trans ?_ (xwm g p k _).symm
   kernel_rfl
  ·cases ht
 ·cases ht
def WV : Sm := fun
 | [.c (.int .u64 it)], [] => some (mkS (Int) (xff it) fun r => some (.c (.int .i64 r), []))
 | _, _ => none
theorem xj1 (hl : SoundL I ka1) : SoundF I 214 WV := by
 refine sq hl 1 Tryz.func214 fun args H t ht => ?_
 unfold WV at ht
 split at ht
 ·rename_i it
  cases ht
  refine Eq.trans ?_ (xgx it _).symm
  kernel_rfl
 ·cases ht
def ka2 : List (Nat × Sm) := (169, xwn) :: (171, xsj) :: (212, xni) :: (190, (orSm xbn xbo)) :: (271, xbp) :: (192, xif) :: (277, m_isT) :: (214, WV) :: ka1
theorem vj : SoundL I ka2 := (.cons (xwo Wg) (.cons (xuk Wg) (.cons (xqy Wg) (.cons (SoundF.or (xnj Wg) (xnk Wg)) (.cons (xnl Wg) (.cons (xnm Wg) (.cons (s_m_isT Wg) (.cons (xj1 Wg) Wg))))))))
end Go.Proofs.YtaegelbaghaooaaGreat.Lx
