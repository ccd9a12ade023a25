/- Summaries: lock, cache, state, pool, small functions. (trees printed by program, wip/auto.py) -/
import Derived.Test.YtaegelbaghaooaaGreatAyQA1
import Derived.WalkKit
set_option linter.unusedSimpArgs false
set_option linter.unusedVariables false
set_option linter.unusedSectionVars false
namespace Go.Proofs.YtaegelbaghaooaaGreat.Lx
open Go
set_option maxRecDepth 1000000
structure Seen where
 (kind size other ver : Int) (live : Bool) (lin : Int)
def Seen.cells (r : Seen) : List C := [.int .i64 r.kind, .int .i64 r.size, .int .i64 r.other, .int .u32 r.ver, .bool r.live, .int .i64 r.lin]
def Seen.of : List C → Option Seen
 | [.int .i64 a, .int .i64 b, .int .i64 c, .int .u32 d, .bool e, .int .i64 f] => some ⟨a, b, c, d, e, f⟩
 | _ => none
theorem Seen.of_eq {l : List C} {r : Seen} (h : Seen.of l = some r) : l = r.cells := by
 unfold Seen.of at h; split at h <;> cases h; rfl
def xpC {β : Type} (g : Geo) (κ : Bool → T β) : T β :=
 .op (.self ) fun x0 =>
 .op (.cas (atF g 0 0) (0) (IntKind.u64.wrap (IntKind.u64.wrap x0 + 1))) fun b1 =>
 bif b1 then (κ (true)) else
 .op (.self ) fun x3 =>
 .op (.cas (atF g 0 0) (0) (IntKind.u64.wrap (IntKind.u64.wrap x3 + 1))) fun b4 =>
 bif b4 then (κ (true)) else
 .op (.self ) fun x6 =>
 .op (.cas (atF g 0 0) (0) (IntKind.u64.wrap (IntKind.u64.wrap x6 + 1))) fun b7 =>
 bif b7 then (κ (true)) else
 κ (false)
def tryT (g : Geo) : T Bool := xpC g .ret
theorem xro {β : Type} (g : Geo) (κ : Bool → T β) : (tryT g).bind κ = xpC g κ := by
 unfold tryT xpC
 first | rfl | (simp only [xa, xb, xe, xc, T.bind_assoc])
def xh4 {β : Type} (g : Geo) (κ : Bool → T β) : T β :=
 .op (.self ) fun x0 =>
 .op (.cas (atF g 0 0) (IntKind.u64.wrap (IntKind.u64.wrap x0 + 1)) (0)) fun b1 =>
 κ (b1)
def ZW (g : Geo) : T Bool := xh4 g .ret
theorem xnL {β : Type} (g : Geo) (κ : Bool → T β) : (ZW g).bind κ = xh4 g κ := by
 unfold ZW xh4
 first | rfl | (simp only [xa, xb, xe, xc, T.bind_assoc])
def xb1 {β : Type} (g : Geo) (k : Int) (κ : (Int × Bool) → T β) : T β :=
 .op (.self ) fun x0 =>
 (qI g x0 k).bind fun r1 =>
 κ ((r1.1), (r1.2))
def xdK (g : Geo) (k : Int) : T (Int × Bool) := xb1 g k .ret
theorem xkZ {β : Type} (g : Geo) (k : Int) (κ : (Int × Bool) → T β) : (xdK g k).bind κ = xb1 g k κ := by
 unfold xdK xb1
 first | rfl | (simp only [xa, xb, xe, xc, T.bind_assoc])
def VU {β : Type} (g : Geo) (k : Int) (κ : Bool → T β) : T β :=
 .op (.self ) fun x0 =>
 bif atF g 6 x0 == -1 then (κ (true)) else
 bif atF g 11 k == -1 then (κ (true)) else
 κ (false)
def qT (g : Geo) (k : Int) : T Bool := VU g k .ret
theorem xh5 {β : Type} (g : Geo) (k : Int) (κ : Bool → T β) : (qT g k).bind κ = VU g k κ := by
 unfold qT VU
 first | rfl | (simp only [xa, xb, xe, xc, T.bind_assoc])
def xdL {β : Type} (g : Geo) (k j : Int) (κ : Bool → T β) : T β :=
 .op (.self ) fun x0 =>
 bif atF g 6 x0 == -1 then (κ (true)) else
 bif atF g 11 k == -1 then (κ (true)) else
 bif atF g 11 j == -1 then (κ (true)) else
 κ (false)
def xh6 (g : Geo) (k j : Int) : T Bool := xdL g k j .ret
theorem xh7 {β : Type} (g : Geo) (k j : Int) (κ : Bool → T β) : (xh6 g k j).bind κ = xdL g k j κ := by
 unfold xh6 xdL
 first | rfl | (simp only [xa, xb, xe, xc, T.bind_assoc])
def xdM {β : Type} (x k : Int) (κ : Int → T β) : T β :=
 bif x == k then (κ (0)) else
 κ (-1)
def xh8 (x k : Int) : T Int := xdM x k .ret
theorem xh9 {β : Type} (x k : Int) (κ : Int → T β) : (xh8 x k).bind κ = xdM x k κ := by
 unfold xh8 xdM
 first | rfl | (simp only [xa, xb, xe, xc, T.bind_assoc])
def xdN {β : Type} (g : Geo) (k was : Int) (κ : (Seen × Bool) → T β) : T β :=
 .op (.load (atF g 11 (wa was).other)) fun x0 =>
 .op (.steps ) fun x1 =>
 bif (wa x0).kind == 3 then (bif (wa x0).other == k then (bif (wa x0).ver == (wa was).ver then (.op (.cas (atF g 11 k) (was) ((Stt.mk 1 (wa was).size 0 (wa was).ver).word)) fun b5 =>
 κ (⟨(0), (0), (0), (0), (false), (0)⟩, (false))) else
 .op (.load (atF g 11 k)) fun x5 =>
 κ (⟨(0), (0), (0), (0), (false), (x1)⟩, (x5 == was))) else
 .op (.load (atF g 11 k)) fun x4 =>
 κ (⟨(0), (0), (0), (0), (false), (x1)⟩, (x4 == was))) else
 .op (.load (atF g 11 k)) fun x3 =>
 κ (⟨(0), (0), (0), (0), (false), (x1)⟩, (x3 == was))
def xb2 (g : Geo) (k was : Int) : T (Seen × Bool) := xdN g k was .ret
theorem xia {β : Type} (g : Geo) (k was : Int) (κ : (Seen × Bool) → T β) : (xb2 g k was).bind κ = xdN g k was κ := by
 unfold xb2 xdN
 first | rfl | (simp only [xa, xb, xe, xc, T.bind_assoc])
def isTK {β : Type} (g : Geo) (p k : Int) (κ : Bool → T β) : T β :=
 bif decide (p ≥ 0) then (bif decide (p < g.pages) then (bif decide (k ≥ 0) then (κ (decide (k < 4))) else
 κ (false)) else
 κ (false)) else
 κ (false)
def isT (g : Geo) (p k : Int) : T Bool := isTK g p k .ret
theorem xtk {β : Type} (g : Geo) (p k : Int) (κ : Bool → T β) : (isT g p k).bind κ = isTK g p k κ := by
 unfold isT isTK
 first | rfl | (simp only [xa, xb, xe, xc, T.bind_assoc])
def xam {β : Type} (it : Int) (κ : Int → T β) : T β :=
 κ (IntKind.i64.wrap (IntKind.i64.wrap it - 1))
def xdO (it : Int) : T Int := xam it .ret
theorem xfa {β : Type} (it : Int) (κ : Int → T β) : (xdO it).bind κ = xam it κ := by
 unfold xdO xam
 first | rfl | (simp only [xa, xb, xe, xc, T.bind_assoc])
def xnM : Sm := fun args H => match args, H with
 | [.c .port, .agg gc], [] => (match xu gc with
   | some g => some (mkS (Bool) (tryT g) fun r => some (.c (.bool r), []))
   | _ => none)
 | _, _ => none
variable {σ : Type} {I : Port Tryz.prog σ}
theorem xtl (hl : SoundL I ka1) : SoundF I 169 xnM := by
 refine sq hl 5 Tryz.func169 fun args H t ht => ?_
 unfold xnM at ht
 split at ht
 ·rename_i gc
  split at ht
  ·rename_i g hg
   obtain rfl := xh hg
   cases ht
   refine Eq.trans ?_ (xro g _).symm
   kernel_rfl
  ·cases ht
 ·cases ht
def xib : Sm := fun args H => match args, H with
 | [.c .port, .agg gc], [] => (match xu gc with
   | some g => some (mkS (Bool) (ZW g) fun r => some (.c (.bool r), []))
   | _ => none)
 | _, _ => none
theorem xrp (hl : SoundL I ka1) : SoundF I 171 xib := by
 refine sq hl 1 Tryz.func171 fun args H t ht => ?_
 unfold xib at ht
 split at ht
 ·rename_i gc
  split at ht
  ·rename_i g hg
   obtain rfl := xh hg
   cases ht
   refine Eq.trans ?_ (xnL g _).symm
   kernel_rfl
  ·cases ht
 ·cases ht
def xdP : Sm := fun args H => match args, H with
 | [.c .port, .agg gc, .c (.int .i64 k)], [] => (match xu gc with
   | some g => some (mkS ((Int × Bool)) (xdK g k) fun r => some (.tup [.c (.int .u64 r.1), .c (.bool r.2)], []))
   | _ => none)
 | _, _ => none
theorem xnN (hl : SoundL I ka1) : SoundF I 212 xdP := by
 refine sq hl 1 Tryz.func212 fun args H t ht => ?_
 unfold xdP at ht
 split at ht
 ·rename_i gc k
  split at ht
  ·rename_i g hg
   obtain rfl := xh hg
   cases ht
   refine Eq.trans ?_ (xkZ g k _).symm
   kernel_rfl
  ·cases ht
 ·cases ht
def xan : Sm := fun args H => match args, H with
 | [.c .port, .agg gc, .c (.sl 0 0 1 1)], [some ⟨[.int .i64 k], 3, false, none⟩] => (match xu gc with
   | some g => some (mkS Bool (qT g k) fun r => some (.c (.bool r), [some ⟨[.int .i64 k], 3, false, none⟩]))
   | _ => none)
 | _, _ => none
theorem xk0 (hl : SoundL I ka1) : SoundF I 190 xan := by
 refine sq hl 5 Tryz.func190 fun args H t ht => ?_
 unfold xan at ht
 split at ht
 ·rename_i gc k
  split at ht
  ·rename_i g hg
   obtain rfl := xh hg
   cases ht
   refine Eq.trans ?_ (xh5 g k _).symm
   kernel_rfl
  ·cases ht
 ·cases ht
def xao : Sm := fun args H => match args, H with
 | [.c .port, .agg gc, .c (.sl 0 0 2 2)], [some ⟨[.int .i64 k, .int .i64 j], 3, false, none⟩] => (match xu gc with
   | some g => some (mkS Bool (xh6 g k j) fun r => some (.c (.bool r), [some ⟨[.int .i64 k, .int .i64 j], 3, false, none⟩]))
   | _ => none)
 | _, _ => none
theorem xk1 (hl : SoundL I ka1) : SoundF I 190 xao := by
 refine sq hl 5 Tryz.func190 fun args H t ht => ?_
 unfold xao at ht
 split at ht
 ·rename_i gc k j
  split at ht
  ·rename_i g hg
   obtain rfl := xh hg
   cases ht
   refine Eq.trans ?_ (xh7 g k j _).symm
   kernel_rfl
  ·cases ht
 ·cases ht
def xap : Sm := fun args H => match args, H with
 | [.c (.sl 0 0 1 1), .c (.int .i64 x)], [some ⟨[.int .i64 k], 3, false, none⟩] => some (mkS Int (xh8 x k) fun r => some (.c (.int .i64 r), [some ⟨[.int .i64 k], 3, false, none⟩]))
 | _, _ => none
theorem xk2 (hl : SoundL I ka1) : SoundF I 271 xap := by
 refine sq hl 5 Tryz.func271 fun args H t ht => ?_
 unfold xap at ht
 split at ht
 ·rename_i x k
  cases ht
  refine Eq.trans ?_ (xh9 x k _).symm
  kernel_rfl
 ·cases ht
def xaq : Sm := fun args H => match args, H with
 | [.c .port, .agg gc, .c (.int .i64 k), .c (.int .u64 was)], [] => (match xu gc with
   | some g => some (mkS ((Seen × Bool)) (xb2 g k was) fun r => some (.tup [.agg r.1.cells, .c (.bool r.2)], []))
   | _ => none)
 | _, _ => none
theorem xk3 (hl : SoundL I ka1) : SoundF I 192 xaq := by
 refine sq hl 1 Tryz.func192 fun args H t ht => ?_
 unfold xaq at ht
 split at ht
 ·rename_i gc k was
  split at ht
  ·rename_i g hg
   obtain rfl := xh hg
   cases ht
   refine Eq.trans ?_ (xia g k was _).symm
   kernel_rfl
  ·cases ht
 ·cases ht
def m_isT : Sm := fun args H => match args, H with
 | [.agg (.port :: gc), .c (.int .i64 k)], [] => (match shOf gc with
   | some (g, p) => some (mkS (Bool) (isT g p k) fun r => some (.c (.bool r), []))
   | _ => none)
 | _, _ => none
theorem s_m_isT (hl : SoundL I ka1) : SoundF I 277 m_isT := by
 refine sq hl 1 Tryz.func277 fun args H t ht => ?_
 unfold m_isT at ht
 split at ht
 ·rename_i gc k
  split at ht
  ·rename_i g p hg
   obtain rfl := xbM hg
   cases ht
   refine Eq.trans ?_ (xtk g p k _).symm
   kernel_rfl
  ·cases ht
 ·cases ht
def Wj : Sm := fun args H => match args, H with
 | [.c (.int .u64 it)], [] => some (mkS (Int) (xdO it) fun r => some (.c (.int .i64 r), []))
 | _, _ => none
theorem xic (hl : SoundL I ka1) : SoundF I 214 Wj := by
 refine sq hl 1 Tryz.func214 fun args H t ht => ?_
 unfold Wj at ht
 split at ht
 ·rename_i it
  cases ht
  refine Eq.trans ?_ (xfa it _).symm
  kernel_rfl
 ·cases ht
def ka2 : List (Nat × Sm) := (169, xnM) :: (171, xib) :: (212, xdP) :: (190, (orSm xan xao)) :: (271, xap) :: (192, xaq) :: (277, m_isT) :: (214, Wj) :: ka1
theorem wD : SoundL I ka2 := (.cons (xtl YB) (.cons (xrp YB) (.cons (xnN YB) (.cons (SoundF.or (xk0 YB) (xk1 YB)) (.cons (xk2 YB) (.cons (xk3 YB) (.cons (s_m_isT YB) (.cons (xic YB) YB))))))))
end Go.Proofs.YtaegelbaghaooaaGreat.Lx
