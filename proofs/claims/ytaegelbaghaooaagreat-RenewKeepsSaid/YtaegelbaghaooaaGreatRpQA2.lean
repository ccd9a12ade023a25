/- Summaries: lock, cache, state, pool, small functions. (trees printed by program, wip/auto.py) -/
import Derived.Test.YtaegelbaghaooaaGreatRpQA1
import Derived.WalkKit
set_option linter.unusedSimpArgs false
set_option linter.unusedVariables false
set_option linter.unusedSectionVars false
namespace Go.Proofs.YtaegelbaghaooaaGreat.Lx
open Go
set_option maxRecDepth 1000000
structure Seen where
 (kind size other ver : Int) (live : Bool) (lin : Int)
def Seen.cells (r : Seen) : List C := [.int .i64 r.kind, .int .i64 r.size, .int .i64 r.other, .int .u32 r.ver, .bool r.live, .int .i64 r.lin]
def Seen.of : List C → Option Seen
 | [.int .i64 a, .int .i64 b, .int .i64 c, .int .u32 d, .bool e, .int .i64 f] => some ⟨a, b, c, d, e, f⟩
 | _ => none
theorem Seen.of_eq {l : List C} {r : Seen} (h : Seen.of l = some r) : l = r.cells := by
 unfold Seen.of at h; split at h <;> cases h; rfl
def tryTK {β : Type} (g : Geo) (κ : Bool → T β) : T β :=
 .op (.self ) fun x0 =>
 .op (.cas (atF g 0 0) (0) (IntKind.u64.wrap (IntKind.u64.wrap x0 + 1))) fun b1 =>
 bif b1 then (κ (true)) else
 .op (.self ) fun x3 =>
 .op (.cas (atF g 0 0) (0) (IntKind.u64.wrap (IntKind.u64.wrap x3 + 1))) fun b4 =>
 bif b4 then (κ (true)) else
 .op (.self ) fun x6 =>
 .op (.cas (atF g 0 0) (0) (IntKind.u64.wrap (IntKind.u64.wrap x6 + 1))) fun b7 =>
 bif b7 then (κ (true)) else
 κ (false)
def tryT (g : Geo) : T Bool := tryTK g .ret
theorem tryT_bind {β : Type} (g : Geo) (κ : Bool → T β) : (tryT g).bind κ = tryTK g κ := by
 unfold tryT tryTK
 first | rfl | (simp only [bind_cond, bind_ret_, bind_op, bind_fail, T.bind_assoc])
def dropTK {β : Type} (g : Geo) (κ : Bool → T β) : T β :=
 .op (.self ) fun x0 =>
 .op (.cas (atF g 0 0) (IntKind.u64.wrap (IntKind.u64.wrap x0 + 1)) (0)) fun b1 =>
 κ (b1)
def dropT (g : Geo) : T Bool := dropTK g .ret
theorem dropT_bind {β : Type} (g : Geo) (κ : Bool → T β) : (dropT g).bind κ = dropTK g κ := by
 unfold dropT dropTK
 first | rfl | (simp only [bind_cond, bind_ret_, bind_op, bind_fail, T.bind_assoc])
def ctakeTK {β : Type} (g : Geo) (k : Int) (κ : (Int × Bool) → T β) : T β :=
 .op (.self ) fun x0 =>
 (stealT g x0 k).bind fun r1 =>
 κ ((r1.1), (r1.2))
def ctakeT (g : Geo) (k : Int) : T (Int × Bool) := ctakeTK g k .ret
theorem ctakeT_bind {β : Type} (g : Geo) (k : Int) (κ : (Int × Bool) → T β) : (ctakeT g k).bind κ = ctakeTK g k κ := by
 unfold ctakeT ctakeTK
 first | rfl | (simp only [bind_cond, bind_ret_, bind_op, bind_fail, T.bind_assoc])
def snone1TK {β : Type} (g : Geo) (k : Int) (κ : Bool → T β) : T β :=
 .op (.self ) fun x0 =>
 bif atF g 6 x0 == -1 then (κ (true)) else
 bif atF g 11 k == -1 then (κ (true)) else
 κ (false)
def snone1T (g : Geo) (k : Int) : T Bool := snone1TK g k .ret
theorem snone1T_bind {β : Type} (g : Geo) (k : Int) (κ : Bool → T β) : (snone1T g k).bind κ = snone1TK g k κ := by
 unfold snone1T snone1TK
 first | rfl | (simp only [bind_cond, bind_ret_, bind_op, bind_fail, T.bind_assoc])
def snone2TK {β : Type} (g : Geo) (k j : Int) (κ : Bool → T β) : T β :=
 .op (.self ) fun x0 =>
 bif atF g 6 x0 == -1 then (κ (true)) else
 bif atF g 11 k == -1 then (κ (true)) else
 bif atF g 11 j == -1 then (κ (true)) else
 κ (false)
def snone2T (g : Geo) (k j : Int) : T Bool := snone2TK g k j .ret
theorem snone2T_bind {β : Type} (g : Geo) (k j : Int) (κ : Bool → T β) : (snone2T g k j).bind κ = snone2TK g k j κ := by
 unfold snone2T snone2TK
 first | rfl | (simp only [bind_cond, bind_ret_, bind_op, bind_fail, T.bind_assoc])
def index1TK {β : Type} (x k : Int) (κ : Int → T β) : T β :=
 bif x == k then (κ (0)) else
 κ (-1)
def index1T (x k : Int) : T Int := index1TK x k .ret
theorem index1T_bind {β : Type} (x k : Int) (κ : Int → T β) : (index1T x k).bind κ = index1TK x k κ := by
 unfold index1T index1TK
 first | rfl | (simp only [bind_cond, bind_ret_, bind_op, bind_fail, T.bind_assoc])
def helpedTK {β : Type} (g : Geo) (k was : Int) (κ : (Seen × Bool) → T β) : T β :=
 .op (.load (atF g 11 (sttOf was).other)) fun x0 =>
 .op (.steps ) fun x1 =>
 bif (sttOf x0).kind == 3 then (bif (sttOf x0).other == k then (bif (sttOf x0).ver == (sttOf was).ver then (.op (.cas (atF g 11 k) (was) ((Stt.mk 1 (sttOf was).size 0 (sttOf was).ver).word)) fun b5 =>
 κ (⟨(0), (0), (0), (0), (false), (0)⟩, (false))) else
 .op (.load (atF g 11 k)) fun x5 =>
 κ (⟨(0), (0), (0), (0), (false), (x1)⟩, (x5 == was))) else
 .op (.load (atF g 11 k)) fun x4 =>
 κ (⟨(0), (0), (0), (0), (false), (x1)⟩, (x4 == was))) else
 .op (.load (atF g 11 k)) fun x3 =>
 κ (⟨(0), (0), (0), (0), (false), (x1)⟩, (x3 == was))
def helpedT (g : Geo) (k was : Int) : T (Seen × Bool) := helpedTK g k was .ret
theorem helpedT_bind {β : Type} (g : Geo) (k was : Int) (κ : (Seen × Bool) → T β) : (helpedT g k was).bind κ = helpedTK g k was κ := by
 unfold helpedT helpedTK
 first | rfl | (simp only [bind_cond, bind_ret_, bind_op, bind_fail, T.bind_assoc])
def isTK {β : Type} (g : Geo) (p k : Int) (κ : Bool → T β) : T β :=
 bif decide (p ≥ 0) then (bif decide (p < g.pages) then (bif decide (k ≥ 0) then (κ (decide (k < 4))) else
 κ (false)) else
 κ (false)) else
 κ (false)
def isT (g : Geo) (p k : Int) : T Bool := isTK g p k .ret
theorem isT_bind {β : Type} (g : Geo) (p k : Int) (κ : Bool → T β) : (isT g p k).bind κ = isTK g p k κ := by
 unfold isT isTK
 first | rfl | (simp only [bind_cond, bind_ret_, bind_op, bind_fail, T.bind_assoc])
def cgrain2TK {β : Type} (it : Int) (κ : Int → T β) : T β :=
 κ (IntKind.i64.wrap (IntKind.i64.wrap it - 1))
def cgrain2T (it : Int) : T Int := cgrain2TK it .ret
theorem cgrain2T_bind {β : Type} (it : Int) (κ : Int → T β) : (cgrain2T it).bind κ = cgrain2TK it κ := by
 unfold cgrain2T cgrain2TK
 first | rfl | (simp only [bind_cond, bind_ret_, bind_op, bind_fail, T.bind_assoc])
def m_tryT : Sm := fun args H => match args, H with
 | [.c .port, .agg gc], [] => (match geoOf gc with
   | some g => some (mkS (Bool) (tryT g) fun r => some (.c (.bool r), []))
   | _ => none)
 | _, _ => none
variable {σ : Type} {I : Port Tryz.prog σ}
theorem s_m_tryT (hl : SoundL I ka1) : SoundF I 169 m_tryT := by
 refine sq hl 5 Tryz.func169 fun args H t ht => ?_
 unfold m_tryT at ht
 split at ht
 ·rename_i gc
  split at ht
  ·rename_i g hg
   obtain rfl := geoOf_eq hg
   cases ht
   refine Eq.trans ?_ (tryT_bind g _).symm
   kernel_rfl
  ·cases ht
 ·cases ht
def m_dropT : Sm := fun args H => match args, H with
 | [.c .port, .agg gc], [] => (match geoOf gc with
   | some g => some (mkS (Bool) (dropT g) fun r => some (.c (.bool r), []))
   | _ => none)
 | _, _ => none
theorem s_m_dropT (hl : SoundL I ka1) : SoundF I 171 m_dropT := by
 refine sq hl 1 Tryz.func171 fun args H t ht => ?_
 unfold m_dropT at ht
 split at ht
 ·rename_i gc
  split at ht
  ·rename_i g hg
   obtain rfl := geoOf_eq hg
   cases ht
   refine Eq.trans ?_ (dropT_bind g _).symm
   kernel_rfl
  ·cases ht
 ·cases ht
def m_ctakeT : Sm := fun args H => match args, H with
 | [.c .port, .agg gc, .c (.int .i64 k)], [] => (match geoOf gc with
   | some g => some (mkS ((Int × Bool)) (ctakeT g k) fun r => some (.tup [.c (.int .u64 r.1), .c (.bool r.2)], []))
   | _ => none)
 | _, _ => none
theorem s_m_ctakeT (hl : SoundL I ka1) : SoundF I 212 m_ctakeT := by
 refine sq hl 1 Tryz.func212 fun args H t ht => ?_
 unfold m_ctakeT at ht
 split at ht
 ·rename_i gc k
  split at ht
  ·rename_i g hg
   obtain rfl := geoOf_eq hg
   cases ht
   refine Eq.trans ?_ (ctakeT_bind g k _).symm
   kernel_rfl
  ·cases ht
 ·cases ht
def m_snone1T : Sm := fun args H => match args, H with
 | [.c .port, .agg gc, .c (.sl 0 0 1 1)], [some ⟨[.int .i64 k], 3, false, none⟩] => (match geoOf gc with
   | some g => some (mkS Bool (snone1T g k) fun r => some (.c (.bool r), [some ⟨[.int .i64 k], 3, false, none⟩]))
   | _ => none)
 | _, _ => none
theorem s_m_snone1T (hl : SoundL I ka1) : SoundF I 190 m_snone1T := by
 refine sq hl 5 Tryz.func190 fun args H t ht => ?_
 unfold m_snone1T at ht
 split at ht
 ·rename_i gc k
  split at ht
  ·rename_i g hg
   obtain rfl := geoOf_eq hg
   cases ht
   refine Eq.trans ?_ (snone1T_bind g k _).symm
   kernel_rfl
  ·cases ht
 ·cases ht
def m_snone2T : Sm := fun args H => match args, H with
 | [.c .port, .agg gc, .c (.sl 0 0 2 2)], [some ⟨[.int .i64 k, .int .i64 j], 3, false, none⟩] => (match geoOf gc with
   | some g => some (mkS Bool (snone2T g k j) fun r => some (.c (.bool r), [some ⟨[.int .i64 k, .int .i64 j], 3, false, none⟩]))
   | _ => none)
 | _, _ => none
theorem s_m_snone2T (hl : SoundL I ka1) : SoundF I 190 m_snone2T := by
 refine sq hl 5 Tryz.func190 fun args H t ht => ?_
 unfold m_snone2T at ht
 split at ht
 ·rename_i gc k j
  split at ht
  ·rename_i g hg
   obtain rfl := geoOf_eq hg
   cases ht
   refine Eq.trans ?_ (snone2T_bind g k j _).symm
   kernel_rfl
  ·cases ht
 ·cases ht
def m_index1T : Sm := fun args H => match args, H with
 | [.c (.sl 0 0 1 1), .c (.int .i64 x)], [some ⟨[.int .i64 k], 3, false, none⟩] => some (mkS Int (index1T x k) fun r => some (.c (.int .i64 r), [some ⟨[.int .i64 k], 3, false, none⟩]))
 | _, _ => none
theorem s_m_index1T (hl : SoundL I ka1) : SoundF I 271 m_index1T := by
 refine sq hl 5 Tryz.func271 fun args H t ht => ?_
 unfold m_index1T at ht
 split at ht
 ·rename_i x k
  cases ht
  refine Eq.trans ?_ (index1T_bind x k _).symm
  kernel_rfl
 ·cases ht
def m_helpedT : Sm := fun args H => match args, H with
 | [.c .port, .agg gc, .c (.int .i64 k), .c (.int .u64 was)], [] => (match geoOf gc with
   | some g => some (mkS ((Seen × Bool)) (helpedT g k was) fun r => some (.tup [.agg r.1.cells, .c (.bool r.2)], []))
   | _ => none)
 | _, _ => none
theorem s_m_helpedT (hl : SoundL I ka1) : SoundF I 192 m_helpedT := by
 refine sq hl 1 Tryz.func192 fun args H t ht => ?_
 unfold m_helpedT at ht
 split at ht
 ·rename_i gc k was
  split at ht
  ·rename_i g hg
   obtain rfl := geoOf_eq hg
   cases ht
   refine Eq.trans ?_ (helpedT_bind g k was _).symm
   kernel_rfl
  ·cases ht
 ·cases ht
def m_isT : Sm := fun args H => match args, H with
 | [.agg (.port :: gc), .c (.int .i64 k)], [] => (match shOf gc with
   | some (g, p) => some (mkS (Bool) (isT g p k) fun r => some (.c (.bool r), []))
   | _ => none)
 | _, _ => none
theorem s_m_isT (hl : SoundL I ka1) : SoundF I 277 m_isT := by
 refine sq hl 1 Tryz.func277 fun args H t ht => ?_
 unfold m_isT at ht
 split at ht
 ·rename_i gc k
  split at ht
  ·rename_i g p hg
   obtain rfl := shOf_eq hg
   cases ht
   refine Eq.trans ?_ (isT_bind g p k _).symm
   kernel_rfl
  ·cases ht
 ·cases ht
def m_cgrain2T : Sm := fun args H => match args, H with
 | [.c (.int .u64 it)], [] => some (mkS (Int) (cgrain2T it) fun r => some (.c (.int .i64 r), []))
 | _, _ => none
theorem s_m_cgrain2T (hl : SoundL I ka1) : SoundF I 214 m_cgrain2T := by
 refine sq hl 1 Tryz.func214 fun args H t ht => ?_
 unfold m_cgrain2T at ht
 split at ht
 ·rename_i it
  cases ht
  refine Eq.trans ?_ (cgrain2T_bind it _).symm
  kernel_rfl
 ·cases ht
def ka2 : List (Nat × Sm) := (169, m_tryT) :: (171, m_dropT) :: (212, m_ctakeT) :: (190, (orSm m_snone1T m_snone2T)) :: (271, m_index1T) :: (192, m_helpedT) :: (277, m_isT) :: (214, m_cgrain2T) :: ka1
theorem s_ka2 : SoundL I ka2 := (.cons (s_m_tryT s_ka1) (.cons (s_m_dropT s_ka1) (.cons (s_m_ctakeT s_ka1) (.cons (SoundF.or (s_m_snone1T s_ka1) (s_m_snone2T s_ka1)) (.cons (s_m_index1T s_ka1) (.cons (s_m_helpedT s_ka1) (.cons (s_m_isT s_ka1) (.cons (s_m_cgrain2T s_ka1) s_ka1))))))))
end Go.Proofs.YtaegelbaghaooaaGreat.Lx
