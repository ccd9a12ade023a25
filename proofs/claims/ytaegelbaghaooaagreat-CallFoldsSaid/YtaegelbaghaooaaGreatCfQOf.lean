/- Part. -/
import Derived.Test.YtaegelbaghaooaaGreatCfQA3
set_option linter.all false
open Go.IntKind (i64 u64 u32 u8)
namespace Go.Proofs.YtaegelbaghaooaaGreat.Lx
open Go
set_option maxRecDepth 1000000
def ofTK {β : Type} (g : Geo) (k : Int) (κ : Bool -> T β) : T β :=
 bif decide (k < 0) then κ false else
 bif decide (k >= i64.wrap (g.pages * 8)) then κ false else κ true
def ofT (g : Geo) (k : Int) : T Bool := ofTK g k .ret
theorem xov {β : Type} (g : Geo) (k : Int) (κ : Bool -> T β) : (ofT g k).bind κ = ofTK g k κ := by
 unfold ofT ofTK
 simp only [xhI, xhJ]
def ofR (g : Geo) (k : Int) : Bool -> Option (V × Heap)
 | true => some (.tup [.agg (.port :: (g.cells ++ [.int .i64 (i64.wrap (k.tdiv 8))])), .c (.int .i64 (i64.wrap (k.tmod 8 * 8))), .c (.bool true)], [])
 | false => some (.tup [.agg (.nili :: List.replicate 23 (.int .i64 0)), .c (.int .i64 0), .c (.bool false)], [])
def m_ofT : Sm := fun
 | [.c .port, .agg gc, .c (.int .i64 k)], [] => (match xu gc with
  | some g => some ⟨Bool, ofT g k, ofR g k, fun _ κ => ofTK g k κ, fun _ κ => (xov g k κ).symm⟩
  | _ => none)
 | _, _ => none
variable {σ : Type} {I : Port Tryz.prog σ}
theorem s_m_ofT (hl : SoundL I ka3) : SoundF I 167 m_ofT := by
 refine sq hl 1 Tryz.func167 fun args H t ht => ?_
 unfold m_ofT at ht
 split at ht
 ·rename_i gc k
  split at ht
  ·rename_i g hg
   obtain rfl := xe hg
   cases ht
   refine Eq.trans ?_ (xov g k _).symm
   kernel_rfl
  ·cases ht
 ·cases ht
def ka3b : List (Nat × Sm) := (167, m_ofT) :: ka3
theorem Zv : SoundL I ka3b := .cons (s_m_ofT s_ka3) s_ka3
structure Fit where
 (page n at_ : Int)
def Fit.cells (r : Fit) : List C := [.int .i64 r.page, .int .i64 r.n, .int .i64 r.at_]
def Fit.of : List C -> Option Fit
 | [.int .i64 a, .int .i64 b, .int .i64 c] => some ⟨a, b, c⟩
 | _ => none
theorem Fit.of_eq {l : List C} {r : Fit} (h : Fit.of l = some r) : l = r.cells := by
 unfold Fit.of at h; split at h <;> cases h; rfl
structure Fnd where
 (grain : Int)
 (ok : Bool)
 (e : Int)
def Fnd.cells (r : Fnd) : List C := [.int .i64 r.grain, .bool r.ok, .int .i64 r.e]
def Fnd.of : List C -> Option Fnd
 | [.int .i64 a, .bool b, .int .i64 c] => some ⟨a, b, c⟩
 | _ => none
theorem Fnd.of_eq {l : List C} {r : Fnd} (h : Fnd.of l = some r) : l = r.cells := by
 unfold Fnd.of at h; split at h <;> cases h; rfl
def hdOf (l : List C) : Option (Geo × Int) :=
 match xu (l.take 22), l.drop 22 with
 | some g, [.int .u64 p] => some (g, p)
 | _, _ => none
theorem yt {l : List C} {g : Geo} {p : Int} (h : hdOf l = some (g, p)) : l = g.cells ++ [.int .u64 p] := by
 unfold hdOf at h
 split at h
 ·rename_i g' p' h1 h2
  cases h
  rw [<- List.take_append_drop 22 l, xe h1, h2]
 ·cases h
structure Rn where
 (grain size to usable : Int)
 (has : Bool)
def Rn.cells (r : Rn) : List C := [.int .i64 r.grain, .int .i64 r.size, .int .i64 r.to, .int .i64 r.usable, .bool r.has]
def Rn.of : List C -> Option Rn
 | [.int .i64 a, .int .i64 b, .int .i64 c, .int .i64 d, .bool e] => some ⟨a, b, c, d, e⟩
 | _ => none
theorem Rn.of_eq {l : List C} {r : Rn} (h : Rn.of l = some r) : l = r.cells := by
 unfold Rn.of at h; split at h <;> cases h; rfl
def rnOf (l : List C) : Option (Geo × Rn) :=
 match xu (l.take 22), Rn.of (l.drop 22) with
 | some g, some x => some (g, x)
 | _, _ => none
theorem YZ {l : List C} {g : Geo} {x : Rn} (h : rnOf l = some (g, x)) : l = g.cells ++ x.cells := by
 unfold rnOf at h
 split at h
 ·rename_i g' p' h1 h2
  cases h
  rw [<- List.take_append_drop 22 l, xe h1, Rn.of_eq h2]
 ·cases h
structure Cts where
 (allocs frees failures live bytes : Int)
def Cts.cells (r : Cts) : List C := [.int .u64 r.allocs, .int .u64 r.frees, .int .u64 r.failures, .int .u64 r.live, .int .u64 r.bytes]
def Cts.of : List C -> Option Cts
 | [.int .u64 a, .int .u64 b, .int .u64 c, .int .u64 d, .int .u64 e] => some ⟨a, b, c, d, e⟩
 | _ => none
theorem Cts.of_eq {l : List C} {r : Cts} (h : Cts.of l = some r) : l = r.cells := by
 unfold Cts.of at h; split at h <;> cases h; rfl
structure Res where
 (at_ n byte : Int)
 (c1 c2 c3 c4 c5 : Int)
 (e lin touch : Int)
def Res.cells (r : Res) : List C := [.int .i64 r.at_, .int .i64 r.n, .int .u8 r.byte, .int .u64 r.c1, .int .u64 r.c2, .int .u64 r.c3, .int .u64 r.c4, .int .u64 r.c5, .int .i64 r.e, .int .i64 r.lin, .int .i64 r.touch]
def Res.of : List C -> Option Res
 | [.int .i64 a, .int .i64 b, .int .u8 c, .int .u64 d, .int .u64 e, .int .u64 f, .int .u64 g, .int .u64 h, .int .i64 i, .int .i64 j, .int .i64 k] => some ⟨a, b, c, d, e, f, g, h, i, j, k⟩
 | _ => none
theorem Res.of_eq {l : List C} {r : Res} (h : Res.of l = some r) : l = r.cells := by
 unfold Res.of at h; split at h <;> cases h; rfl
structure Cal where
 (op size n align at_ off byte : Int)
def Cal.cells (r : Cal) : List C := [.int .u8 r.op, .int .i64 r.size, .int .i64 r.n, .int .i64 r.align, .int .i64 r.at_, .int .i64 r.off, .int .u8 r.byte]
def Cal.of : List C -> Option Cal
 | [.int .u8 a, .int .i64 b, .int .i64 c, .int .i64 d, .int .i64 e, .int .i64 f, .int .u8 g] => some ⟨a, b, c, d, e, f, g⟩
 | _ => none
theorem Cal.of_eq {l : List C} {r : Cal} (h : Cal.of l = some r) : l = r.cells := by
 unfold Cal.of at h; split at h <;> cases h; rfl
def listR (l : List Int) : V × Heap := match l with
 | [] => (.c .nils, [])
 | _ :: _ => (.c (.slg 0 0 l.length), [some ⟨l.map (.int .i64), 3, true, none⟩])
end Go.Proofs.YtaegelbaghaooaaGreat.Lx
