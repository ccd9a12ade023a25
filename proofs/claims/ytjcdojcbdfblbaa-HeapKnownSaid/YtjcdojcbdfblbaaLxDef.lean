/- The local executor: Go code run over a heap of its own blocks, numbered from 0, the port's accesses left as a tree. Definitions. -/
import Derived.Tactics
import Derived.Orders
namespace Go.Proofs.Ytjcdojcbdfblbaa.Lx
open Go

/-- a value of one cell, its addresses by the numbers of own blocks. -/
inductive C where
  | bool (b : Bool)
  | int (k : IntKind) (n : Int)
  | nilp
  | ptr (b o : Nat)
  | nils
  | sl (b o len cap : Nat)
  | slg (b o len : Nat)
  /-- a window's row number i, of n cells, its cell f (off: where the window begins); slices of windows, of own rows. -/
  | pr (b off : Nat) (i : Int) (n f : Nat)
  | slw (b o : Nat) (z : Option Addr) (len cap : Nat)
  | slr (b len : Nat)
  /-- a part of own rows, of z cells each: from o on, len of them. -/
  | slv (b z o len : Nat)
  | fn (f : FuncId) (caps : List C)
  | meth (name : String) (recv : C)
  | nilf
  | nili
  | nilm
  | port
  /-- an own map. -/
  | mp (b : Nat)
  | ifc (t : TypeId) (c : C)
  deriving Inhabited

inductive V1 where
  | c (x : C)
  | agg (l : List C)
  deriving Inhabited
/-- a value: one cell, a struct or an array by its cells, several results. -/
inductive V where
  | c (x : C)
  | agg (l : List C)
  | tup (l : List V1)
  deriving Inhabited
def V.undef : V := .tup []
def V1.up : V1 → V
  | .c x => .c x
  | .agg l => .agg l
def V.down : V → Option V1
  | .c x => some (.c x)
  | .agg l => some (.agg l)
  | .tup _ => none
def V.cells : V → Option (List C)
  | .c x => some [x]
  | .agg l => some l
  | .tup _ => none

/-- what the cells of a table's rows are. -/
inductive CK where
  | int (k : IntKind)
  | bool
  deriving DecidableEq
def CK.cell : CK → Int → C
  | .int k, n => .int k n
  | .bool, n => .bool (n != 0)
def getI (r : List Int) (j : Nat) : Int := r.getD j 0
def getR (l : List (List Int)) (i : Nat) : List Int := l.getD i []
def rowG : List CK → Nat → List Int → List C
  | [], _, _ => []
  | s :: sh, j, r => s.cell (getI r j) :: rowG sh (j + 1) r
def rowC (sh : List CK) (r : List Int) : List C := rowG sh 0 r
/-- cells as numbers, and their kinds. -/
def uncell : List C → Option (List CK × List Int)
  | [] => some ([], [])
  | .int k n :: l => match uncell l with
    | some (sh, r) => some (.int k :: sh, n :: r)
    | none => none
  | .bool b :: l => match uncell l with
    | some (sh, r) => some (.bool :: sh, (bif b then 1 else 0) :: r)
    | none => none
  | _ :: _ => none
/-- a block's cells, told as a row of numbers, or of rows. -/
inductive Tab where
  | col (k : IntKind) (l : List Int)
  | rows (sh : List CK) (l : List (List Int))
  /-- a window of a block that is not written: it begins at off. -/
  | wcol (off : Nat) (k : IntKind) (l : List Int)
  | wrows (off : Nat) (sh : List CK) (l : List (List Int))
  /-- a map of ints: rows by their first numbers, the keys (g: are elements structs?). -/
  | imap (g : Bool) (sh : List CK) (l : List (List Int))
def Tab.cells : Tab → List C
  | .col k l => l.map (.int k)
  | .rows sh l => l.flatMap (rowC sh)
  | .wcol _ k l => l.map (.int k)
  | .wrows _ sh l => l.flatMap (rowC sh)
  | .imap _ _ _ => []
/-- a block: its cells, what they are of; grown: it may have further cells; tab: its cells are told so (and listed nowhere else). -/
structure Blk where
  cells : List C
  elem : TypeId
  grown : Bool
  tab : Option Tab
  deriving Inhabited
def Blk.real (k : Blk) : List C := match k.tab with
  | none => k.cells
  | some t => t.cells
/-- where a window begins. -/
def Blk.win (k : Blk) : Option Nat := match k.tab with
  | some (.wcol o _ _) => some o
  | some (.wrows o _ _) => some o
  | _ => none
def emptyL {α : Type} : List α → Bool
  | [] => true
  | _ :: _ => false
/-- rows that grow, and have nothing yet, stand nowhere: the slice is nil. -/
def Blk.virt (k : Blk) : Bool := match k.tab with
  | some (.rows _ l) => k.grown && emptyL l
  | some (.col _ l) => k.grown && emptyL l
  | some (.wcol _ _ l) => emptyL l
  | some (.wrows _ _ l) => emptyL l
  | some (.imap _ _ _) => false
  | none => false
/-- a block that is a map. -/
def Blk.mapped (k : Blk) : Option (Bool × List CK × List (List Int)) := match k.tab with
  | some (.imap g sh l) => some (g, sh, l)
  | _ => none
/-- how many cells an element of a row that grows has. -/
def Blk.wid (k : Blk) : Nat := match k.tab with
  | some (.rows sh _) => sh.length
  | _ => 1
def Blk.ok (k : Blk) : Prop := ∀ t, k.tab = some t → k.cells = []
/-- is there a place of a number? -/
def inB : List Int → Nat → Bool
  | [], _ => false
  | _ :: _, 0 => true
  | _ :: l, n + 1 => inB l n
abbrev Heap := List (Option Blk)
/-- slots, as a tree (the lower numbers to the left). -/
inductive Sl where
  | tip
  | leaf (v : V)
  | node (l r : Sl)
  deriving Inhabited
structure Tm where
  n : Nat
  s : Sl
  deriving Inhabited
structure St where
  tmps : Tm
  heap : Heap

/-- what a port is asked. -/
inductive POp where
  | load (at_ : Int)
  | store (at_ v : Int)
  | cas (at_ old new : Int)
  | add (at_ d : Int)
  | get (at_ : Int)
  | put (at_ b : Int)
  | self
  | steps
  | tell (r : List C)

/-- what it answers. -/
@[reducible] def POp.Ans : POp → Type
  | .load _ => Int
  | .store _ _ => Unit
  | .cas _ _ _ => Bool
  | .add _ _ => Int
  | .get _ => Int
  | .put _ _ => Unit
  | .self => Int
  | .steps => Int
  | .tell _ => Unit
def ansV : (o : POp) → o.Ans → V
  | .load _, x => .c (.int .u64 x)
  | .store _ _, _ => .undef
  | .cas _ _ _, b => .c (.bool b)
  | .add _ _, x => .c (.int .u64 x)
  | .get _, x => .c (.int .u8 x)
  | .put _ _, _ => .undef
  | .self, x => .c (.int .i64 x)
  | .steps, x => .c (.int .i64 x)
  | .tell _, _ => .undef
/-- what code does: it asks the port, and ends. -/
inductive T (α : Type) where
  | ret (a : α)
  | op (o : POp) (k : o.Ans → T α)
  | fail
/-- what a port does. -/
abbrev PStep (σ : Type) := (o : POp) → σ → Option (o.Ans × σ)
def T.bind {α β : Type} : T α → (α → T β) → T β
  | .ret a, f => f a
  | .op o k, f => .op o fun c => (k c).bind f
  | .fail, _ => .fail
def T.run {α σ : Type} (step : PStep σ) : T α → σ → Option (α × σ)
  | .ret a, s => some (a, s)
  | .op o k, s => match step o s with
    | some (c, s') => (k c).run step s'
    | none => none
  | .fail, _ => none
theorem T.run_bind {α β σ : Type} {step : PStep σ} (t : T α) (f : α → T β) (s : σ) :
    (t.bind f).run step s = match t.run step s with | some (a, s') => (f a).run step s' | none => none := by
  induction t generalizing s with
  | ret a => rfl
  | fail => rfl
  | op o k ih =>
    simp only [T.bind, T.run]
    cases step o s with
    | none => rfl
    | some cs => exact ih _ _

def constC : Value → Option C
  | .bool b => some (.bool b)
  | .int k n => some (.int k n)
  | .pointer none => some .nilp
  | .slice none 0 0 => some .nils
  | .nilFunc => some .nilf
  | .nilIface => some .nili
  | .map none => some .nilm
  | _ => none
def allSome {α β : Type} (f : α → Option β) : List α → Option (List β)
  | [] => some []
  | x :: l => match f x with
    | some y => match allSome f l with
      | some ys => some (y :: ys)
      | none => none
    | none => none
def constV : Value → Option V
  | .agg cs => (allSome constC cs.toList).map .agg
  | .tuple cs => if cs.size = 0 then some (.tup []) else none
  | v => (constC v).map .c

def Sl.left : Sl → Sl
  | .node l _ => l
  | _ => .tip
def Sl.right : Sl → Sl
  | .node _ r => r
  | _ => .tip
def getS : Nat → Sl → Nat → Option V
  | 0, .leaf v, t => bif Nat.beq t 0 then some v else none
  | d + 1, .node l r, t => bif Nat.blt t (2 ^ d) then getS d l t else getS d r (t - 2 ^ d)
  | _, _, _ => none
def setS : Nat → Sl → Nat → V → Sl
  | 0, s, t, v => bif Nat.beq t 0 then .leaf v else s
  | d + 1, s, t, v => bif Nat.blt t (2 ^ d) then .node (setS d s.left t v) s.right else .node s.left (setS d s.right (t - 2 ^ d) v)
def mkN : Sl → Sl → Sl
  | .tip, .tip => .tip
  | l, r => .node l r
/-- the slots that a number's bits name. -/
def keepS (m : Nat) : Nat → Nat → Sl → Sl
  | 0, i, .leaf v => bif m.testBit i then .leaf v else .tip
  | d + 1, i, .node l r => mkN (keepS m d i l) (keepS m d (i + 2 ^ d) r)
  | _, _, _ => .tip
/-- as many slots as functions have, at most, is 2 to the power of this. -/
def deepN : Nat := 9
def getT (l : Tm) (t : Nat) : Option V := bif Nat.blt t l.n then getS 9 l.s t else none
def setT (l : Tm) (t : Nat) (v : V) : Tm := bif Nat.blt t l.n then ⟨l.n, setS 9 l.s t v⟩ else l
def keepT (m : Nat) (l : Tm) : Tm := ⟨l.n, keepS m 9 0 l.s⟩
def putArgs : Nat → List V → Sl → Sl
  | _, [], s => s
  | i, v :: l, s => putArgs (i + 1) l (setS 9 s i v)
/-- slots that are listed. -/
def putAll : List (Nat × V) → Sl → Sl
  | [], s => s
  | (i, v) :: l, s => putAll l (setS 9 s i v)
def tmN (n : Nat) (l : List (Nat × V)) : Tm := ⟨n, putAll l .tip⟩
def Tm.toList (l : Tm) : List (Option V) := (List.range l.n).map (getT l)
def evalO (tmps : Tm) : Operand → Option V
  | .tmp t => getT tmps t
  | .const v => constV v
  | .global _ => none
  | .func f => some (.c (.fn f []))
def putT (tmps : Tm) (dst : Option Tmp) (v : V) : Tm :=
  match dst with
  | some d => setT tmps d v
  | none => tmps

def blkAt (H : Heap) (b : Nat) : Option Blk :=
  match H, b with
  | [], _ => none
  | x :: _, 0 => x
  | _ :: l, b + 1 => blkAt l b
def setB (H : Heap) (b : Nat) (x : Option Blk) : Heap :=
  match H, b with
  | [], _ => []
  | _ :: l, 0 => x :: l
  | y :: l, b + 1 => y :: setB l b x
/-- n cells from a place on. -/
def slice (l : List C) (o n : Nat) : Option (List C) :=
  match l, o, n with
  | _, _, 0 => some []
  | [], _, _ + 1 => none
  | x :: l, 0, n + 1 => match slice l 0 n with
    | some r => some (x :: r)
    | none => none
  | _ :: l, o + 1, n + 1 => slice l o (n + 1)
/-- cells put in from a place on. -/
def splice (l : List C) (o : Nat) (xs : List C) : Option (List C) :=
  match l, o, xs with
  | l, _, [] => some l
  | [], _, _ :: _ => none
  | _ :: l, 0, x :: xs => match splice l 0 xs with
    | some r => some (x :: r)
    | none => none
  | y :: l, o + 1, x :: xs => match splice l o (x :: xs) with
    | some r => some (y :: r)
    | none => none

/-- what an operation comes to: a value (under a condition, else it panics), an access, a call. -/
inductive Stp where
  | val (g : Bool) (v : V) (H : Heap)
  | port (p : POp)
  | call (f : FuncId) (args : List V)

def isAggD : TypeDesc → Bool
  | .struct _ | .array _ _ => true
  | _ => false
def aggOf (P : Program) (t : TypeId) : Option Bool := (P.underlying t).map isAggD
def sizeT (P : Program) (t : TypeId) : Option Nat := (P.info? t).map (·.size)
def zeroT (P : Program) (t : TypeId) : Option V := match P.info? t with
  | some i => match i.zero with
    | some v => constV v
    | none => none
  | none => none
/-- a part of a struct's cells. -/
def partT (P : Program) (t : TypeId) (cs : List C) (off : Nat) : Option V :=
  match aggOf P t, sizeT P t with
  | some true, some n => (slice cs off n).map .agg
  | some false, some _ => match slice cs off 1 with
    | some [x] => some (.c x)
    | _ => none
  | _, _ => none

/-! a part at a letter: of cells that are alike the number is chosen -/
def mixC (b : Bool) : C → C → Option C
  | .int k x, .int k' y => if k = k' then some (.int k (bif b then x else y)) else none
  | .bool x, .bool y => some (.bool (bif b then x else y))
  | _, _ => none
def mixCs (b : Bool) : List C → List C → Option (List C)
  | [], [] => some []
  | x :: l, y :: m => match mixC b x y, mixCs b l m with
    | some z, some n => some (z :: n)
    | _, _ => none
  | _, _ => none
def mixV (b : Bool) : V → V → Option V
  | .c x, .c y => (mixC b x y).map .c
  | .agg x, .agg y => (mixCs b x y).map .agg
  | _, _ => none
def selV (i : Int) : Int → List V → Option V
  | _, [] => none
  | j, v :: l => match l with
    | [] => some v
    | _ :: _ => match selV i (j + 1) l with
      | some r => mixV (i == j) v r
      | none => none
def partI (P : Program) (t : TypeId) (cs : List C) (n len : Nat) (i : Int) : Option V :=
  match allSome (fun j => partT P t cs (j * n)) (List.range len) with
  | some vs => match selV i 0 vs with
    | some v => some v
    | none => partT P t cs (i.toNat * n)
  | none => partT P t cs (i.toNat * n)
theorem mixC_eq {b : Bool} {x y z : C} (h : mixC b x y = some z) : z = bif b then x else y := by
  unfold mixC at h
  split at h
  · split at h
    · rename_i hk; subst hk; cases b <;> (cases h; rfl)
    · cases h
  · cases b <;> (cases h; rfl)
  · cases h
theorem mixCs_eq {b : Bool} : ∀ {x y z : List C}, mixCs b x y = some z → z = bif b then x else y
  | [], [], z, h => by unfold mixCs at h; cases b <;> (cases h; rfl)
  | x :: l, y :: m, z, h => by
    unfold mixCs at h
    split at h
    · rename_i c n h1 h2
      have := mixC_eq h1; have := mixCs_eq h2; subst_vars
      cases b <;> (cases h; rfl)
    · cases h
  | [], _ :: _, z, h => by unfold mixCs at h; cases h
  | _ :: _, [], z, h => by unfold mixCs at h; cases h
theorem mixV_eq {b : Bool} {x y z : V} (h : mixV b x y = some z) : z = bif b then x else y := by
  unfold mixV at h
  split at h
  · rw [Option.map_eq_some_iff] at h; obtain ⟨a, h1, h2⟩ := h
    have := mixC_eq h1; subst_vars; cases b <;> rfl
  · rw [Option.map_eq_some_iff] at h; obtain ⟨a, h1, h2⟩ := h
    have := mixCs_eq h1; subst_vars; cases b <;> rfl
  · cases h
theorem selV_eq {i : Int} : ∀ {l : List V} {j : Int} {v : V}, selV i j l = some v → j ≤ i → i < j + l.length → l[(i - j).toNat]? = some v
  | [], j, v, h, h0, h1 => by simp only [selV] at h; cases h
  | [u], j, v, h, h0, h1 => by
    simp only [selV] at h; cases h
    have : i = j := by simp at h1; omega
    subst this; simp
  | u :: x :: l, j, v, h, h0, h1 => by
    rw [selV] at h
    split at h
    · rename_i r hr
      have hv := mixV_eq h
      by_cases hij : i = j
      · subst hij; simp at hv; simp [hv]
      · have hb : (i == j) = false := by simpa using hij
        rw [hb] at hv; simp only [cond_false] at hv; subst hv
        have := selV_eq hr (by omega) (by simp at h1 ⊢; omega)
        have e : (i - j).toNat = (i - (j + 1)).toNat + 1 := by omega
        rw [e]; simpa using this
    · cases h
theorem allSome_at {α β : Type} {f : α → Option β} : ∀ {l : List α} {r : List β}, allSome f l = some r → r.length = l.length ∧ ∀ (k : Nat) (x : α) (y : β), l[k]? = some x → r[k]? = some y → f x = some y
  | [], r, h => by simp only [allSome] at h; cases h; simp
  | a :: l, r, h => by
    simp only [allSome] at h
    split at h
    · rename_i y hy
      split at h
      · rename_i ys hys
        cases h
        obtain ⟨h1, h2⟩ := allSome_at hys
        refine ⟨by simp [h1], fun k x z hx hz => ?_⟩
        cases k with
        | zero => simp at hx hz; subst hx; subst hz; exact hy
        | succ k => exact h2 k x z (by simpa using hx) (by simpa using hz)
      · cases h
    · cases h
theorem partI_eq {P : Program} {t : TypeId} {cs : List C} {n len : Nat} {i : Int} {v : V} (h : partI P t cs n len i = some v) (hg : 0 ≤ i ∧ i < (len : Int)) : partT P t cs (i.toNat * n) = some v := by
  unfold partI at h
  split at h
  · rename_i vs hvs
    split at h
    · rename_i u hu
      cases h
      obtain ⟨h1, h2⟩ := allSome_at hvs
      have := selV_eq hu hg.1 (by rw [h1]; simp; omega)
      exact h2 i.toNat i.toNat v (by rw [List.getElem?_range]; omega) (by simpa using this)
    · exact h
  · exact h

/-! ### operations -/
def intBin (op : BinOp) (k : IntKind) (a b : Int) : Option (Bool × C) :=
  match op with
  | .add => some (true, .int k (k.wrap (a + b)))
  | .sub => some (true, .int k (k.wrap (a - b)))
  | .mul => some (true, .int k (k.wrap (a * b)))
  | .quo => some (!(b == 0), .int k (k.wrap (a.tdiv b)))
  | .rem => some (!(b == 0), .int k (a.tmod b))
  | .and => some (true, .int k (bits .and k a b))
  | .or => some (true, .int k (bits .or k a b))
  | .xor => some (true, .int k (bits .xor k a b))
  | .andNot => some (true, .int k (bits .andNot k a b))
  | .eql => some (true, .bool (a == b))
  | .neq => some (true, .bool (a != b))
  | .lss => some (true, .bool (decide (a < b)))
  | .leq => some (true, .bool (decide (a ≤ b)))
  | .gtr => some (true, .bool (decide (a > b)))
  | .geq => some (true, .bool (decide (a ≥ b)))
  | _ => none
def shiftBin (op : BinOp) (k : IntKind) (a b : Int) : Option (Bool × C) :=
  match op with
  | .shl => some (!(decide (b < 0)), .int k (k.wrap (a * 2 ^ (min b.toNat k.bits))))
  | .shr => some (!(decide (b < 0)), .int k (a.fdiv (2 ^ (min b.toNat k.bits))))
  | _ => none
/-- equality, by the type's shape. -/
def eqC (d : TypeDesc) (const : Bool) (x y : C) : Option Bool :=
  match d with
  | .bool => match x, y with
    | .bool a, .bool b => some (a == b)
    | _, _ => none
  | .pointer _ => match x, y with
    | .nilp, .nilp => some true
    | .nilp, .ptr _ _ => some false
    | .ptr _ _, .nilp => some false
    | _, _ => none
  | .interface _ => match x, y with
    | .nili, .nili => if const then some true else none
    | .nili, .port => some false
    | .port, .nili => some false
    | .nili, .ifc _ _ => some false
    | .ifc _ _, .nili => some false
    | _, _ => none
  | .func _ _ _ => match x, y with
    | .nilf, .nilf => some true
    | .nilf, .fn _ _ => some false
    | .fn _ _, .nilf => some false
    | _, _ => none
  | .slice _ => match x, y with
    | .nils, .nils => some true
    | .nils, .sl _ _ _ _ => some false
    | .sl _ _ _ _, .nils => some false
    | .nils, .slg _ _ _ => some false
    | .slg _ _ _, .nils => some false
    | _, _ => none
  | _ => none
def isConstO : Operand → Bool
  | .const _ => true
  | _ => false
def evBin (P : Program) (op : BinOp) (t : TypeId) (x y : Operand) (a b : C) : Option (Bool × C) :=
  match a, b with
  | .int k m, .int k' n => match op with
    | .shl => shiftBin .shl k m n
    | .shr => shiftBin .shr k m n
    | op => if k = k' then intBin op k m n else none
  | a, b => match op, P.underlying t with
    | .eql, some d => (eqC d (isConstO x || isConstO y) a b).map fun r => (true, .bool r)
    | .neq, some d => (eqC d (isConstO x || isConstO y) a b).map fun r => (true, .bool !r)
    | _, _ => none
/-- equality of structs, part by part. -/
def eqFsF (r : TypeId → V → V → Option Bool) (P : Program) : List Field → List C → List C → Option Bool
  | [], _, _ => some true
  | f :: l, xs, ys => if f.name = "_" then eqFsF r P l xs ys else match partT P f.type xs f.offset, partT P f.type ys f.offset with
    | some a, some b => match r f.type a b, eqFsF r P l xs ys with
      | some p, some q => some (p && q)
      | _, _ => none
    | _, _ => none
def eqF (P : Program) : Nat → TypeId → V → V → Option Bool
  | 0, _, _, _ => none
  | d + 1, t, x, y => match P.underlying t, x, y with
    | some .bool, .c (.bool a), .c (.bool b) => some (a == b)
    | some (.int _), .c (.int k a), .c (.int k' b) => if k = k' then some (a == b) else none
    | some (.struct fs), .agg xs, .agg ys => if P.stoodInHeld t = true then none else eqFsF (eqF P d) P fs.toList xs ys
    | _, _, _ => none
def evBinA (P : Program) (op : BinOp) (t : TypeId) (l m : List C) : Option C :=
  if P.eqGuardType P.depth t = true then none else match op, eqF P 10 t (.agg l) (.agg m) with
    | .eql, some r => some (.bool r)
    | .neq, some r => some (.bool !r)
    | _, _ => none
def evUn (op : UnOp) (a : C) : Option C :=
  match op, a with
  | .neg, .int k n => some (.int k (k.wrap (0 - n)))
  | .xor, .int k n => some (.int k (bits .xor k (if k.signed then -1 else k.max) n))
  | .not, .bool b => some (.bool !b)
  | _, _ => none
/-- parts laid over cells. -/
def fillC (place : Nat → Option (Nat × Nat)) (cells : List C) : List (Nat × V) → Option (List C)
  | [] => some cells
  | (i, v) :: rest => match place i, v.cells with
    | some (off, size), some xs => if xs.length = size ∧ off + size ≤ cells.length then match splice cells off xs with
        | some cs => fillC place cs rest
        | none => none
      else none
    | _, _ => none
def rep (z : List C) : Nat → List C
  | 0 => []
  | n + 1 => z ++ rep z n
def partsOf (ρ : Operand → Option V) (l : List (Nat × Operand)) : Option (List (Nat × V)) :=
  allSome (fun p => (ρ p.2).map fun v => (p.1, v)) l
def newB (H : Heap) (b : Blk) : Heap := H ++ [some b]
/-- one bound of a slice expression. -/
def boundC (x : Option V) (dflt most : Nat) : Option (Bool × Nat) :=
  match x with
  | none => some (true, dflt)
  | some (.c (.int _ i)) => some (decide (0 ≤ i ∧ i ≤ (most : Int)), i.toNat)
  | some _ => none
def optO (ρ : Operand → Option V) : Option Operand → Option (Option V)
  | none => some none
  | some x => (ρ x).map some
def flatC : C → Bool
  | .bool _ => true
  | .int _ _ => true
  | _ => false
def popOf (name : String) (args : List V) : Option POp :=
  match args with
  | [] => if name = "Self" then some .self else if name = "Steps" then some .steps else none
  | [.c (.int .i64 a)] => if name = "Load" then some (.load a) else if name = "Get" then some (.get a) else none
  | [.c (.int .i64 a), .c (.int .u64 b)] => if name = "Store" then some (.store a b) else if name = "Add" then some (.add a b) else none
  | [.c (.int .i64 a), .c (.int .u8 b)] => if name = "Put" then some (.put a b) else none
  | [.c (.int .i64 a), .c (.int .u64 b), .c (.int .u64 c)] => if name = "CAS" then some (.cas a b c) else none
  | [.agg l] => if name = "Tell" then (if l.all flatC then some (.tell l) else none) else none
  | _ => none
def portMeth (s : String) : Bool := ["Load", "Store", "CAS", "Add", "Get", "Put", "Self", "Steps", "Tell"].contains s
def intOfV : V → Option (IntKind × Int)
  | .c (.int k n) => some (k, n)
  | _ => none
def evBuiltin (P : Program) (b : Builtin) (argTypes : List TypeId) (args : List V) (H : Heap) : Option Stp :=
  match b, argTypes, args with
  | .len, [t], [x] => match P.underlying t, x with
    | some (.slice _), .c .nils => some (.val true (.c (.int .i64 0)) H)
    | some (.slice _), .c (.sl _ _ n _) => some (.val true (.c (.int .i64 n)) H)
    | some (.slice _), .c (.slg _ _ n) => some (.val true (.c (.int .i64 n)) H)
    | some (.slice _), .c (.slw _ _ _ n _) => some (.val true (.c (.int .i64 n)) H)
    | some (.slice _), .c (.slr _ n) => some (.val true (.c (.int .i64 n)) H)
    | some (.array n _), _ => some (.val true (.c (.int .i64 n)) H)
    | _, _ => none
  | .min, _, [.c (.int k x), .c (.int _ y)] => some (.val true (.c (.int k (if y < x then y else x))) H)
  | .max, _, [.c (.int k x), .c (.int _ y)] => some (.val true (.c (.int k (if x < y then y else x))) H)
  | _, _, _ => none
/-- may rows of such elements be grown? (One cell each.) -/
def growable (P : Program) (el : TypeId) : Bool := match P.info? el with
  | some i => match i.zero with
    | some z => i.size == 1 && decide (i.bytes ≤ 64) && z.cells.size == 1
    | none => false
  | none => false
/-- may rows of such structs be grown? -/
def growableR (P : Program) (el : TypeId) (n : Nat) : Bool := match P.info? el with
  | some i => match i.zero with
    | some z => i.size == n && decide (1 ≤ n) && decide (n ≤ 64) && decide (i.bytes ≤ 512) && z.cells.size == n
    | none => false
  | none => false
/-- an element appended to own rows. -/
def evAppendR (P : Program) (el : TypeId) (s : C) (k : Blk) (o : Nat) (H : Heap) : Option Stp :=
  match sizeT P el with
  | some z => if growableR P el z then match slice k.cells o z with
      | some xs => match uncell xs with
        | some (sh, r) => match s with
          | .slr b2 len => match blkAt H b2 with
            | some k2 => match k2.tab with
              | some (.rows sh2 l) => if sh2 = sh ∧ k2.grown = true ∧ k2.elem = el then
                  some (.val (Nat.beq l.length len && Nat.ble len 1000) (.c (.slr H.length (len + 1))) (newB (setB H b2 none) ⟨[], el, true, some (.rows sh (l ++ [r]))⟩))
                else none
              | some (.col kd l) => if sh = [.int kd] ∧ k2.grown = true ∧ k2.elem = el then
                  some (.val (Nat.beq l.length len && Nat.ble len 1000) (.c (.slr H.length (len + 1))) (newB (setB H b2 none) ⟨[], el, true, some (.col kd (l ++ r))⟩))
                else none
              | _ => none
            | none => none
          | _ => none
        | none => none
      | none => none
    else none
  | none => none
/-- an element of several cells appended to nil. -/
def evAppendN (P : Program) (el : TypeId) (s : C) (n : Nat) (b o : Nat) (H : Heap) : Option Stp := match s with
  | .nils => if n = 1 then match blkAt H b with
      | some k => match sizeT P el with
        | some z => if growableR P el z then match slice k.cells o z with
            | some xs => match uncell xs with
              | some (sh, r) => some (.val true (.c (.slr H.length 1)) (newB H ⟨[], el, true, some (.rows sh [r])⟩))
              | none => none
            | none => none
          else none
        | none => none
      | none => none
    else none
  | _ => none
/-- a part of rows. -/
def cutL {α : Type} (w : Option Nat) (m : Nat) (l : List α) : List α := match w with
  | none => l
  | some o => (l.drop o).take m
def cutOk {α : Type} (w : Option Nat) (m : Nat) (l : List α) : Bool := match w with
  | none => Nat.beq l.length m
  | some o => Nat.ble (o + m) l.length
def viewOf (z : Nat) : C → Option (Nat × Option Nat × Nat)
  | .slv b z' o m => if z' = z then some (b, some o, m) else none
  | .slr b m => some (b, none, m)
  | _ => none
def catT (z : Nat) (w : Option Nat) (m len : Nat) : Tab → Tab → Option (Bool × Tab)
  | .rows sh2 l2, .rows sh l => if sh2 = sh ∧ sh.length = z then some ((Nat.beq l2.length len && Nat.ble len 1000) && cutOk w m l && Nat.ble m 1000, .rows sh2 (l2 ++ cutL w m l)) else none
  | .col kd2 l2, .col kd l => if kd2 = kd ∧ 1 = z then some ((Nat.beq l2.length len && Nat.ble len 1000) && cutOk w m l && Nat.ble m 1000, .col kd2 (l2 ++ cutL w m l)) else none
  | _, _ => none
def Tab.empty : Tab → Tab
  | .rows sh _ => .rows sh []
  | .col kd _ => .col kd []
  | t => t
/-- own rows appended to own rows, or to an empty slice. -/
def evAppendV (P : Program) (el : TypeId) (s x : C) (H : Heap) : Option Stp :=
  match sizeT P el with
  | some z => if growableR P el z then match viewOf z x with
    | some (b, w, m) => match blkAt H b with
      | some k => match k.tab with
        | some tb => if k.grown = true then match s with
          | .slr b2 len => match blkAt H b2 with
            | some k2 => match k2.tab with
              | some tb2 => if k2.grown = true ∧ k2.elem = el then match catT z w m len tb2 tb with
                  | some (g, tn) => some (.val g (.c (.slr H.length (len + m))) (newB (setB H b2 none) ⟨[], el, true, some tn⟩))
                  | none => none
                else none
              | none => none
            | none => none
          | .sl b2 0 0 0 => match blkAt H b2 with
            | some k2 => if k2.tab.isNone = true ∧ k2.cells.length = 0 ∧ k2.elem = el then match catT z w m 0 tb.empty tb with
                | some (g, tn) => some (.val g (.c (.slr H.length (0 + m))) (newB H ⟨[], el, true, some tn⟩))
                | none => none
              else none
            | none => none
          | _ => none
          else none
        | none => none
      | none => none
    | none => none
    else none
  | none => none
def evAppend (P : Program) (ts : List TypeId) (args : List V) (H : Heap) : Option Stp :=
  match ts, args with
  | [t, u], [.c s, .c (.slr b m)] => if t = u then match P.underlying t with
      | some (.slice el) => evAppendV P el s (.slr b m) H
      | _ => none
    else none
  | [t, u], [.c s, .c (.slv b z o m)] => if t = u then match P.underlying t with
      | some (.slice el) => evAppendV P el s (.slv b z o m) H
      | _ => none
    else none
  | [t, u], [.c (.slr b2 len), .c (.sl b o n _)] => if t = u ∧ n = 1 then match P.underlying t with
      | some (.slice el) => match blkAt H b with
        | some k => evAppendR P el (.slr b2 len) k o H
        | none => none
      | _ => none
    else none
  | [t, u], [.c s, .c (.sl b o n _)] => if t = u ∧ 0 < n ∧ n ≤ 1000 then match P.underlying t with
      | some (.slice el) => if growable P el then match blkAt H b with
          | some k => match slice k.cells o n with
            | some xs => match s with
              | .nils => some (.val true (.c (.slg H.length 0 n)) (newB H ⟨xs, el, true, none⟩))
              | .slg b2 0 len => match blkAt H b2 with
                | some k2 => if k2.tab.isNone = true ∧ k2.grown = true ∧ k2.elem = el ∧ k2.cells.length = len ∧ len ≤ 1000 then
                    some (.val true (.c (.slg H.length 0 (len + n))) (newB (setB H b2 none) ⟨k2.cells ++ xs, el, true, none⟩))
                  else none
                | none => none
              | _ => none
            | none => none
          | none => none
        else evAppendN P el s n b o H
      | _ => none
    else none
  | _, _ => none
/-- a load off a block. -/
def loadB (P : Program) (t : TypeId) (k : Blk) (o : Nat) : Option (Bool × V) := match k.tab with
  | none => (partT P t k.cells o).map fun v => (true, v)
  | some (.col kd l) => match aggOf P t, sizeT P t with
    | some false, some _ => some (inB l o, .c (.int kd (l.getD o 0)))
    | _, _ => none
  | some _ => none
/-- is there a row of a number? -/
def inR (m : Nat) (i : Int) : Bool := decide (0 ≤ i ∧ i < (m : Int))
/-- a load off a row. -/
def loadP (P : Program) (t : TypeId) (k : Blk) (off : Nat) (i : Int) (n f : Nat) : Option (Bool × V) := match k.tab with
  | none => none
  | some (.col kd l) => if off = 0 ∧ n = 1 then (partT P t [.int kd (getI l i.toNat)] f).map fun v => (inR l.length i, v) else none
  | some (.rows sh l) => if off = 0 ∧ n = sh.length then (partT P t (rowC sh (getR l i.toNat)) f).map fun v => (inR l.length i, v) else none
  | some (.wcol o kd l) => if n = 1 then (partT P t [.int kd (getI l i.toNat)] f).map fun v => (Nat.beq o off && inR l.length i, v) else none
  | some (.wrows o sh l) => if n = sh.length then (partT P t (rowC sh (getR l i.toNat)) f).map fun v => (Nat.beq o off && inR l.length i, v) else none
  | some (.imap _ _ _) => none
/-- the cell that an address in a row means. -/
def prO (off : Nat) (i : Int) (m f : Nat) : Nat := match off, m, f with
  | 0, 1, 0 => i.toNat
  | off, m, f => off + (i.toNat * m + f)
/-- a store into a block. -/
def storeB (k : Blk) (o : Nat) (xs : List C) : Option (Bool × Blk) := match k.tab with
  | none => match splice k.cells o xs with
    | some cs => some (true, { k with cells := cs })
    | none => none
  | some (.col kd l) => match xs with
    | [.int kd' x] => if kd' = kd then some (inB l o, { k with tab := some (.col kd (l.set o x)) }) else none
    | _ => none
  | some (.rows sh l) => match uncell xs with
    | some (sh', r) => if sh' = sh ∧ o % sh.length = 0 then some (Nat.blt (o / sh.length) l.length, { k with tab := some (.rows sh (l.set (o / sh.length) r)) }) else none
    | none => none
  | some _ => none
def capsOf (l : List V) : Option (List C) :=
  allSome (fun v => match v with | .c x => some x | _ => none) l
/-! maps: rows by their first numbers -/
def keyR : List Int → Int
  | z :: _ => z
  | [] => 0
def tailR : List Int → List Int
  | _ :: r => r
  | [] => []
def mget (z : Int) : List (List Int) → Option (List Int)
  | [] => none
  | r :: l => if keyR r = z then some (tailR r) else mget z l
def mdel (z : Int) : List (List Int) → List (List Int)
  | [] => []
  | r :: l => if keyR r = z then mdel z l else r :: mdel z l
def mins (z : Int) (x : List Int) : List (List Int) → List (List Int)
  | [] => [z :: x]
  | r :: l => if z < keyR r then (z :: x) :: r :: l else r :: mins z x l
def mput (z : Int) (x : List Int) (l : List (List Int)) : List (List Int) := mins z x (mdel z l)
def mhas (z : Int) (l : List (List Int)) : Bool := match mget z l with
  | some _ => true
  | none => false
/-- what is read of a map: its row, or the zero one. -/
def mgetD (z : Int) (l : List (List Int)) (r0 : List Int) : List Int := match mget z l with
  | some r => r
  | none => r0
/-- an element as a row. -/
def rowOf : V → Option (Bool × List CK × List Int)
  | .c x => match uncell [x] with
    | some (sh, r) => some (false, sh, r)
    | none => none
  | .agg l => match uncell l with
    | some (sh, r) => some (true, sh, r)
    | none => none
  | .tup _ => none
/-- a row as an element. -/
def ofRow (g : Bool) (sh : List CK) (r : List Int) : V := match g with
  | true => .agg (rowC sh r)
  | false => match rowC sh r with
    | c :: _ => .c c
    | [] => .c (.bool false)
/-- a map from int: its key's type, its elements' shape and their zero. -/
def mapT (P : Program) (t : TypeId) : Option (TypeId × Bool × List CK × List Int) := match P.underlying t with
  | some (.map k e) => match P.underlying k, zeroT P e with
    | some (.int .i64), some z => match rowOf z with
      | some (g, sh, r) => some (k, g, sh, r)
      | none => none
    | _, _ => none
  | _ => none
/-- is that a key that may be? -/
def in64 (z : Int) : Bool := decide (-9223372036854775808 ≤ z ∧ z ≤ 9223372036854775807)
def V.one : V → Option V1
  | .c x => some (.c x)
  | .agg l => some (.agg l)
  | .tup _ => none
def evLookup (P : Program) (t : TypeId) (m x : Option V) (ok : Bool) (H : Heap) : Option Stp := match m, x with
  | some (.c (.mp b)), some (.c (.int .i64 z)) => match blkAt H b, mapT P t with
    | some k, some (_, g0, sh0, r0) => match k.mapped with
      | some (g, sh, l) => if g = g0 ∧ sh = sh0 then match ok with
          | true => match (ofRow g sh (mgetD z l r0)).one with
            | some v => some (.val (in64 z) (.tup [v, .c (.bool (mhas z l))]) H)
            | none => none
          | false => some (.val (in64 z) (ofRow g sh (mgetD z l r0)) H)
        else none
      | none => none
    | _, _ => none
  | _, _ => none
def evUpdate (P : Program) (t : TypeId) (m x v : Option V) (H : Heap) : Option Stp := match m, x, v with
  | some (.c (.mp b)), some (.c (.int .i64 z)), some u => match blkAt H b, mapT P t, rowOf u with
    | some k, some (_, g0, sh0, _), some (g1, sh1, r) => match k.mapped with
      | some (g, sh, l) => if (g = g0 ∧ sh = sh0) ∧ g = g1 ∧ sh = sh1 then
          some (.val (in64 z && Nat.ble l.length 1000000) .undef (setB H b (some { k with tab := some (.imap g sh (mput z r l)) })))
        else none
      | none => none
    | _, _, _ => none
  | _, _, _ => none
def evDelete (P : Program) (ts : List TypeId) (args : List V) (H : Heap) : Option Stp := match ts, args with
  | [t, kt], [.c (.mp b), .c (.int .i64 z)] => match blkAt H b, mapT P t with
    | some k, some (kt0, g0, sh0, _) => match k.mapped with
      | some (g, sh, l) => if (g = g0 ∧ sh = sh0) ∧ kt = kt0 then
          some (.val (in64 z) (.tup []) (setB H b (some { k with tab := some (.imap g sh (mdel z l)) })))
        else none
      | none => none
    | _, _ => none
  | _, _ => none
def isIfaceD : TypeDesc → Bool
  | .interface _ => true
  | _ => false
/-- has the program a port's type? -/
def hasPort (P : Program) : Bool := P.types.toList.any fun i => i.methods.any fun m => m.name == "CAS"
def evStep (P : Program) (op : Op) (ρ : Operand → Option V) (H : Heap) : Option Stp :=
  match op with
  | .move x => (ρ x).map fun v => .val true v H
  | .assign x => (ρ x).map fun v => .val true v H
  | .pick c a b => match ρ c with
    | some (.c (.bool t)) => match t with
      | true => (ρ a).map fun v => .val true v H
      | false => (ρ b).map fun v => .val true v H
    | _ => none
  | .alloc t => match zeroT P t with
    | some z => match z.cells with
      | some cs => some (.val true (.c (.ptr H.length 0)) (newB H ⟨cs, t, false, none⟩))
      | none => none
    | none => none
  | .box t x => match ρ x with
    | some v => match v.cells with
      | some cs => some (.val true (.c (.ptr H.length 0)) (newB H ⟨cs, t, false, none⟩))
      | none => none
    | none => none
  | .build t parts => match zeroT P t, partsOf ρ parts.toList with
    | some z, some ps => match z.cells, P.underlying t with
      | some cs, some (.struct fs) => match allSome (fun f => (sizeT P f.type).map fun n => (f.offset, n)) fs.toList with
        | some places => (fillC (fun i => places[i]?) cs ps).map fun r => .val true (.agg r) H
        | none => none
      | some cs, some (.array _ e) => match sizeT P e with
        | some n => (fillC (fun i => some (i * n, n)) cs ps).map fun r => .val true (.agg r) H
        | none => none
      | _, _ => none
    | _, _ => none
  | .buildSlice t len parts => match P.underlying t, partsOf ρ parts.toList with
    | some (.slice e), some ps => match sizeT P e, zeroT P e with
      | some n, some z => match z.cells with
        | some zs => if zs.length = n ∧ 0 < n ∧ len * n ≤ 1000 then
            match fillC (fun i => some (i * n, n)) (rep zs len) ps with
            | some r => some (.val true (.c (.sl H.length 0 len len)) (newB H ⟨r, e, false, none⟩))
            | none => none
          else none
        | none => none
      | _, _ => none
    | _, _ => none
  | .load t a => match ρ a with
    | some (.c (.ptr b o)) => match blkAt H b with
      | some k => (loadB P t k o).map fun v => .val v.1 v.2 H
      | none => none
    | some (.c (.pr b off i n f)) => match blkAt H b with
      | some k => (loadP P t k off i n f).map fun v => .val v.1 v.2 H
      | none => none
    | _ => none
  | .store t a x => match ρ a, ρ x with
    | some (.c (.ptr b o)), some v => match blkAt H b, v.cells, sizeT P t with
      | some k, some xs, some n => if xs.length = n then
          match storeB k o xs with
          | some (g, k') => some (.val g .undef (setB H b (some k')))
          | none => none
        else none
      | _, _, _ => none
    | some (.c (.pr b off i m f)), some v => match blkAt H b, v.cells, sizeT P t with
      | some k, some xs, some n => if xs.length = n then
          match storeB k (prO off i m f) xs with
          | some (g, k') => some (.val g .undef (setB H b (some k')))
          | none => none
        else none
      | _, _, _ => none
    | _, _ => none
  | .nilCheck x => match ρ x with
    | some (.c .nilp) => some (.val false (.c .nilp) H)
    | some (.c .nili) => some (.val false (.c .nili) H)
    | some (.c .nilf) => some (.val false (.c .nilf) H)
    | some (.c (.meth s c)) => match c with
      | .port => if portMeth s ∧ hasPort P = true then some (.val true (.c (.meth s .port)) H) else none
      | _ => none
    | some v => some (.val true v H)
    | none => none
  | .binOp op t x y _ => match ρ x, ρ y with
    | some (.c a), some (.c b) => (evBin P op t x y a b).map fun r => .val r.1 (.c r.2) H
    | some (.agg l), some (.agg m) => (evBinA P op t l m).map fun r => .val true (.c r) H
    | _, _ => none
  | .unOp op _ x => match ρ x with
    | some (.c a) => (evUn op a).map fun r => .val true (.c r) H
    | _ => none
  | .convert src dst x => match ρ x, P.underlying src, P.underlying dst with
    | some (.c (.int _ n)), some _, some (.int k) => some (.val true (.c (.int k (k.wrap n))) H)
    | _, _, _ => none
  | .makeFunc (.func f) first captured => if first.size = 0 then
      match allSome ρ captured.toList with
      | some vs => (capsOf vs).map fun cs => .val true (.c (.fn f cs)) H
      | none => none
    else none
  | .makeFunc (.method name) first captured => if captured.size = 0 then
      match first.toList with
      | [x] => match ρ x with
        | some (.c c) => some (.val true (.c (.meth name c)) H)
        | _ => none
      | _ => none
    else none
  | .slice t x lo hi none => match P.underlying t, ρ x, optO ρ lo, optO ρ hi with
    | some (.array n e), some (.c (.ptr b o)), some l, some h => match sizeT P e, boundC h n n with
      | some z, some (g1, h') => match boundC l 0 h' with
        | some (g2, l') => some (.val (g1 && g2) (.c (.sl b (if n = l' then o else o + l' * z) (h' - l') (n - l'))) H)
        | none => none
      | _, _ => none
    | some (.slice e), some (.c (.sl b o len cap)), some l, some h => match sizeT P e, boundC h len cap with
      | some z, some (g1, h') => match boundC l 0 h' with
        | some (g2, l') => some (.val (g1 && g2) (.c (.sl b (if cap = l' then o else o + l' * z) (h' - l') (cap - l'))) H)
        | none => none
      | _, _ => none
    | some (.slice e), some (.c (.slg b 0 len)), some l, some h => match boundC h len len with
      | some (g1, h') => match boundC l 0 h' with
        | some (g2, l') => if sizeT P e = some 1 then some (.val (g1 && g2) (.c (.slg b l' (h' - l'))) H) else none
        | none => none
      | none => none
    | some (.slice e), some (.c (.slr b len)), some l, some h => match sizeT P e, boundC h len len with
      | some z, some (g1, h') => match boundC l 0 h' with
        | some (g2, l') => some (.val (g1 && g2) (.c (.slv b z l' (h' - l'))) H)
        | none => none
      | _, _ => none
    | _, _, _, _ => none
  | .fieldAddr s x f => match P.underlying s, ρ x with
    | some (.struct fs), some (.c (.ptr b o)) => match fs[f]? with
      | some fd => match sizeT P fd.type with
        | some n => if n = 0 then none else some (.val true (.c (.ptr b (o + fd.offset))) H)
        | none => none
      | none => none
    | some (.struct fs), some (.c (.pr b off i m o)) => match fs[f]? with
      | some fd => match sizeT P fd.type with
        | some n => if n = 0 then none else some (.val true (.c (.pr b off i m (o + fd.offset))) H)
        | none => none
      | none => none
    | _, _ => none
  | .field t x f => match P.underlying t, ρ x with
    | some (.struct fs), some (.agg cs) => match fs[f]? with
      | some fd => (partT P fd.type cs fd.offset).map fun v => .val true v H
      | none => none
    | _, _ => none
  | .indexAddr t x ix => match P.underlying t, ρ x, ρ ix with
    | some (.array len e), some (.c (.ptr b o)), some (.c (.int _ i)) =>
      (sizeT P e).map fun n => .val (decide (0 ≤ i ∧ i < (len : Int))) (.c (.ptr b (o + i.toNat * n))) H
    | some (.slice e), some (.c (.sl b o len _)), some (.c (.int _ i)) =>
      (sizeT P e).map fun n => .val (decide (0 ≤ i ∧ i < (len : Int))) (.c (.ptr b (o + i.toNat * n))) H
    | some (.slice e), some (.c (.slg b o len)), some (.c (.int _ i)) =>
      if sizeT P e = some 1 then some (.val (decide (0 ≤ i ∧ i < (len : Int))) (.c (.ptr b (o + i.toNat))) H) else none
    | some (.slice e), some (.c (.slw b o _ len _)), some (.c (.int _ i)) =>
      (sizeT P e).map fun n => .val (decide (0 ≤ i ∧ i < (len : Int))) (.c (.pr b o i n 0)) H
    | some (.slice e), some (.c (.slr b len)), some (.c (.int _ i)) =>
      (sizeT P e).map fun n => .val (decide (0 ≤ i ∧ i < (len : Int))) (.c (.pr b 0 i n 0)) H
    | _, _, _ => none
  | .index t x ix => match P.underlying t, ρ x, ρ ix with
    | some (.array len e), some (.agg cs), some (.c (.int _ i)) => match sizeT P e with
      | some n => (partI P e cs n len i).map fun v => .val (decide (0 ≤ i ∧ i < (len : Int))) v H
      | none => none
    | _, _, _ => none
  | .extract t ix => match ρ t with
    | some (.tup l) => (l[ix]?).map fun v => .val true v.up H
    | _ => none
  | .call c => match allSome ρ c.args.toList with
    | some args => match c.callee with
      | .builtin b => match b with
        | .append => evAppend P c.argTypes.toList args H
        | .delete => evDelete P c.argTypes.toList args H
        | b => evBuiltin P b c.argTypes.toList args H
      | .invoke r name => match ρ r with
        | some (.c .port) => (popOf name args).map .port
        | _ => none
      | .value f => match ρ f with
        | some (.c (.fn f caps)) => some (.call f (args ++ caps.map .c))
        | some (.c (.meth name .port)) => (popOf name args).map .port
        | _ => none
    | none => none
  | .makeSlice t l c => match P.underlying t, ρ l, ρ c with
    | some (.slice el), some (.c (.int _ n)), some (.c (.int _ n')) => match zeroT P el with
      | some (.c (.int kd i)) => if growableR P el 1 = true ∧ i = 0 then
          some (.val (decide (n' = n ∧ 0 ≤ n ∧ n ≤ 1000)) (.c (.slr H.length n.toNat)) (newB H ⟨[], el, true, some (.col kd (List.replicate n.toNat 0))⟩))
        else none
      | _ => none
    | _, _, _ => none
  | .makeMap t none => match mapT P t with
    | some (_, g, sh, _) => some (.val true (.c (.mp H.length)) (newB H ⟨[], t, false, some (.imap g sh [])⟩))
    | none => none
  | .lookup t m x ok => evLookup P t (ρ m) (ρ x) ok H
  | .mapUpdate t m x v => evUpdate P t (ρ m) (ρ x) (ρ v) H
  | .makeInterface t x => match ρ x, P.underlying t with
    | some (.c c), some d => if isIfaceD d then none else some (.val true (.c (.ifc t c)) H)
    | _, _ => none
  | _ => none

/-! ### numbers of blocks in values; renaming -/
mutual
def idsC : C → List Nat
  | .ptr b _ => [b]
  | .sl b _ _ _ => [b]
  | .slg b _ _ => [b]
  | .pr b _ _ _ _ => [b]
  | .slw b _ _ _ _ => [b]
  | .slr b _ => [b]
  | .slv b _ _ _ => [b]
  | .mp b => [b]
  | .fn _ caps => idsCs caps
  | .meth _ c => idsC c
  | .ifc _ c => idsC c
  | _ => []
def idsCs : List C → List Nat
  | [] => []
  | c :: l => idsC c ++ idsCs l
end
def idsV1 : V1 → List Nat
  | .c x => idsC x
  | .agg l => idsCs l
def idsV : V → List Nat
  | .c x => idsC x
  | .agg l => idsCs l
  | .tup l => l.flatMap idsV1
def idx (l : List Nat) (b : Nat) : Option Nat :=
  match l with
  | [] => none
  | x :: l => if x = b then some 0 else (idx l b).map (· + 1)
mutual
def renC (r : Nat → Option Nat) : C → Option C
  | .ptr b o => (r b).map fun b' => .ptr b' o
  | .sl b o n c => (r b).map fun b' => .sl b' o n c
  | .slg b o n => (r b).map fun b' => .slg b' o n
  | .pr b o i n f => (r b).map fun b' => .pr b' o i n f
  | .slw b o z n c => (r b).map fun b' => .slw b' o z n c
  | .slr b n => (r b).map fun b' => .slr b' n
  | .slv b z o n => (r b).map fun b' => .slv b' z o n
  | .mp b => (r b).map fun b' => .mp b'
  | .fn f caps => (renCs r caps).map (.fn f)
  | .meth s c => (renC r c).map (.meth s)
  | .ifc t c => (renC r c).map (.ifc t)
  | .bool b => some (.bool b)
  | .int k n => some (.int k n)
  | .nilp => some .nilp
  | .nils => some .nils
  | .nilf => some .nilf
  | .nili => some .nili
  | .nilm => some .nilm
  | .port => some .port
def renCs (r : Nat → Option Nat) : List C → Option (List C)
  | [] => some []
  | c :: l => match renC r c with
    | some c' => match renCs r l with
      | some l' => some (c' :: l')
      | none => none
    | none => none
end
def renV1 (r : Nat → Option Nat) : V1 → Option V1
  | .c x => (renC r x).map .c
  | .agg l => (renCs r l).map .agg
def renV (r : Nat → Option Nat) : V → Option V
  | .c x => (renC r x).map .c
  | .agg l => (renCs r l).map .agg
  | .tup l => (allSome (renV1 r) l).map .tup
def renB (r : Nat → Option Nat) : Option Blk → Option (Option Blk)
  | none => some none
  | some b => (renCs r b.cells).map fun cs => some { b with cells := cs }
/-- the blocks that some lead to, behind those that are listed. -/
def reach (H : Heap) : Nat → List Nat → List Nat → Option (List Nat)
  | _, [], acc => some acc
  | 0, _ :: _, _ => none
  | n + 1, b :: todo, acc => if acc.contains b then reach H n todo acc else
    match blkAt H b with
    | some k => reach H n (idsCs k.cells ++ todo) (acc ++ [b])
    | none => none

/-- the first m blocks, and those that they and some lead to. -/
def reachM (H : Heap) (m : Nat) (todo : List Nat) : Option (List Nat) := match (List.range m).all fun b => (blkAt H b).isSome with
  | true => reach H 1000 (((List.range m).flatMap fun b => match blkAt H b with | some k => idsCs k.cells | none => []) ++ todo) (List.range m)
  | false => none

/-- what a call comes to: what is asked of the port, and, of what that ends in, the result and the blocks behind it. -/
structure Sum where
  α : Type
  t : T α
  f : α → Option (V × Heap)
  /-- the same as a continuation's use of it (spelled so that it can be run). -/
  b : ∀ β : Type, (α → T β) → T β
  hb : ∀ β k, b β k = t.bind k
/-- a summary whose continuation is bound. -/
abbrev mkS (α : Type) (t : T α) (f : α → Option (V × Heap)) : Sum := ⟨α, t, f, fun _ k => t.bind k, fun _ _ => rfl⟩
/-- what is known of functions: arguments and the blocks that they lead to, numbered from 0. -/
abbrev Known := FuncId → Option (List V → Heap → Option Sum)
def setBs (H : Heap) : List Nat → List (Option Blk) → Heap
  | b :: l, x :: xs => setBs (setB H b x) l xs
  | _, _ => H
/-- numbers of a callee's blocks, back to the caller's. -/
def backId (l : List Nat) (top : Nat) (i : Nat) : Nat := if i < l.length then l.getD i 0 else top + (i - l.length)
def evCall (Γ : Known) (f : FuncId) (args : List V) (H : Heap) : Option Sum :=
  match Γ f with
  | none => none
  | some m => match reach H 1000 (args.flatMap idsV) [] with
    | none => none
    | some l => match allSome (renV (idx l)) args, allSome (fun b => renB (idx l) (blkAt H b)) l with
      | some args', some H0 => match m args' H0 with
        | none => none
        | some S => some ⟨S.α, S.t, fun a => match S.f a with
            | none => none
            | some r => match renV (fun i => some (backId l H.length i)) r.1, allSome (renB (fun i => some (backId l H.length i))) r.2 with
              | some v, some H1 => if l.length ≤ H1.length then some (v, setBs H l H1 ++ H1.drop l.length) else none
              | _, _ => none, S.b, S.hb⟩
      | _, _ => none
/-- a call that touches no block that was there, and leaves none. -/
def evPure (Γ : Known) (f : FuncId) (args : List V) : Option Sum :=
  match args.flatMap idsV with
  | _ :: _ => none
  | [] => match Γ f with
    | none => none
    | some m => match m args [] with
      | none => none
      | some S => some ⟨S.α, S.t, fun a => match S.f a with
          | none => none
          | some r => match idsV r.1, r.2 with
            | [], [] => some r
            | _, _ => none, S.b, S.hb⟩
/-- a call that keeps off some blocks, and leaves no further ones. -/
def evCallK (Γ : Known) (A : List Nat) (f : FuncId) (args : List V) (H : Heap) : Option Sum :=
  match Γ f with
  | none => none
  | some m => match reach H 1000 (args.flatMap idsV) [] with
    | none => none
    | some l => match A.all fun b => !(l.contains b) with
      | false => none
      | true => match allSome (renV (idx l)) args, allSome (fun b => renB (idx l) (blkAt H b)) l with
        | some args', some H0 => match m args' H0 with
          | none => none
          | some S => some ⟨S.α, S.t, fun a => match S.f a with
              | none => none
              | some r => match renV (fun i => l[i]?) r.1, allSome (renB (fun i => l[i]?)) r.2 with
                | some v, some H1 => if H1.length = l.length then some (v, setBs H l H1) else none
                | _, _ => none, S.b, S.hb⟩
        | _, _ => none
/-- how a call may touch blocks: as it will; not at all; all but these; all but these, and it leaves no further ones. -/
inductive PM where
  | free
  | pure
  | avoid (A : List Nat)
  | keep (A : List Nat)
  /-- no block that was may go. -/
  | fresh
/-- is there still what was? -/
def sameS : Heap → Heap → Bool
  | [], _ => true
  | some _ :: H, some _ :: H' => sameS H H'
  | none :: H, none :: H' => sameS H H'
  | _, _ => false
def okV (pu : PM) (H H' : Heap) : Bool := match pu with
  | .fresh => sameS H H'
  | _ => true
/-- does a call keep off some blocks? -/
def avoidsB (A : List Nat) (H : Heap) (args : List V) : Bool := match reach H 1000 (args.flatMap idsV) [] with
  | some l => A.all fun b => !(l.contains b) && decide (b < H.length)
  | none => false
def callO {β : Type} (Γ : Known) (f : FuncId) (args : List V) (o : Oper) (st : St) (k : St → T β) : T β :=
  match evCall Γ f args st.heap with
  | some S => S.b β fun a => match S.f a with
    | some r => k ⟨putT st.tmps o.dst r.1, r.2⟩
    | none => .fail
  | none => .fail
/-- pu: how calls may touch blocks. -/
def execO {β : Type} (P : Program) (Γ : Known) (pu : PM) (o : Oper) (st : St) (k : St → T β) : T β :=
  match evStep P o.op (evalO st.tmps) st.heap with
  | some (.val g v H) => match okV pu st.heap H with
    | true => cond g (k ⟨putT st.tmps o.dst v, H⟩) .fail
    | false => .fail
  | some (.port p) => .op p fun x => k ⟨putT st.tmps o.dst (ansV p x), st.heap⟩
  | some (.call f args) => match pu with
    | .free => callO Γ f args o st k
    | .avoid A => match avoidsB A st.heap args with
      | true => callO Γ f args o st k
      | false => .fail
    | .keep A => match evCallK Γ A f args st.heap with
      | some S => S.b β fun a => match S.f a with
        | some r => k ⟨putT st.tmps o.dst r.1, r.2⟩
        | none => .fail
      | none => .fail
    | .pure => match evPure Γ f args with
      | some S => S.b β fun a => match S.f a with
        | some r => k ⟨putT st.tmps o.dst r.1, st.heap⟩
        | none => .fail
      | none => .fail
    | .fresh => .fail
  | none => .fail
def skipO {β : Type} (o : Oper) (st : St) (k : St → T β) : T β := k ⟨putT st.tmps o.dst .undef, st.heap⟩
def evOper {β : Type} (P : Program) (Γ : Known) (ops : Array Oper) (pu : PM) (o : Oper) (st : St) (k : St → T β) : T β :=
  match o.guard with
  | none => execO P Γ pu o st k
  | some (j, want) => match (ops[j]?).bind (·.dst) with
    | none => .fail
    | some s => match getT st.tmps s with
      | some (.c (.bool b)) => cond b
          (match want with
            | true => execO P Γ pu o ⟨setT st.tmps s (.c (.bool true)), st.heap⟩ k
            | false => skipO o ⟨setT st.tmps s (.c (.bool true)), st.heap⟩ k)
          (match want with
            | false => execO P Γ pu o ⟨setT st.tmps s (.c (.bool false)), st.heap⟩ k
            | true => skipO o ⟨setT st.tmps s (.c (.bool false)), st.heap⟩ k)
      | some (.tup []) => skipO o st k
      | _ => .fail
def evOps {β : Type} (P : Program) (Γ : Known) (ops : Array Oper) : List Oper → St → (St → T β) → T β
  | [], st, k => k st
  | o :: l, st, k => evOper P Γ ops .free o st fun st' => evOps P Γ ops l st' k

/-! ### regions that draw their order -/
/-- how an operation touches memory: 0 not at all, 1 it reads, 2 it makes a block, 3 it asks the port or calls what touches no old block, 5 it stores at a slot's address, 6 it appends, 4 else. -/
def kindO : Op → Nat
  | .move _ | .assign _ | .pick .. | .build .. | .nilCheck _ | .binOp .. | .unOp .. | .convert .. | .makeFunc .. | .makeInterface .. | .slice .. | .fieldAddr .. | .field .. | .indexAddr .. | .index .. | .extract .. => 0
  | .load .. => 1
  | .store _ (.tmp _) _ => 5
  | .lookup _ (.tmp _) _ _ => 7
  | .alloc _ | .box .. | .buildSlice .. => 2
  | .call { callee := .builtin b, .. } => match b with
    | .len | .min | .max => 0
    | .append => 6
    | _ => 4
  | .call _ => 3
  | _ => 4
def swapKinds (a b : Nat) : Bool := a == 0 || b == 0 || (a == 1 && b ≤ 3) || (b == 1 && a ≤ 3) || (a == 2 && b == 3) || (a == 3 && b == 2) || (a == 1 && b == 5) || (a == 1 && b == 6) || (a == 6 && b == 1) || (a == 7 && (b == 1 || b == 2 || b == 7)) || (b == 7 && (a == 1 || a == 2))
def swapOk (ops : Array Oper) (a b : Oper) : Bool := swapKinds (kindO a.op) (kindO b.op) && a.apart ops b
/-- are two operations of a region ordered? -/
def ordered (b : Array Nat) (i j : Nat) : Bool := (b.getD j 0).testBit i || (b.getD i 0).testBit j
/-- where an address comes from: a slot that the region does not write, or a part or an element of what such a slot points to. -/
def chainA (ops : Array Oper) : Nat → Nat → Option (List Nat)
  | 0, _ => none
  | n + 1, q => match ops.toList.filter fun o => o.dst == some q with
    | [] => some [q]
    | [o] => match o.op with
      | .fieldAddr _ (.tmp x) _ => (chainA ops n x).map fun l => q :: l
      | .indexAddr _ (.tmp x) _ => (chainA ops n x).map fun l => q :: l
      | .move (.tmp x) => (chainA ops n x).map fun l => q :: l
      | .nilCheck (.tmp x) => (chainA ops n x).map fun l => q :: l
      | _ => none
    | _ => none
/-- an address that lies in a slot ahead of the region, or comes from one. -/
def heldAddr (ops : Array Oper) : Op → Option Nat
  | .load _ (.tmp q) => if (chainA ops 6 q).isSome then some q else none
  | .store _ (.tmp q) _ => if (chainA ops 6 q).isSome then some q else none
  | _ => none
/-- slots with addresses that loads look at that are not ordered with an operation. -/
def besides (ops : Array Oper) (b : Array Nat) (j : Nat) : List Nat := ops.toList.zipIdx.filterMap fun (x, i) => if i != j && !ordered b i j && kindO x.op == 1 then heldAddr ops x.op else none
/-- how an operation, if it is a call, may touch blocks: it must keep off those that loads that are not ordered with it look at (A: slots and blocks); D: new blocks that are made behind it. -/
def modeOf (ops : Array Oper) (b : Array Nat) (D : List Nat) (A : List (Nat × Nat)) (j : Nat) : PM :=
  match ops[j]? with
  | none => .free
  | some y => if kindO y.op == 3 then
      (if ops.toList.zipIdx.any fun (x, i) => i != j && !ordered b i j && (kindO x.op == 1 && (heldAddr ops x.op).isNone) then .pure else
        if ops.toList.zipIdx.any fun (x, i) => i != j && !ordered b i j && (kindO x.op == 2 && !(D.contains i)) then .keep ((A.filter fun p => (besides ops b j).contains p.1).map (·.2)) else
        match besides ops b j with
        | [] => .free
        | q :: l => .avoid ((A.filter fun p => (q :: l).contains p.1).map (·.2)))
    else if kindO y.op == 6 then (if ops.toList.zipIdx.any fun (x, i) => i != j && !ordered b i j && kindO x.op == 1 then .fresh else .free)
    else .free
/-- the block that an address lies in. -/
def ptrB : Option V → Option Nat
  | some (.c (.ptr b _)) => some b
  | some (.c (.pr b _ _ _ _)) => some b
  | _ => none
/-- the block that a value points to. -/
def blkB : Option V → Option Nat
  | some (.c (.ptr b _)) => some b
  | some (.c (.pr b _ _ _ _)) => some b
  | some (.c (.sl b _ _ _)) => some b
  | some (.c (.slg b _ _)) => some b
  | some (.c (.slw b _ _ _ _)) => some b
  | some (.c (.slr b _)) => some b
  | _ => none
/-- blocks that the region's loads look at. -/
def avoidA (ops : Array Oper) (tmps : Tm) : List (Nat × Nat) := ops.toList.flatMap fun o => match heldAddr ops o.op with
  | some q => match chainA ops 6 q with
    | some l => l.filterMap fun c => match blkB (getT tmps c) with
      | some b => some (q, b)
      | none => none
    | none => []
  | none => []
def minus' (a b : Nat) : Nat := a ^^^ (a &&& b)
/-- may all orders that the region can draw be walked in its text's? -/
def regionOk (ops : Array Oper) (b : Array Nat) : Bool :=
  let l := ops.toList.zipIdx
  (ops.toList.zipIdx.all fun (o, i) => o.after.all fun e => !(Region.binds .any e) || e.on < i) &&
  l.all fun (y, j) => l.all fun (x, i) => !(i < j) || (b.getD j 0).testBit i || swapOk ops x y
/-- do loads and stores that are not ordered look at blocks that differ? -/
def diffOk (ops : Array Oper) (b : Array Nat) (A : List (Nat × Nat)) : Bool :=
  let l := ops.toList.zipIdx
  l.all fun (y, j) => !(kindO y.op == 5) || l.all fun (x, i) => !(i < j) || (b.getD j 0).testBit i || !(kindO x.op == 1) || match heldAddr ops x.op, heldAddr ops y.op with
    | some q, some q' => A.all fun p => A.all fun p' => !(p.1 == q) || !(p'.1 == q') || p.2 != p'.2
    | _, _ => false
def evDraw {β : Type} (P : Program) (Γ : Known) (ops : Array Oper) (b : Array Nat) (D : List Nat) (A : List (Nat × Nat)) : List Nat → St → (St → T β) → T β
  | [], st, k => k st
  | i :: l, st, k => match ops[i]? with
    | some o => evOper P Γ ops (modeOf ops b D A i) o st fun st' => evDraw P Γ ops b D A l st' k
    | none => .fail
/-- a new block of zeros that waits for nothing. -/
def bareNew (P : Program) (o : Oper) : Bool := match o.op with
  | .alloc t => match o.guard, o.dst with
    | none, some _ => (o.after.all fun e => !(Region.binds .any e)) && (match zeroT P t with
      | some z => z.cells.isSome
      | none => false)
    | _, _ => false
  | _ => false
/-- a new block that hangs on slots alone. -/
def newOp (P : Program) (o : Oper) : Bool := match o.guard, o.dst with
  | none, some _ => match o.op with
    | .alloc t => match zeroT P t with
      | some z => z.cells.isSome
      | none => false
    | .buildSlice .. => true
    | _ => false
  | _, _ => false
/-- such ones beside calls that are not ordered with them. -/
def lates (P : Program) (ops : Array Oper) (b : Array Nat) : List Nat := (List.range ops.size).filter fun j => match ops[j]? with
  | some o => bareNew P o && ops.toList.zipIdx.any fun (x, i) => kindO x.op == 3 && !ordered b i j
  | none => false
/-- the place behind the last of these calls. -/
def lastOf (ops : Array Oper) (b : Array Nat) (j : Nat) : Nat := ops.toList.zipIdx.foldl (fun m (x, i) => if kindO x.op == 3 && !ordered b i j then max m i else m) j
/-- the text's order, but these new blocks behind the calls. -/
def lateOrder (ops : Array Oper) (b : Array Nat) (D : List Nat) : List Nat := (List.range ops.size).flatMap fun i => (if D.contains i then [] else [i]) ++ D.filter fun d => lastOf ops b d == i
/-- may p stand ahead of q? -/
def fitB (ops : Array Oper) (b : Array Nat) (D : List Nat) (p q : Nat) : Bool := p != q && !((b.getD p 0).testBit q) && ((b.getD q 0).testBit p || match ops[p]?, ops[q]? with
  | some x, some y =>
    (D.contains q && x.apart ops y && (List.range ops.size).all fun i => !((b.getD i 0).testBit q) || (b.getD i 0).testBit p) ||
    (match D.contains p || D.contains q with
      | true => kindO x.op != 3 && kindO y.op != 3 && swapOk ops x y
      | false => decide (p < q))
  | _, _ => false)
def allPairs (f : Nat → Nat → Bool) : List Nat → Bool
  | [] => true
  | x :: l => l.all (f x) && allPairs f l
def lateOk (P : Program) (ops : Array Oper) (b : Array Nat) (D L : List Nat) : Bool :=
  L.all (fun i => decide (i < ops.size)) && (List.range ops.size).all (fun i => L.contains i) && allPairs (fitB ops b D) L && D.all fun d => (match ops[d]? with
    | some o => newOp P o && ops.toList.zipIdx.all fun (x, i) => i == d || x.dst != o.dst
    | none => false) && D.all fun c => !((b.getD d 0).testBit c)
/-- may all orders be walked, but for the late ones? -/
def regionOkD (ops : Array Oper) (b : Array Nat) (D : List Nat) : Bool :=
  let l := ops.toList.zipIdx
  (ops.toList.zipIdx.all fun (o, i) => o.after.all fun e => !(Region.binds .any e) || e.on < i) &&
  l.all fun (y, j) => l.all fun (x, i) => !(i < j) || D.contains i || D.contains j || (b.getD j 0).testBit i || swapOk ops x y
/-- new blocks that are not ordered with other new ones, calls or rows that grow. -/
def lates2 (P : Program) (ops : Array Oper) (b : Array Nat) : List Nat := (List.range ops.size).filter fun j => match ops[j]? with
  | some o => newOp P o && ops.toList.zipIdx.any fun (x, i) => i != j && (kindO x.op == 2 || kindO x.op == 3 || kindO x.op == 6) && !ordered b i j
  | none => false
/-- the text's order, but these new blocks just ahead of the first that needs them. -/
def lateOrder2 (ops : Array Oper) (b : Array Nat) (D : List Nat) : List Nat :=
  let need := fun d => (List.range ops.size).find? fun i => (b.getD i 0).testBit d
  (List.range ops.size).flatMap (fun i => (D.filter fun d => need d == some i) ++ if D.contains i then [] else [i]) ++ D.filter fun d => (need d).isNone
/-- slots forgotten. -/
def forgetT (ops : Array Oper) (D : List Nat) (l : Tm) : Tm := ⟨l.n, keepS (minus' (1 <<< 512 - 1) (D.foldl (fun m d => match (ops[d]?).bind (·.dst) with | some t => m ||| (1 <<< t) | none => m) 0)) 9 0 l.s⟩

/-! ### which slots are looked at later -/
def bitO (m : Nat) : Operand → Nat
  | .tmp t => m ||| (1 <<< t)
  | _ => m
def readsOf (ops : Array Oper) (o : Oper) : Nat :=
  let m := o.op.operands.foldl bitO 0
  match o.guard with
  | some (j, _) => match (ops[j]?).bind (·.dst) with
    | some s => m ||| (1 <<< s)
    | none => m
  | none => m
def minus (a b : Nat) : Nat := a ^^^ (a &&& b)
/-- slots looked at ahead of being written, and slots written. -/
def ueOps (ops : Array Oper) : List Oper → Nat × Nat
  | [] => (0, 0)
  | o :: l =>
    let (u, d) := ueOps ops l
    let w := match o.dst with | some t => 1 <<< t | none => 0
    (readsOf ops o ||| minus u w, w ||| d)
def full : Nat := 1 <<< 400 - 1
def ue : Code → Nat × Nat
  | .region _ ops _ => ueOps ops ops.toList
  | .seq a b =>
    let (u, d) := ue a
    let (u', d') := ue b
    (u ||| minus u' d, d ||| d')
  | .cond c a b =>
    let (u, d) := ue a
    let (u', d') := ue b
    (bitO (u ||| u') c, d &&& d')
  | .block _ c => ((ue c).1, 0)
  | .scope c => ((ue c).1, 0)
  | .loop c => ((ue c).1, 0)
  | .exit _ => (0, full)
  | .ret => (0, full)
  | _ => (0, 0)

/-! ### code -/
inductive Ex where
  | normal
  | exit (id : Nat)
  | ret
def refine (tmps : Tm) (c : Operand) (b : Bool) : Tm :=
  match c with
  | .tmp t => setT tmps t (.c (.bool b))
  | _ => tmps
def idsS : Sl → List Nat
  | .tip => []
  | .leaf v => idsV v
  | .node l r => idsS l ++ idsS r
/-- blocks that are not listed are forgotten. -/
def keepB (l : List Nat) : Nat → Heap → Heap
  | _, [] => []
  | i, x :: H => (if l.contains i then x else none) :: keepB l (i + 1) H
/-- as many blocks as the listed ones need. -/
def topOf : List Nat → Nat
  | [] => 0
  | b :: l => max (b + 1) (topOf l)
/-- a state in which only these slots are known, and the blocks that they, and the first m0 ones, lead to. -/
def norm (m0 m : Nat) (st : St) : Option St :=
  let tmps := keepT m st.tmps
  match reach st.heap 1000 (List.range m0 ++ idsS tmps.s) [] with
  | some l => some ⟨tmps, (keepB l 0 st.heap).take (topOf l)⟩
  | none => none
def loopN {β : Type} : Nat → (St → (St → T β) → T β) → St → T β
  | 0, _, _ => .fail
  | n + 1, F, st => F st fun st' => loopN n F st'
/-- what nil slices of a slot are taken for at a loop's head: own rows that have nothing yet. -/
inductive Ek where
  | col (k : IntKind)
  | rows (sh : List CK)
def Ek.tab : Ek → Tab
  | .col k => .col k []
  | .rows sh => .rows sh []
structure Cv where
  slot : Nat
  el : TypeId
  ek : Ek
/-- how many rounds a loop may have; what is taken for rows; are blocks numbered anew at a loop's head? -/
structure Fu where
  n : Nat
  cv : List Cv
  re : Bool
instance : Coe Nat Fu := ⟨fun n => ⟨n, [], false⟩⟩
instance (k : Nat) : OfNat Fu k := ⟨⟨k, [], false⟩⟩
def renS (r : Nat → Option Nat) : Sl → Option Sl
  | .tip => some .tip
  | .leaf v => match renV r v with
    | some u => some (.leaf u)
    | none => none
  | .node a b => match renS r a, renS r b with
    | some x, some y => some (.node x y)
    | _, _ => none
/-- blocks numbered anew, behind the first ones, in the row in which the slots name them. -/
def renum (m0 : Nat) (st : St) : Option St := match reachM st.heap m0 (idsS st.tmps.s) with
  | some l => if l.take m0 == List.range m0 then match renS (idx l) st.tmps.s, allSome (fun b => renB (idx l) (blkAt st.heap b)) l with
      | some s, some H => some ⟨⟨st.tmps.n, s⟩, H⟩
      | _, _ => none
    else none
  | none => none
def conv1 (c : Cv) (st : St) : St := match getT st.tmps c.slot with
  | some (.c .nils) => ⟨setT st.tmps c.slot (.c (.slr st.heap.length 0)), newB st.heap ⟨[], c.el, true, some c.ek.tab⟩⟩
  | _ => st
def convs : List Cv → St → St
  | [], st => st
  | c :: l, st => convs l (conv1 c st)
def normC (n : Fu) (m0 m : Nat) (st : St) : Option St := match norm m0 m st with
  | some st1 => match n.re with
    | true => renum m0 (convs n.cv st1)
    | false => some (convs n.cv st1)
  | none => none
/-- how many statements follow, one behind the other. -/
def seqLen : Code → Nat
  | .seq _ b => seqLen b + 1
  | _ => 0
/-- is the state told anew ahead of a code? (a slot of 1000000 and more names how many statements it has.) -/
def cutS (n : Fu) (b : Code) : Bool := match n.cv with
  | [] => false
  | l => l.any fun c => Nat.beq c.slot (1000000 + seqLen b)
/-- are new blocks made late? (a slot 2000000 says so.) -/
def late2 (n : Fu) : Bool := match n.cv with
  | [] => false
  | l => l.any fun c => Nat.beq c.slot 2000000
/-- the state is told anew behind a code, too. -/
def normK {β : Type} (n : Fu) (m0 lv : Nat) (K : Ex → St → T β) : Ex → St → T β := fun e st => match normC n m0 lv st with
  | some st2 => K e st2
  | none => .fail
def ev {β : Type} (P : Program) (Γ : Known) (n : Fu) (m0 : Nat) : Code → Nat → St → (Ex → St → T β) → T β
  | .skip, _, st, K => K .normal st
  | .label _, _, st, K => K .normal st
  | .seq a b, lv, st, K => ev P Γ n m0 a (lv ||| (ue b).1) st fun e st' => match e with
    | .normal => match cutS n b with
      | true => match normC n m0 (lv ||| (ue b).1) st' with
        | some st2 => ev P Γ n m0 b lv st2 (normK n m0 lv K)
        | none => .fail
      | false => ev P Γ n m0 b lv st' K
    | .exit i => K (.exit i) st'
    | .ret => K .ret st'
  | .cond c a b, lv, st, K => match evalO st.tmps c with
    | some (.c (.bool t)) => cond t (ev P Γ n m0 a lv ⟨refine st.tmps c true, st.heap⟩ K) (ev P Γ n m0 b lv ⟨refine st.tmps c false, st.heap⟩ K)
    | _ => .fail
  | .block id c, lv, st, K => ev P Γ n m0 c lv st fun e st' => match e with
    | .normal => K .normal st'
    | .exit i => if i = id then K .normal st' else K (.exit i) st'
    | .ret => K .ret st'
  | .scope c, lv, st, K => ev P Γ n m0 c lv st K
  | .exit id, _, st, K => K (.exit id) st
  | .ret, _, st, K => K .ret st
  | .loop c, lv, st, K => match normC n m0 (lv ||| (ue c).1) st with
    | some st1 => loopN n.n (fun st k => ev P Γ n m0 c (lv ||| (ue c).1) st fun e st' => match e with
        | .normal => match normC n m0 (lv ||| (ue c).1) st' with
          | some st2 => k st2
          | none => .fail
        | .exit i => match normC n m0 lv st' with
          | some st2 => K (.exit i) st2
          | none => .fail
        | .ret => match normC n m0 lv st' with
          | some st2 => K .ret st2
          | none => .fail) st1
    | none => .fail
  | .region _ ops draw, _, st, K => match draw with
    | true => match late2 n with
     | true => if (regionOkD ops (Region.before ops) (lates2 P ops (Region.before ops)) = true ∧ diffOk ops (Region.before ops) (avoidA ops (forgetT ops (lates2 P ops (Region.before ops)) st.tmps)) = true) ∧ lateOk P ops (Region.before ops) (lates2 P ops (Region.before ops)) (lateOrder2 ops (Region.before ops) (lates2 P ops (Region.before ops))) = true then
          evDraw P Γ ops (Region.before ops) (lates2 P ops (Region.before ops)) (avoidA ops (forgetT ops (lates2 P ops (Region.before ops)) st.tmps)) (lateOrder2 ops (Region.before ops) (lates2 P ops (Region.before ops))) ⟨forgetT ops (lates2 P ops (Region.before ops)) st.tmps, st.heap⟩ (K .normal) else .fail
     | false => match lates P ops (Region.before ops) with
      | [] => if regionOk ops (Region.before ops) = true ∧ diffOk ops (Region.before ops) (avoidA ops st.tmps) = true then evDraw P Γ ops (Region.before ops) [] (avoidA ops st.tmps) (List.range ops.size) st (K .normal) else .fail
      | d :: D => if (regionOk ops (Region.before ops) = true ∧ diffOk ops (Region.before ops) (avoidA ops (forgetT ops (d :: D) st.tmps)) = true) ∧ lateOk P ops (Region.before ops) (d :: D) (lateOrder ops (Region.before ops) (d :: D)) = true then
          evDraw P Γ ops (Region.before ops) (d :: D) (avoidA ops (forgetT ops (d :: D) st.tmps)) (lateOrder ops (Region.before ops) (d :: D)) ⟨forgetT ops (d :: D) st.tmps, st.heap⟩ (K .normal) else .fail
    | false => evOps P Γ ops ops.toList st (K .normal)
  | _, _, _, _ => .fail

/-! ### functions -/
def resOf (P : Program) (st : St) : ResultVar → Option V1
  | .tmp t => (getT st.tmps t).bind V.down
  | .cell a t => match getT st.tmps a with
    | some (.c (.ptr b o)) => match blkAt st.heap b with
      | some k => (partT P t k.cells o).bind V.down
      | none => none
    | _ => none
def resV (P : Program) (fn : Func) (st : St) : Option V :=
  match allSome (resOf P st) fn.results.toList with
  | some [v] => some v.up
  | some l => some (.tup l)
  | none => none
/-- a result, and the blocks that it and the first m ones lead to, the others forgotten, numbered anew behind the first m. -/
def finish (m : Nat) (v : V) (H : Heap) : Option (V × Heap) :=
  match reachM H m (idsV v) with
  | some l => if l.take m == List.range m then match renV (idx l) v, allSome (fun b => renB (idx l) (blkAt H b)) l with
      | some v', some H' => some (v', H')
      | _, _ => none
    else none
  | none => none
def endF (P : Program) (fn : Func) (m : Nat) (e : Ex) (st : St) : T (V × Heap) :=
  match e with
  | .exit _ => .fail
  | _ => match resV P fn st with
    | some v => match finish m v st.heap with
      | some r => .ret r
      | none => .fail
    | none => .fail
def resMask : List ResultVar → Nat
  | [] => 0
  | .tmp t :: l => (1 <<< t) ||| resMask l
  | .cell t _ :: l => (1 <<< t) ||| resMask l
def begun (fn : Func) (args : List V) : Tm := ⟨max fn.ntmps args.length, putArgs 0 args .tip⟩
def evF (P : Program) (Γ : Known) (n : Fu) (fn : Func) (args : List V) (H : Heap) : T (V × Heap) :=
  match fn.body with
  | some c => ev P Γ n H.length c (resMask fn.results.toList) ⟨begun fn args, H⟩ (endF P fn H.length)
  | none => .fail
end Go.Proofs.Ytjcdojcbdfblbaa.Lx
