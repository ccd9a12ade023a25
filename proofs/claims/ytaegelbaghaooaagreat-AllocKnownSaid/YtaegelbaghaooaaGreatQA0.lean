/- Summaries: what the printed ones begin with. -/
import Derived.Test.YtaegelbaghaooaaGreatQGeom
import Derived.Test.YtaegelbaghaooaaGreatShelf
import Derived.Test.YtaegelbaghaooaaGreatClass
import Derived.WalkKit
namespace Go.Proofs.YtaegelbaghaooaaGreat.Lx
open Go Go.RowKit
theorem SoundL.append {σ : Type} {I : Port Tryz.prog σ} {a b : List (Nat × Sm)} (h : SoundL I a) (h' : SoundL I b) : SoundL I (a ++ b) := fun f m hm => (List.mem_append.1 hm).elim (h f m) (h' f m)
theorem bind_cond {α β : Type} (c : Bool) (a b : T α) (k : α → T β) : (cond c a b).bind k = cond c (a.bind k) (b.bind k) := by cases c <;> rfl
theorem bind_ret_ {α β : Type} (a : α) (k : α → T β) : (T.ret a).bind k = k a := rfl
theorem bind_op {α β : Type} (o : POp) (f : o.Ans → T α) (k : α → T β) : (T.op o f).bind k = T.op o fun x => (f x).bind k := rfl
theorem bind_fail {α β : Type} (k : α → T β) : (T.fail : T α).bind k = .fail := rfl
/-- goes on only if something is so. -/
def guardT (c : Bool) : T Unit := bif c then .ret () else .fail
theorem run_guardT {σ : Type} {step : PStep σ} {c : Bool} {s s' : σ} {x : Unit} (h : (guardT c).run step s = some (x, s')) : c = true ∧ s' = s := by
  cases c
  · simp [guardT, T.run] at h
  · simp only [guardT, cond_true, T.run, Option.some.injEq, Prod.mk.injEq] at h
    exact ⟨rfl, h.2.symm⟩
/-- a summary out of a contract of a function that only reckons. -/
theorem sound_calls {σ : Type} {I : Port Tryz.prog σ} {f : FuncId} {fn : Func} (hf : (Tryz.prog).funcs[f]? = some fn) (hname : (fn.name == "runtime.NumGoroutine") = false) (hbody : fn.body.isSome = true) {m : Sm}
    (h : ∀ args H S, m args H = some S → H = [] ∧ ∃ c v, S = mkS Unit (guardT c) (fun _ => some (v, [])) ∧ ∃ vs rv, Flat I.pv v rv ∧ (∀ e, allSome (denV I.pv e) args = some vs) ∧ (c = true → ∀ w, Calls Tryz.prog f vs.toArray w fun e w' => e = .returned rv ∧ Below w.heap.size w w')) : SoundF I f m := by
  obtain ⟨c, hc⟩ := Option.isSome_iff_exists.1 hbody
  refine ⟨⟨fn, c, hf, hname, hc⟩, fun args H S hS e w s F vs E hv hR hF x v H' s' hrun hfx => ?_⟩
  obtain ⟨rfl, c, v', rfl, vs', rv, h1, h2, h3⟩ := h args H S hS
  obtain ⟨hct, rfl⟩ := run_guardT hrun
  simp only [Option.some.injEq, Prod.mk.injEq] at hfx
  obtain ⟨rfl, rfl⟩ := hfx
  rw [h2 e, Option.some.injEq] at hv
  subst hv
  refine (h3 hct w).mono ?_
  rintro en w' ⟨rfl, hb⟩
  refine ⟨e, F, rv, rfl, Ext.refl e, h1 e, E.ofSame fun b hb' => hb.block b (E.own_lt hb'), I.stable hR fun b hb' => hb.block b (I.lt hR b hb'), hF, ⟨hb.os, hb.tape, hb.output, hb.size, fun b hb' _ => hb.block b hb'⟩, fun b hb' => ?_⟩
  rcases hb' with h | h
  · exact .inl h
  · exact .inr (.inl h)
def tableC : List C := [.int .i64 8, .int .i64 8, .int .i64 8, .int .i64 16, .int .i64 16, .int .i64 4, .int .i64 24, .int .i64 8, .int .i64 2, .int .i64 32, .int .i64 32, .int .i64 2]
def mTable : Sm := fun args H => match args, H with
  | [], [] => some (mkS Unit (guardT true) (fun _ => some (.agg tableC, [])))
  | _, _ => none
def mLen64 : Sm := fun args H => match args, H with
  | [.c (.int .u64 x)], [] => some (mkS Unit (guardT (decide (0 ≤ x) && decide (x ≤ 18446744073709551615))) (fun _ => some (.c (.int .i64 (Lib.bitLen x.toNat)), [])))
  | _, _ => none
def mTz8 : Sm := fun args H => match args, H with
  | [.c (.int .u8 x)], [] => some (mkS Unit (guardT (decide (0 ≤ x) && decide (x ≤ 255))) (fun _ => some (.c (.int .i64 (Lib.trailingZeros8 x.toNat)), [])))
  | _, _ => none
def ka0 : List (Nat × Sm) := (77, mTable) :: (274, mLen64) :: (282, mTz8) :: (kw1 ++ kg1)
theorem below_same {w w' : World} (h : w' = w) : Below w.heap.size w w' := by subst h; exact Below.refl _ _
theorem s_ka0 {σ : Type} {I : Port Tryz.prog σ} : SoundL I ka0 := by
  refine .cons (sound_calls Tryz.func77 (by kernel_rfl) (by kernel_rfl) fun args H S hS => ?_) (.cons (sound_calls Tryz.func274 (by kernel_rfl) (by kernel_rfl) fun args H S hS => ?_) (.cons (sound_calls Tryz.func282 (by kernel_rfl) (by kernel_rfl) fun args H S hS => ?_) (s_kw1.append s_kg1)))
  · unfold mTable at hS
    split at hS
    · cases hS
      exact ⟨rfl, _, _, rfl, [], .agg tableCells.toArray, fun e => rfl, fun e => rfl, fun _ w => table_any w⟩
    · cases hS
  · unfold mLen64 at hS
    split at hS
    · rename_i x
      cases hS
      refine ⟨rfl, _, _, rfl, [.int .u64 x], _, fun e => rfl, fun e => rfl, fun hc w => ?_⟩
      simp only [Bool.and_eq_true, decide_eq_true_eq] at hc
      exact (Tryz.bits_Len64 x w hc.1 hc.2).mono fun e w' ⟨h1, h2⟩ => ⟨h1, below_same h2⟩
    · cases hS
  · unfold mTz8 at hS
    split at hS
    · rename_i x
      cases hS
      refine ⟨rfl, _, _, rfl, [.int .u8 x], _, fun e => rfl, fun e => rfl, fun hc w => ?_⟩
      simp only [Bool.and_eq_true, decide_eq_true_eq] at hc
      exact (Tryz.bits_TrailingZeros8 x w hc.1 hc.2).mono fun e w' ⟨h1, h2⟩ => ⟨h1, below_same h2⟩
    · cases hS
/-- two summaries of one function. -/
def orSm (a b : Sm) : Sm := fun args H => match a args H with
  | some S => some S
  | none => b args H
theorem SoundF.or {σ : Type} {I : Port Tryz.prog σ} {f : FuncId} {a b : Sm} (h : SoundF I f a) (h' : SoundF I f b) : SoundF I f (orSm a b) := by
  refine ⟨h.1, fun args H S hS => ?_⟩
  unfold orSm at hS
  split at hS
  · rename_i S' ha
    cases hS
    exact h.2 args H S ha
  · exact h'.2 args H S hS
def Ref.of : List C → Option Ref
  | [.int .i64 a, .bool b, .int .u32 c] => some ⟨a, b, c⟩
  | _ => none
theorem Ref.of_eq {l : List C} {r : Ref} (h : Ref.of l = some r) : l = r.cells := by
  unfold Ref.of at h; split at h <;> cases h; rfl
def Stt.of : List C → Option Stt
  | [.int .i64 a, .int .i64 b, .int .i64 c, .int .u32 d] => some ⟨a, b, c, d⟩
  | _ => none
theorem Stt.of_eq {l : List C} {r : Stt} (h : Stt.of l = some r) : l = r.cells := by
  unfold Stt.of at h; split at h <;> cases h; rfl
def Pg.of : List C → Option Pg
  | [.int .i64 a, .int .i64 b, .int .i64 c, .int .i64 d] => some ⟨a, b, c, d⟩
  | _ => none
theorem Pg.of_eq {l : List C} {r : Pg} (h : Pg.of l = some r) : l = r.cells := by
  unfold Pg.of at h; split at h <;> cases h; rfl
def Bt.of : List C → Option Bt
  | [.int .u8 a, .bool b, .int .i64 c, .int .u32 d] => some ⟨a, b, c, d⟩
  | _ => none
theorem Bt.of_eq {l : List C} {r : Bt} (h : Bt.of l = some r) : l = r.cells := by
  unfold Bt.of at h; split at h <;> cases h; rfl
/-- a sheet's cells behind its port. -/
def shOf (l : List C) : Option (Geo × Int) :=
  match geoOf (l.take 22), l.drop 22 with
  | some g, [.int .i64 p] => some (g, p)
  | _, _ => none
theorem shOf_eq {l : List C} {g : Geo} {p : Int} (h : shOf l = some (g, p)) : l = g.cells ++ [.int .i64 p] := by
  unfold shOf at h
  split at h
  · rename_i g' p' h1 h2
    cases h
    rw [← List.take_append_drop 22 l, geoOf_eq h1, h2]
  · cases h
/-- a size class. -/
structure Cls where
  (size align blocks : Int)
def Cls.cells (r : Cls) : List C := [.int .i64 r.size, .int .i64 r.align, .int .i64 r.blocks]
def Cls.of : List C → Option Cls
  | [.int .i64 a, .int .i64 b, .int .i64 c] => some ⟨a, b, c⟩
  | _ => none
theorem Cls.of_eq {l : List C} {r : Cls} (h : Cls.of l = some r) : l = r.cells := by
  unfold Cls.of at h; split at h <;> cases h; rfl
end Go.Proofs.YtaegelbaghaooaaGreat.Lx
