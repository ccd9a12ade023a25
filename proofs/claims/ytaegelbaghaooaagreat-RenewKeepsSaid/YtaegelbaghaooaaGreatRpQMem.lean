/- Looks at a memory, a port's bytes: what the laws' code asks for, memory as letters. -/
import Derived.Test.YtaegelbaghaooaaGreatRpQVis
import Derived.Test.YtaegelbaghaooaaGreatRpM4
set_option linter.unusedSimpArgs false
set_option linter.unusedVariables false
set_option linter.unusedSectionVars false
namespace Go.Proofs.YtaegelbaghaooaaGreat
open Go.RowKit Lx
set_option maxRecDepth 100000
def oz (o : Option Int) : Int := o.getD 0
/-! ### a port's bytes -/
def stepB (p : POp) (s : DS) : Option (Bool × V × DS) := match p with
 | .put a b => some (decide (0 ≤ b ∧ b ≤ 255), .tup [], { s with m := { s.m with bytes := putI s.m.bytes a b }, steps := IntKind.i64.wrap (s.steps + 1) })
 | .get a => some (decide (0 ≤ (atI s.m.bytes a).getD 0 ∧ (atI s.m.bytes a).getD 0 ≤ 255), .c (.int .u8 ((atI s.m.bytes a).getD 0)), { s with steps := IntKind.i64.wrap (s.steps + 1) })
 | _ => none
theorem stepB_eq {p : POp} {s s' : DS} {v : V} (h : stepB p s = some (true, v, s')) : ∃ x, dstep p s = some (x, s') ∧ ansV p x = v ∧ flatV v = true := by
 cases p with
 | put a b =>
  simp only [stepB, Option.some.injEq, Prod.mk.injEq, decide_eq_true_eq] at h
  obtain ⟨hb, rfl, rfl⟩ := h
  refine ⟨(), ?_, rfl, rfl⟩
  simp only [dstep, dacc, acc, show ¬ (6 : Int) = 1 by decide, show ¬ (6 : Int) = 2 by decide, show ¬ (6 : Int) = 3 by decide, show ¬ (6 : Int) = 4 by decide, show ¬ (6 : Int) = 5 by decide, if_false, if_true, hb, and_self, Option.map_some]
 | get a =>
  simp only [stepB, Option.some.injEq, Prod.mk.injEq, decide_eq_true_eq] at h
  obtain ⟨hb, rfl, rfl⟩ := h
  refine ⟨(atI s.m.bytes a).getD 0, ?_, rfl, rfl⟩
  simp only [dstep, dacc, acc, show ¬ (5 : Int) = 1 by decide, show ¬ (5 : Int) = 2 by decide, show ¬ (5 : Int) = 3 by decide, show ¬ (5 : Int) = 4 by decide, if_false, if_true]
  cases hx : atI s.m.bytes a with
  | none => rfl
  | some x => rw [hx] at hb; simp only [Option.getD_some] at hb ⊢; rw [if_pos hb]
 | _ => simp [stepB] at h
def viaB (name : String) : Sm := fun args H => match args with
 | .c (.ptr 0 0) :: rest => if rest.all flatV = true then
   match readS H, popOf name rest with
   | some (s, ok, _), some p => match stepB p s with
    | some (g, v, s') => match writeD H.length s' with
     | some H1 => some (mkS Unit (guardT (ok && g)) fun _ => some (v, H1))
     | none => none
    | none => none
   | _, _ => none
  else none
 | _ => none
theorem sound_viaB {f : FuncId} {name : String} (hs : SoundF NP f (viaM name)) : SoundF NP f (viaB name) := by
 refine ⟨hs.1, ?_⟩
 intro args H S hS e w s0 F vs E hv hR hF x v H' s' hrun hfx
 unfold viaB at hS
 split at hS
 ·rename_i rest
  split at hS
  ·rename_i hflat
   split at hS
   ·rename_i s ok td p hrd hp
    split at hS
    ·rename_i g v1 s1 hst
     split at hS
     ·rename_i H1 hwr
      cases hS
      obtain ⟨hct, rfl⟩ := run_guardT hrun
      rw [Bool.and_eq_true] at hct
      obtain ⟨rfl, rfl⟩ := hct
      simp only [Option.some.injEq, Prod.mk.injEq] at hfx
      obtain ⟨rfl, rfl⟩ := hfx
      obtain ⟨hrd', _⟩ := readS_eq hrd
      obtain ⟨y, h1, h2, h3⟩ := stepB_eq hst
      have hS' : viaM name (.c (.ptr 0 0) :: rest) H = some (mkS Unit (.ret ()) fun _ => some (v1, H1)) := by
       unfold viaM
       simp only
       rw [if_pos hflat, hrd', hp]
       simp only
       rw [h1]
       simp only [h2, h3, hwr]
      exact hs.2 _ _ _ hS' e w _ F vs E hv hR hF () v1 H1 _ rfl rfl
     ·cases hS
    ·cases hS
   ·cases hS
  ·cases hS
 ·cases hS
theorem s_putS : SoundF NP 31 (viaB "Put") := sound_viaB (sound_viaM ⟨_, _, Tryz.func31, by kernel_rfl, rfl⟩ meth_put)
theorem s_getS : SoundF NP 32 (viaB "Get") := sound_viaB (sound_viaM ⟨_, _, Tryz.func32, by kernel_rfl, rfl⟩ meth_get)
end Go.Proofs.YtaegelbaghaooaaGreat
