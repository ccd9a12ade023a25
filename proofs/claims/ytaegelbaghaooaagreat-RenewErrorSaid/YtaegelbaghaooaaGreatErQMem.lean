/- Looks at a memory, a port's bytes: what the laws' code asks for, memory as letters. -/
import Derived.Test.YtaegelbaghaooaaGreatErQVis
import Derived.Test.YtaegelbaghaooaaGreatErM4
set_option linter.all false
open Go.IntKind (i64 u64 u32 u8)
namespace Go.Proofs.YtaegelbaghaooaaGreat
open Go.RowKit Lx
set_option maxRecDepth 100000
def oz (o : Option Int) : Int := o.getD 0
def Yo (w : World) (v : Value) (e : Ending) (w' : World) : Prop := e = .returned v /\ Below w.heap.size w w'
theorem xmk {w w' : World} {mm wb bb : Nat} {M : Mem} (h : MemAt w mm wb bb M) (h' : MemAt w' mm wb bb M) (hk : Keeps (fun b => b = wb \/ b = bb) w w') : Below w.heap.size w w' :=
 ⟨hk.os, hk.tape, hk.output, hk.size, fun b hb => by
  by_cases h1 : b = wb
  ·subst h1; rw [h'.words, h.words]
  ·by_cases h2 : b = bb
   ·subst h2; rw [h'.bytes, h.bytes]
   ·exact hk.block b hb (by rintro (h | h); exact h1 h; exact h2 h)⟩
theorem xts (at_ : Int) (mm wb bb : Nat) (M : Mem) (w : World) (h : MemAt w mm wb bb M) :
  Calls Tryz.prog 54 #[.pointer (some ⟨mm, 0, none⟩), .int .i64 at_] w (Yo w (.int .u64 ((atI M.words at_).getD 0))) := by
 have hs : acc 1 at_ 0 0 M = some ((atI M.words at_).getD 0, M) := by simp only [acc, if_true]
 have HM := Lib.hid h
 have HS := Lib.hid hs
 clear h hs
 go_enter Tryz.func54, Tryz.ntmps54
 go_wp2_with (go_at_call 106; refine (xnm 1 at_ 0 0 mm wb bb M M _ _ HM.out HS.out).mono ?_; rintro e1 w1 ⟨⟨ok, rfl⟩, hM1, hk1⟩; have HB1 := Lib.hid (xmk HM.out hM1 hk1); clear hM1 hk1)
 go_ret
 exact ⟨rfl, HB1.out⟩
theorem xtt (at_ : Int) (mm wb bb : Nat) (M : Mem) (w : World) (h : MemAt w mm wb bb M) (hx : 0 <= (atI M.bytes at_).getD 0 /\ (atI M.bytes at_).getD 0 <= 255) :
  Calls Tryz.prog 34 #[.pointer (some ⟨mm, 0, none⟩), .int .i64 at_] w (Yo w (.int .u8 ((atI M.bytes at_).getD 0))) := by
 have hs : acc 5 at_ 0 0 M = some ((atI M.bytes at_).getD 0, M) := by
  simp only [acc, show ¬ (5 : Int) = 1 by decide, show ¬ (5 : Int) = 2 by decide, show ¬ (5 : Int) = 3 by decide, show ¬ (5 : Int) = 4 by decide, if_false, if_true]
  cases hb : atI M.bytes at_ with
  | none => rfl
  | some x => rw [hb] at hx; simp only [Option.getD_some] at hx |-; rw [if_pos hx]
 have HM := Lib.hid h
 have HS := Lib.hid hs
 have HW := Lib.hid (show (( atI M.bytes at_).getD 0) % 256 = (atI M.bytes at_).getD 0 by omega)
 clear h hs hx
 generalize (atI M.bytes at_).getD 0 = x at *
 go_enter Tryz.func34, Tryz.ntmps34
 go_wp2_with (go_at_call 106; refine (xnm 5 at_ 0 0 mm wb bb M M _ _ HM.out HS.out).mono ?_; rintro e1 w1 ⟨⟨ok, rfl⟩, hM1, hk1⟩; have HB1 := Lib.hid (xmk HM.out hM1 hk1); clear hM1 hk1)
 go_ret
 have e := HW.out
 refine ⟨?_, HB1.out⟩
 simp only [e]
 rfl
def xml (H : Heap) : Option (Mem × Bool) := match H with
 | [some ⟨[.sl 1 0 a a', .sl 2 0 b b'], t2, false, none⟩, some ⟨[], t3, false, some (.col .u64 W)⟩, some ⟨[], t4, false, some (.col .u8 B)⟩] =>
  if t2 = 188 /\ t3 = 34 /\ t4 = 5 then some (⟨W, B⟩, decide (a' = a /\ b' = b /\ W.length = a /\ B.length = b /\ a <= 1000000 /\ b <= 1000000)) else none
 | _ => none
theorem xo0 {e : Env} {H : Heap} {w : World} {M : Mem} (E : Emb NP.pv e H w) (h : xml H = some (M, true)) : ∃ r0 r1 r2 : Nat × Nat, e[0]? = some r0 /\ MemAt w r0.1 r1.1 r2.1 M := by
 unfold xml at h
 split at h
 ·rename_i a a' b b' t2 t3 W t4 B
  split at h
  ·rename_i ht
   obtain ⟨rfl, rfl, rfl⟩ := ht
   simp only [oI, Prod.mk.injEq, decide_eq_true_eq] at h
   obtain ⟨rfl, rfl, rfl, rfl, rfl, f1, f2⟩ := h
   obtain ⟨r2, c2, t2, e2, d2, w2, g2, _⟩ := E.row 0 _ rfl rfl rfl
   obtain ⟨r3, c3, t3, e3, d3, w3, g3, _⟩ := E.row 1 _ rfl rfl rfl
   obtain ⟨r4, c4, t4, e4, d4, w4, g4, _⟩ := E.row 2 _ rfl rfl rfl
   obtain rfl := g2 rfl
   obtain rfl := g3 rfl
   obtain rfl := g4 rfl
   simp only [List.append_nil] at w2 w3 w4
   have n23 : r2.1 ≠ r3.1 := fun h => absurd (E.inj 0 1 _ _ _ _ rfl rfl e2 e3 h rfl rfl (.inl rfl)) (by decide)
   have n24 : r2.1 ≠ r4.1 := fun h => absurd (E.inj 0 2 _ _ _ _ rfl rfl e2 e4 h rfl rfl (.inl rfl)) (by decide)
   have n34 : r3.1 ≠ r4.1 := fun h => absurd (E.inj 1 2 _ _ _ _ rfl rfl e3 e4 h rfl rfl (.inl rfl)) (by decide)
   simp only [Blk.real, denL, den, e3, e4, Option.map_some, oI] at d2
   simp only [Blk.real, Tab.cells, yn, oI] at d3 d4
   subst d2 d3 d4
   exact ⟨r2, r3, r4, e2, ⟨w2, w3, w4, ⟨n23, n24, n34⟩, ⟨f1, f2⟩⟩⟩
  ·cases h
 ·cases h
theorem xeP {f : FuncId} {fn : Func} (hf : (Tryz.prog).funcs[f]? = some fn) (hname : (fn.name == "runtime.NumGoroutine") = false) (hbody : fn.body.isSome = true) {m : Sm}
  (h : ∀ args H S, m args H = some S -> ∃ (M : Mem) (ok g : Bool) (x : Int) (v : V) (rv : Value), args = [.c (.ptr 0 0), .c (.int .i64 x)] /\ xml H = some (M, ok) /\ S = mkS Unit (xE (ok && g)) (fun _ => some (v, H)) /\ (∀ e, denV NP.pv e v = some rv) /\ (g = true -> ∀ mm wb bb w, MemAt w mm wb bb M -> Calls Tryz.prog f #[.pointer (some ⟨mm, 0, none⟩), .int .i64 x] w (Yo w rv))) : SoundF NP f m := by
 obtain ⟨c, hc⟩ := Option.isSome_iff_exists.1 hbody
 refine ⟨⟨fn, c, hf, hname, hc⟩, fun args H S hS e w s F vs E hv hR hF x v H' s' hrun hfx => ?_⟩
 obtain ⟨M, ok, g, a, v', rv, rfl, hM, rfl, h1, h3⟩ := h args H S hS
 obtain ⟨hct, rfl⟩ := vd hrun
 rw [Bool.and_eq_true] at hct
 obtain ⟨rfl, rfl⟩ := hct
 simp only [oI, Prod.mk.injEq] at hfx
 obtain ⟨rfl, rfl⟩ := hfx
 obtain ⟨r0, r1, r2, e0, hMA⟩ := xo0 E hM
 simp only [allSome, denV, den, e0, Option.map_some, oI] at hv
 subst hv
 refine (h3 rfl _ _ _ w hMA |> fun hh => (show Calls Tryz.prog f _ w _ from hh)).mono ?_
 rintro en w' ⟨rfl, hb⟩
 refine ⟨e, F, rv, rfl, Ext.refl e, h1 e, E.ofSame fun b hb' => hb.block b (E.own_lt hb'), NP.stable hR fun b hb' => hb.block b (NP.lt hR b hb'), hF, ⟨hb.os, hb.tape, hb.output, hb.size, fun b hb' _ => hb.block b hb'⟩, fun q b hb' => ?_⟩
 rcases hb' with h | h
 ·exact .inl h
 ·exact .inr (.inl h)
def xjq : Sm := fun args H => match args, xml H with
 | [.c (.ptr 0 0), .c (.int .i64 x)], some (M, ok) => some (mkS Unit (xE (ok && true)) fun _ => some (.c (.int .u64 ((atI M.words x).getD 0)), H))
 | _, _ => none
def xjr : Sm := fun args H => match args, xml H with
 | [.c (.ptr 0 0), .c (.int .i64 x)], some (M, ok) => some (mkS Unit (xE (ok && decide (0 <= (atI M.bytes x).getD 0 /\ (atI M.bytes x).getD 0 <= 255))) fun _ => some (.c (.int .u8 ((atI M.bytes x).getD 0)), H))
 | _, _ => none
theorem xmm : SoundF NP 54 xjq := by
 refine xeP Tryz.func54 (by kernel_rfl) (by kernel_rfl) fun args H S hS => ?_
 unfold xjq at hS
 split at hS
 ·rename_i x M ok hM
  cases hS
  exact ⟨M, ok, true, x, _, _, rfl, hM, rfl, fun e => rfl, fun _ mm wb bb w hMA => xts x mm wb bb M w hMA⟩
 ·cases hS
theorem xmn : SoundF NP 34 xjr := by
 refine xeP Tryz.func34 (by kernel_rfl) (by kernel_rfl) fun args H S hS => ?_
 unfold xjr at hS
 split at hS
 ·rename_i x M ok hM
  cases hS
  exact ⟨M, ok, _, x, _, _, rfl, hM, rfl, fun e => rfl, fun hg mm wb bb w hMA => xtt x mm wb bb M w hMA (of_decide_eq_true hg)⟩
 ·cases hS
/-! ### a port's bytes -/
def xmo (p : POp) (s : DS) : Option (Bool × V × DS) := match p with
 | .put a b => some (decide (0 <= b /\ b <= 255), .tup [], { s with m := { s.m with bytes := putI s.m.bytes a b }, steps := i64.wrap (s.steps + 1) })
 | .get a => some (decide (0 <= (atI s.m.bytes a).getD 0 /\ (atI s.m.bytes a).getD 0 <= 255), .c (.int .u8 ((atI s.m.bytes a).getD 0)), { s with steps := i64.wrap (s.steps + 1) })
 | _ => none
theorem xtu {p : POp} {s s' : DS} {v : V} (h : xmo p s = some (true, v, s')) : ∃ x, ye p s = some (x, s') /\ ansV p x = v /\ kW v = true := by
 cases p with
 | put a b =>
  simp only [xmo, oI, Prod.mk.injEq, decide_eq_true_eq] at h
  obtain ⟨hb, rfl, rfl⟩ := h
  refine ⟨(), ?_, rfl, rfl⟩
  simp only [ye, dacc, acc, show ¬ (6 : Int) = 1 by decide, show ¬ (6 : Int) = 2 by decide, show ¬ (6 : Int) = 3 by decide, show ¬ (6 : Int) = 4 by decide, show ¬ (6 : Int) = 5 by decide, if_false, if_true, hb, and_self, Option.map_some]
 | get a =>
  simp only [xmo, oI, Prod.mk.injEq, decide_eq_true_eq] at h
  obtain ⟨hb, rfl, rfl⟩ := h
  refine ⟨(atI s.m.bytes a).getD 0, ?_, rfl, rfl⟩
  simp only [ye, dacc, acc, show ¬ (5 : Int) = 1 by decide, show ¬ (5 : Int) = 2 by decide, show ¬ (5 : Int) = 3 by decide, show ¬ (5 : Int) = 4 by decide, if_false, if_true]
  cases hx : atI s.m.bytes a with
  | none => rfl
  | some x => rw [hx] at hb; simp only [Option.getD_some] at hb |-; rw [if_pos hb]
 | _ => simp [xmo] at h
def viaB (name : String) : Sm := fun args H => match args with
 | .c (.ptr 0 0) :: rest => if rest.all kW = true then
   match xpP H, popOf name rest with
   | some (s, ok, _), some p => match xmo p s with
    | some (g, v, s') => match qE H.length s' with
     | some H1 => some (mkS Unit (xE (ok && g)) fun _ => some (v, H1))
     | none => none
    | none => none
   | _, _ => none
  else none
 | _ => none
theorem xeQ {f : FuncId} {name : String} (hs : SoundF NP f (viaM name)) : SoundF NP f (viaB name) := by
 refine ⟨hs.1, ?_⟩
 intro args H S hS e w s0 F vs E hv hR hF x v H' s' hrun hfx
 unfold viaB at hS
 split at hS
 ·rename_i rest
  split at hS
  ·rename_i hflat
   split at hS
   ·rename_i s ok td p hrd hp
    split at hS
    ·rename_i g v1 s1 hst
     split at hS
     ·rename_i H1 hwr
      cases hS
      obtain ⟨hct, rfl⟩ := vd hrun
      rw [Bool.and_eq_true] at hct
      obtain ⟨rfl, rfl⟩ := hct
      simp only [oI, Prod.mk.injEq] at hfx
      obtain ⟨rfl, rfl⟩ := hfx
      obtain ⟨hrd', _⟩ := xmr hrd
      obtain ⟨y, h1, h2, h3⟩ := xtu hst
      have hS' : viaM name (.c (.ptr 0 0) :: rest) H = some (mkS Unit (.ret ()) fun _ => some (v1, H1)) := by
       unfold viaM
       simp only
       rw [if_pos hflat, hrd', hp]
       simp only
       rw [h1]
       simp only [h2, h3, hwr]
      exact hs.2 _ _ _ hS' e w _ F vs E hv hR hF () v1 H1 _ rfl rfl
     ·cases hS
    ·cases hS
   ·cases hS
  ·cases hS
 ·cases hS
theorem s_putS : SoundF NP 31 (viaB "Put") := xeQ (yA ⟨_, _, Tryz.func31, by kernel_rfl, rfl⟩ xdj)
theorem s_getS : SoundF NP 32 (viaB "Get") := xeQ (yA ⟨_, _, Tryz.func32, by kernel_rfl, rfl⟩ xdi)
end Go.Proofs.YtaegelbaghaooaaGreat
