/- Part. -/
import Derived.Test.YtaegelbaghaooaaGreatCrM13
import Derived.Lib.Walk
import Derived.Lib.SliceRun
import Derived.Test.YtaegelbaghaooaaGreatCrM12
set_option linter.all false
open Go.IntKind (i64 u64 u32 u8)
set_option maxRecDepth 1000000
namespace Go.Proofs.YtaegelbaghaooaaGreat
section
open Go.RowKit Lx
def oz (o : Option Int) : Int := o.getD 0
def xcY (w : World) (v : Value) (e : Ending) (w' : World) : Prop := e = .returned v /\ Below w.heap.size w w'
theorem xv6 {w w' : World} {mm wb bb : Nat} {M : Mem} (h : MemAt w mm wb bb M) (h' : MemAt w' mm wb bb M) (hk : Keeps (fun b => b = wb \/ b = bb) w w') : Below w.heap.size w w' :=
 ⟨hk.os, hk.tape, hk.output, hk.size, fun b hb => by
  by_cases h1 : b = wb
  ·subst h1; rw [h'.words, h.words]
  ·by_cases h2 : b = bb
   ·subst h2; rw [h'.bytes, h.bytes]
   ·exact hk.block b hb (by rintro (h | h); exact h1 h; exact h2 h)⟩
theorem xv7 (at_ : Int) (mm wb bb : Nat) (M : Mem) (w : World) (h : MemAt w mm wb bb M) (hx : 0 <= (atI M.bytes at_).getD 0 /\ (atI M.bytes at_).getD 0 <= 255) :
  Calls Tryz.prog 34 #[.pointer (some ⟨mm, 0, none⟩), .int .i64 at_] w (xcY w (.int .u8 ((atI M.bytes at_).getD 0))) := by
 have hs : acc 5 at_ 0 0 M = some ((atI M.bytes at_).getD 0, M) := by
  simp only [acc, show ¬ (5 : Int) = 1 by decide, show ¬ (5 : Int) = 2 by decide, show ¬ (5 : Int) = 3 by decide, show ¬ (5 : Int) = 4 by decide, if_false, if_true]
  cases hb : atI M.bytes at_ with
  | none => rfl
  | some x => rw [hb] at hx; simp only [Option.getD_some] at hx |-; rw [if_pos hx]
 have HM := Lib.hid h
 have HS := Lib.hid hs
 have HW := Lib.hid (show (( atI M.bytes at_).getD 0) % 256 = (atI M.bytes at_).getD 0 by omega)
 clear h hs hx
 generalize (atI M.bytes at_).getD 0 = x at *
 go_enter Tryz.func34, Tryz.ntmps34
 go_wp2_with (go_at_call 106; refine (xwK 5 at_ 0 0 mm wb bb M M _ _ HM.out HS.out).mono ?_; rintro e1 w1 ⟨⟨ok, rfl⟩, hM1, hk1⟩; have HB1 := Lib.hid (xv6 HM.out hM1 hk1); clear hM1 hk1)
 go_ret
 have e := HW.out
 refine ⟨?_, HB1.out⟩
 simp only [e]
 rfl
def xsI (H : Heap) : Option (Mem × Bool) := match H with
 | [some ⟨[.sl 1 0 a a', .sl 2 0 b b'], t2, false, none⟩, some ⟨[], t3, false, some (.col .u64 W)⟩, some ⟨[], t4, false, some (.col .u8 B)⟩] =>
  if t2 = 188 /\ t3 = 34 /\ t4 = 5 then some (⟨W, B⟩, decide (a' = a /\ b' = b /\ W.length = a /\ B.length = b /\ a <= 1000000 /\ b <= 1000000)) else none
 | _ => none
theorem xqB {e : Env} {H : Heap} {w : World} {M : Mem} (E : Emb NP.pv e H w) (h : xsI H = some (M, true)) : ∃ r0 r1 r2 : Nat × Nat, e[0]? = some r0 /\ MemAt w r0.1 r1.1 r2.1 M := by
 unfold xsI at h
 split at h
 ·rename_i a a' b b' t2 t3 W t4 B
  split at h
  ·rename_i ht
   obtain ⟨rfl, rfl, rfl⟩ := ht
   simp only [oI, Prod.mk.injEq, dT] at h
   obtain ⟨rfl, rfl, rfl, rfl, rfl, f1, f2⟩ := h
   obtain ⟨r2, c2, t2, e2, d2, w2, g2, _⟩ := E.row 0 _ rfl rfl rfl
   obtain ⟨r3, c3, t3, e3, d3, w3, g3, _⟩ := E.row 1 _ rfl rfl rfl
   obtain ⟨r4, c4, t4, e4, d4, w4, g4, _⟩ := E.row 2 _ rfl rfl rfl
   obtain rfl := g2 rfl
   obtain rfl := g3 rfl
   obtain rfl := g4 rfl
   simp only [List.append_nil] at w2 w3 w4
   have n23 : r2.1 ≠ r3.1 := fun h => absurd (E.inj 0 1 _ _ _ _ rfl rfl e2 e3 h rfl rfl (.inl rfl)) (by decide)
   have n24 : r2.1 ≠ r4.1 := fun h => absurd (E.inj 0 2 _ _ _ _ rfl rfl e2 e4 h rfl rfl (.inl rfl)) (by decide)
   have n34 : r3.1 ≠ r4.1 := fun h => absurd (E.inj 1 2 _ _ _ _ rfl rfl e3 e4 h rfl rfl (.inl rfl)) (by decide)
   simp only [Blk.real, denL, den, e3, e4, Option.map_some, oI] at d2
   simp only [Blk.real, Tab.cells, yu, oI] at d3 d4
   subst d2 d3 d4
   exact ⟨r2, r3, r4, e2, ⟨w2, w3, w4, ⟨n23, n24, n34⟩, ⟨f1, f2⟩⟩⟩
  ·cases h
 ·cases h
theorem xqC {f : FuncId} {fn : Func} (hf : (Tryz.prog).funcs[f]? = some fn) (hname : (fn.name == "runtime.NumGoroutine") = false) (hbody : fn.body.isSome = true) {m : Sm}
  (h : ∀ args H S, m args H = some S -> ∃ (M : Mem) (ok g : Bool) (x : Int) (v : V) (rv : Value), args = [.c (.ptr 0 0), .c (.int .i64 x)] /\ xsI H = some (M, ok) /\ S = mkS Unit (xN (ok && g)) (fun _ => some (v, H)) /\ (∀ e, denV NP.pv e v = some rv) /\ (g = true -> ∀ mm wb bb w, MemAt w mm wb bb M -> Calls Tryz.prog f #[.pointer (some ⟨mm, 0, none⟩), .int .i64 x] w (xcY w rv))) : SoundF NP f m := by
 obtain ⟨c, hc⟩ := Option.isSome_iff_exists.1 hbody
 refine ⟨⟨fn, c, hf, hname, hc⟩, fun args H S hS e w s F vs E hv hR hF x v H' s' hrun hfx => ?_⟩
 obtain ⟨M, ok, g, a, v', rv, rfl, hM, rfl, h1, h3⟩ := h args H S hS
 obtain ⟨hct, rfl⟩ := vh hrun
 rw [Bool.and_eq_true] at hct
 obtain ⟨rfl, rfl⟩ := hct
 simp only [oI, Prod.mk.injEq] at hfx
 obtain ⟨rfl, rfl⟩ := hfx
 obtain ⟨r0, r1, r2, e0, hMA⟩ := xqB E hM
 simp only [allSome, denV, den, e0, Option.map_some, oI] at hv
 subst hv
 refine (h3 rfl _ _ _ w hMA |> fun hh => (show Calls Tryz.prog f _ w _ from hh)).mono ?_
 rintro en w' ⟨rfl, hb⟩
 refine ⟨e, F, rv, rfl, Ext.refl e, h1 e, E.ofSame fun b hb' => hb.block b (E.own_lt hb'), NP.stable hR fun b hb' => hb.block b (NP.lt hR b hb'), hF, ⟨hb.os, hb.tape, hb.output, hb.size, fun b hb' _ => hb.block b hb'⟩, fun q b hb' => ?_⟩
 rcases hb' with h | h
 ·exact .inl h
 ·exact .inr (.inl h)
def xkh : Sm := fun args H => match args, xsI H with
 | [.c (.ptr 0 0), .c (.int .i64 x)], some (M, ok) => some (mkS Unit (xN (ok && decide (0 <= (atI M.bytes x).getD 0 /\ (atI M.bytes x).getD 0 <= 255))) fun _ => some (.c (.int .u8 ((atI M.bytes x).getD 0)), H))
 | _, _ => none
theorem xna : SoundF NP 34 xkh := by
 refine xqC Tryz.func34 (by kernel_rfl) (by kernel_rfl) fun args H S hS => ?_
 unfold xkh at hS
 split at hS
 ·rename_i x M ok hM
  cases hS
  exact ⟨M, ok, _, x, _, _, rfl, hM, rfl, fun e => rfl, fun hg mm wb bb w hMA => xv7 x mm wb bb M w hMA (of_decide_eq_true hg)⟩
 ·cases hS
/-! ### a port's bytes -/
def xnb (p : POp) (s : DS) : Option (Bool × V × DS) := match p with
 | .put a b => some (decide (0 <= b /\ b <= 255), .tup [], { s with m := { s.m with bytes := putI s.m.bytes a b }, steps := i64.wrap (s.steps + 1) })
 | .get a => some (decide (0 <= (atI s.m.bytes a).getD 0 /\ (atI s.m.bytes a).getD 0 <= 255), .c (.int .u8 ((atI s.m.bytes a).getD 0)), { s with steps := i64.wrap (s.steps + 1) })
 | _ => none
theorem xv8 {p : POp} {s s' : DS} {v : V} (h : xnb p s = some (true, v, s')) : ∃ x, xZ p s = some (x, s') /\ ansV p x = v /\ jn v = true := by
 cases p with
 | put a b =>
  simp only [xnb, oI, Prod.mk.injEq, dT] at h
  obtain ⟨hb, rfl, rfl⟩ := h
  refine ⟨(), ?_, rfl, rfl⟩
  simp only [xZ, dacc, acc, show ¬ (6 : Int) = 1 by decide, show ¬ (6 : Int) = 2 by decide, show ¬ (6 : Int) = 3 by decide, show ¬ (6 : Int) = 4 by decide, show ¬ (6 : Int) = 5 by decide, if_false, if_true, hb, and_self, Option.map_some]
 | get a =>
  simp only [xnb, oI, Prod.mk.injEq, dT] at h
  obtain ⟨hb, rfl, rfl⟩ := h
  refine ⟨(atI s.m.bytes a).getD 0, ?_, rfl, rfl⟩
  simp only [xZ, dacc, acc, show ¬ (5 : Int) = 1 by decide, show ¬ (5 : Int) = 2 by decide, show ¬ (5 : Int) = 3 by decide, show ¬ (5 : Int) = 4 by decide, if_false, if_true]
  cases hx : atI s.m.bytes a with
  | none => rfl
  | some x => rw [hx] at hb; simp only [Option.getD_some] at hb |-; rw [if_pos hb]
 | _ => simp [xnb] at h
def viaB (name : String) : Sm := fun args H => match args with
 | .c (.ptr 0 0) :: rest => if rest.all jn = true then
   match xsB H, popOf name rest with
   | some (s, ok, _), some p => match xnb p s with
    | some (g, v, s') => match qM H.length s' with
     | some H1 => some (mkS Unit (xN (ok && g)) fun _ => some (v, H1))
     | none => none
    | none => none
   | _, _ => none
  else none
 | _ => none
theorem xeH {f : FuncId} {name : String} (hs : SoundF NP f (viaM name)) : SoundF NP f (viaB name) := by
 refine ⟨hs.1, ?_⟩
 intro args H S hS e w s0 F vs E hv hR hF x v H' s' hrun hfx
 unfold viaB at hS
 split at hS
 ·rename_i rest
  split at hS
  ·rename_i hflat
   split at hS
   ·rename_i s ok td p hrd hp
    split at hS
    ·rename_i g v1 s1 hst
     split at hS
     ·rename_i H1 hwr
      cases hS
      obtain ⟨hct, rfl⟩ := vh hrun
      rw [Bool.and_eq_true] at hct
      obtain ⟨rfl, rfl⟩ := hct
      simp only [oI, Prod.mk.injEq] at hfx
      obtain ⟨rfl, rfl⟩ := hfx
      obtain ⟨hrd', _⟩ := xm6 hrd
      obtain ⟨y, h1, h2, h3⟩ := xv8 hst
      have hS' : viaM name (.c (.ptr 0 0) :: rest) H = some (mkS Unit (.ret ()) fun _ => some (v1, H1)) := by
       unfold viaM
       simp only
       rw [if_pos hflat, hrd', hp]
       simp only
       rw [h1]
       simp only [h2, h3, hwr]
      exact hs.2 _ _ _ hS' e w _ F vs E hv hR hF () v1 H1 _ rfl rfl
     ·cases hS
    ·cases hS
   ·cases hS
  ·cases hS
 ·cases hS
theorem s_putS : SoundF NP 31 (viaB "Put") := xeH (yy ⟨_, _, Tryz.func31, by kernel_rfl, rfl⟩ xfB)
theorem s_getS : SoundF NP 32 (viaB "Get") := xeH (yy ⟨_, _, Tryz.func32, by kernel_rfl, rfl⟩ xfA)
end
section
open Go.Shelf Go.RowKit Go.Lib Lx
def xqD (w : World) (e : TypeId) (n : Nat) (xs : List Value) (en : Ending) (w' : World) : Prop := ∃ v', en = .returned v' /\ w'.ownsRow w.heap.size e 1 v' n xs /\ v' ≠ .slice none 0 0 /\ Below w.heap.size w w'
theorem xnc (b n c : Nat) (news : List Value) (w : World) (hl : news.length = n) (hn : n <= 1000000)
  (hc : ∀ j u, news[j]? = some u -> w.cell? ⟨b, 0 + j, none⟩ = some u) (h1 : ∀ u ∈ news, u.oneCell' = true) :
  Calls Tryz.prog 122 #[.slice (some ⟨b, 0, none⟩) n c] w (xqD w 34 n news) := by
 obtain ⟨i0, hi, hz0, hz1, hz2⟩ := xdf (t := 34) (n := 1) (b := 8) (z := .int .u64 0) (by kernel_rfl) (by kernel_rfl)
 have q22 : ∀ (w : World) (a : Option Addr) (n c n' c' : Nat), (binOp .eql 185 (.slice a n c) (.slice none n' c')).run Tryz.prog w = .ok (.bool a.isNone) w := fun w a n c n' c' => Lib.run_eql_slice_nil w _ _ a n c n' c' Tryz.underlying185
 have A := Lib.hid hc
 have hl' : news.length = n * 1 := by omega
 have hbig : n * 8 <= 140737488355328 := by omega
 have hmax : n <= maxLen := by unfold maxLen; omega
 clear hc
 go_enter Tryz.func122, Tryz.ntmps122
 go_wp2_with (at_builtin; refine wpList_append_own _ rfl _ _ 185 rfl w.heap.size 34 i0 (.int .u64 0) 1 8 Tryz.underlying185 hi hz0 hz1 hz2 rfl (by omega) _ _ _ rfl (World.ownsRow_made w #[] 0 (Nat.le_refl _) (Nat.zero_le _) (by simp)) ⟨b, 0, none⟩ n c news rfl ?qc1 ?qc2 ?qc3 ?qc4 ?qc5 ?qc6 ?_)
 case qc1 => exact hl'
 case qc2 =>
  intro j u hj
  rw [Addr.add_lit]
  exact Lib.cell?_alloc_some _ (A.out j u hj)
 case qc3 => exact h1
 case qc4 => rw [Nat.zero_add]; exact hmax
 case qc5 => rw [Nat.zero_add]; exact hbig
 case qc6 => simp
 intro v' w1 hown hgrow hnil
 go_wp2
 go_ret
 refine ⟨v', rfl, by simpa using hown, ?_, ?_⟩
 ·exact hnil
 ·exact ((Below.refl _ w).alloc (Nat.le_refl _) _).grown hgrow (by simp) (by intro k hk; simp [Value.ownBlock] at hk; omega)
theorem xnd (b n c : Nat) (news : List Value) (w : World) (hl : news.length = n) (hn : n <= 1000000)
  (hc : ∀ j u, news[j]? = some u -> w.cell? ⟨b, 0 + j, none⟩ = some u) (h1 : ∀ u ∈ news, u.oneCell' = true) :
  Calls Tryz.prog 123 #[.slice (some ⟨b, 0, none⟩) n c] w (xqD w 5 n news) := by
 obtain ⟨i0, hi, hz0, hz1, hz2⟩ := xdf (t := 5) (n := 1) (b := 1) (z := .int .u8 0) (by kernel_rfl) (by kernel_rfl)
 have q22 : ∀ (w : World) (a : Option Addr) (n c n' c' : Nat), (binOp .eql 52 (.slice a n c) (.slice none n' c')).run Tryz.prog w = .ok (.bool a.isNone) w := fun w a n c n' c' => Lib.run_eql_slice_nil w _ _ a n c n' c' Tryz.underlying52
 have A := Lib.hid hc
 have hl' : news.length = n * 1 := by omega
 have hbig : n * 1 <= 140737488355328 := by omega
 have hmax : n <= maxLen := by unfold maxLen; omega
 clear hc
 go_enter Tryz.func123, Tryz.ntmps123
 go_wp2_with (at_builtin; refine wpList_append_own _ rfl _ _ 52 rfl w.heap.size 5 i0 (.int .u8 0) 1 1 Tryz.underlying52 hi hz0 hz1 hz2 rfl (by omega) _ _ _ rfl (World.ownsRow_made w #[] 0 (Nat.le_refl _) (Nat.zero_le _) (by simp)) ⟨b, 0, none⟩ n c news rfl ?qc1 ?qc2 ?qc3 ?qc4 ?qc5 ?qc6 ?_)
 case qc1 => exact hl'
 case qc2 =>
  intro j u hj
  rw [Addr.add_lit]
  exact Lib.cell?_alloc_some _ (A.out j u hj)
 case qc3 => exact h1
 case qc4 => rw [Nat.zero_add]; exact hmax
 case qc5 => rw [Nat.zero_add]; exact hbig
 case qc6 => simp
 intro v' w1 hown hgrow hnil
 go_wp2
 go_ret
 refine ⟨v', rfl, by simpa using hown, ?_, ?_⟩
 ·exact hnil
 ·exact ((Below.refl _ w).alloc (Nat.le_refl _) _).grown hgrow (by simp) (by intro k hk; simp [Value.ownBlock] at hk; omega)
end
section
open Go.RowKit Lx
theorem xeI {σ : Type} {I : Port Tryz.prog σ} {l k : List (Nat × Sm)} (h : SoundL I l) (h' : SoundL I k) : SoundL I (l ++ k) := fun f m hm => (List.mem_append.1 hm).elim (h f m) (h' f m)
noncomputable def kz0m : List (Nat × Sm) := (31, viaB "Put") :: (32, viaB "Get") :: (34, xkh) :: (Lx.kr1 ++ kv5)
theorem s_kz0m : SoundL NP kz0m := (.cons s_putS (.cons s_getS (.cons xna (xeI Lx.s_kr1 s_kv5))))
end
namespace Lx
variable {β : Type} (g : Geo)
open Go
noncomputable def kh1 : List (Nat × Sm) := kz0m
theorem s_kh1 : SoundL NP kh1 := s_kz0m
end Lx
section
open Go.RowKit Lx
def xki (t : TypeId) (k : IntKind) : Sm := fun
 | [.c (.sl 0 0 n n')], [some ⟨[], t', false, some (.col k' W)⟩] => if t' = t /\ k' = k then some (mkS Unit (xN (decide (n' = n /\ W.length = n /\ 0 < n /\ n <= 1000000))) fun _ => some (.c (.slr 1 n), [some ⟨[], t, false, some (.col k W)⟩, some ⟨[], t, true, some (.col k W)⟩])) else none
 | _, _ => none
theorem xbN {f : FuncId} {fn : Func} (hf : (Tryz.prog).funcs[f]? = some fn) (hname : (fn.name == "runtime.NumGoroutine") = false) (hbody : fn.body.isSome = true) {t : TypeId} {k : IntKind}
  (hC : ∀ (b n c : Nat) (news : List Value) (w : World), news.length = n -> n <= 1000000 -> (∀ j u, news[j]? = some u -> w.cell? ⟨b, 0 + j, none⟩ = some u) -> (∀ u ∈ news, u.oneCell' = true) -> Calls Tryz.prog f #[.slice (some ⟨b, 0, none⟩) n c] w (xqD w t n news)) : SoundF NP f (xki t k) := by
 obtain ⟨c, hc⟩ := Option.isSome_iff_exists.1 hbody
 refine ⟨⟨fn, c, hf, hname, hc⟩, fun args H S hS e w s F vs E hv hR hF x v H' s' hrun hfx => ?_⟩
 unfold xki at hS
 split at hS
 ·rename_i n n' t' k' W
  split at hS
  ·rename_i ht
   obtain ⟨rfl, rfl⟩ := ht
   cases hS
   obtain ⟨hg, rfl⟩ := vh hrun
   rw [dT] at hg
   obtain ⟨rfl, hl, hn0, hn⟩ := hg
   simp only [oI, Prod.mk.injEq] at hfx
   obtain ⟨rfl, rfl⟩ := hfx
   obtain ⟨r, cs, tl, e0, d0, w0, g0, _⟩ := E.row 0 _ rfl rfl rfl
   obtain rfl := g0 rfl
   simp only [List.append_nil] at w0
   simp only [Blk.real, Tab.cells, yu, oI] at d0
   subst d0
   have he : e = [r] := by
    have h1 := E.len
    match e, h1, e0 with
    | [y], _, h => simp only [List.getElem?_cons_zero, oI] at h; rw [h]
   subst he
   simp only [allSome, denV, den, List.getElem?_cons_zero, Option.map_some, oI] at hv
   subst hv
   have hlt : r.1 < w.heap.size := (Array.getElem?_eq_some_iff.1 w0).1
   refine (hC r.1 n' n' (W.map (Value.int k')) w (by simpa using hl) hn (fun j u hj => ?_) (fun u hu => ?_)).mono ?_
   ·rw [Nat.zero_add]
    simp only [World.cell?, w0]
    simpa using hj
   ·obtain ⟨y, _, rfl⟩ := List.mem_map.1 hu; rfl
   rintro en w' ⟨v', rfl, hown, hne, hb⟩
   obtain ⟨_, ⟨rfl, h0⟩ | ⟨g, cap, cur, rfl, hg1, hg2, hg3, hg4, hg5, hg6⟩⟩ := hown
   ·omega
   rw [Nat.mul_one] at hg5 hg6
   have hcur : cur = ((W.map (Value.int k')) ++ cur.toList.drop n').toArray := by
    rw [<- hg6, List.take_append_drop]
   have hsame : w'.heap[r.1]? = w.heap[r.1]? := hb.block r.1 hlt
   have hrow : ∀ i b, blkAt [some ⟨[], t', false, some (.col k' W)⟩, some ⟨[], t', true, some (.col k' W)⟩] i = some b -> (i = 0 /\ b = ⟨[], t', false, some (.col k' W)⟩) \/ (i = 1 /\ b = ⟨[], t', true, some (.col k' W)⟩) := by
    intro i b h
    match i with
    | 0 => cases h; exact .inl ⟨rfl, rfl⟩
    | 1 => cases h; exact .inr ⟨rfl, rfl⟩
    | i + 2 => simp [blkAt] at h
   refine ⟨[r, (g, cap)], F, _, rfl, ⟨[(g, cap)], rfl⟩, ?_, ⟨rfl, fun i b hb' => ?_, fun i j b b' q q' h1 h2 h3 h4 h5 _ _ => .inl ?_, fun i b hb' => by rcases hrow i b hb' with ⟨_, rfl⟩ | ⟨_, rfl⟩ <;> exact fun t ht => by first | rfl | cases ht⟩, NP.stable hR fun b hb' => hb.block b (NP.lt hR b hb'), ?_, ⟨hb.os, hb.tape, hb.output, hb.size, fun b hb' _ => hb.block b hb'⟩, ?_⟩
   ·show (if n' = 0 then some (Value.slice none 0 0) else if n' <= cap then some (Value.slice (some ⟨g, 0, none⟩) n' cap) else none) = _
    rw [if_neg (by omega), if_pos hg3]
   ·rcases hrow i b hb' with ⟨rfl, rfl⟩ | ⟨rfl, rfl⟩
    ·exact ⟨r, _, rfl, yu _ _ _ _, Lies.mk (tl := []) rfl (by rw [hsame, w0]; simp) (fun _ => rfl) (fun h => by cases h)⟩
    ·refine ⟨(g, cap), _, rfl, yu _ _ _ _, Lies.mk (tl := cur.toList.drop n') rfl (by rw [hg2]; exact congrArg (fun c => some (Obj.cells c t' (0, 0))) hcur) (fun h => by cases h) (fun _ => ⟨?_, hg4⟩)⟩
     show (W.map (Value.int k') ++ cur.toList.drop n').length = cap * 1
     have := congrArg Array.size hcur
     simp only [List.size_toArray] at this
     rw [<- this, hg5, Nat.mul_one]
   ·have a1 : i < 2 := by rcases hrow i b h1 with ⟨h, _⟩ | ⟨h, _⟩ <;> omega
    have a2 : j < 2 := by rcases hrow j b' h2 with ⟨h, _⟩ | ⟨h, _⟩ <;> omega
    have hi : ∀ i q, i < 2 -> [r, (g, cap)][i]? = some q -> q.1 = if i = 0 then r.1 else g := by
     intro i q hlt hq
     match i, hlt with
     | 0, _ => cases hq; rfl
     | 1, _ => cases hq; rfl
    rw [hi i q a1 h3, hi j q' a2 h4] at h5
    repeat' split at h5
    all_goals omega
   ·rintro b ⟨i, k0, y, h1, h2, rfl, _⟩ hFb
    rcases hrow i k0 h1 with ⟨rfl, rfl⟩ | ⟨rfl, rfl⟩
    ·cases h2
     exact hF _ ⟨0, _, r, rfl, rfl, rfl, rfl, fun h => by cases h⟩ hFb
    ·cases h2
     have := NP.lt hR _ hFb
     simp only at this hg1; omega
   ·rintro q b (⟨i, k0, y, h1, h2, rfl, hv0, hw0⟩ | h)
    ·rcases hrow i k0 h1 with ⟨rfl, rfl⟩ | ⟨rfl, rfl⟩
     ·cases h2
      exact .inl ⟨0, _, r, rfl, rfl, rfl, rfl, fun _ => rfl⟩
     ·cases h2
      exact .inr (.inr hg1)
    ·exact .inr (.inl h)
  ·cases hS
 ·cases hS
structure MemG (w : World) (mm wb bb cw cb : Nat) (M : Mem) : Prop where
 c0 : w.cell? ⟨mm, 0, none⟩ = some (.slice (some ⟨wb, 0, none⟩) M.words.length cw)
 c1 : w.cell? ⟨mm, 1, none⟩ = some (.slice (some ⟨bb, 0, none⟩) M.bytes.length cb)
 lt : mm < w.heap.size
 ws : ∃ tl, w.heap[wb]? = some (.cells (M.words.map (Value.int .u64) ++ tl).toArray 34 (0, 0))
 bs : ∃ tl, w.heap[bb]? = some (.cells (M.bytes.map (Value.int .u8) ++ tl).toArray 5 (0, 0))
 few : M.words.length <= 1000000 /\ M.bytes.length <= 1000000
def LookD (w : World) (x : Int) (e : Ending) (w' : World) : Prop := (∃ ok, e = .returned (.tuple #[.int .u64 x, .bool ok])) /\ Below w.heap.size w w'
theorem xv9 {w : World} {b i : Nat} {l tl : List Value} {t : TypeId} {v : Value} (h : w.heap[b]? = some (.cells (l ++ tl).toArray t (0, 0))) (hv : l[i]? = some v) : w.cell? ⟨b, i, none⟩ = some v := by
 have hi := (List.getElem?_eq_some_iff.1 hv).1
 rw [cell_of h]
 simp [List.getElem?_append_left hi, hv]
theorem doG_get {w : World} {mm wb bb cw cb : Nat} {M : Mem} (h : MemG w mm wb bb cw cb M) (at_ : Int) (hr : 0 <= (atI M.bytes at_).getD 0 /\ (atI M.bytes at_).getD 0 <= 255) : Calls Tryz.prog 106 #[.pointer (some ⟨mm, 0, none⟩), .agg #[.int .u8 5, .int .i64 at_, .int .u64 0, .int .u64 0]] w (LookD w ((atI M.bytes at_).getD 0)) := by
 obtain ⟨tl, hbs⟩ := h.bs
 have hbb := xP hbs
 cases at_ with
 | negSucc m => exact (xhY mm bb _ _ _ 0 0 w h.c1 h.lt h.few.2 (by omega)).mono fun e w' hd => ⟨⟨false, hd.1⟩, hd.2⟩
 | ofNat i =>
  cases hx : M.bytes[i]? with
  | none =>
   have hx' := hx
   rw [List.getElem?_eq_none_iff] at hx'
   have e0 : (atI M.bytes (Int.ofNat i)).getD 0 = 0 := by show (M.bytes[i]?).getD 0 = 0; rw [hx]; rfl
   rw [e0]
   exact (xhZ mm bb _ _ _ 0 0 w h.c1 h.lt h.few.2 (by show (0 : Int) <= (i : Int); omega) (by show (M.bytes.length : Int) <= (i : Int); omega)).mono fun e w' hd => ⟨⟨false, hd.1⟩, hd.2⟩
  | some x =>
   have e0 : (atI M.bytes (Int.ofNat i)).getD 0 = x := by show (M.bytes[i]?).getD 0 = x; rw [hx]; rfl
   rw [e0] at hr |-
   have hi := (List.getElem?_eq_some_iff.1 hx).1
   have hcx := xv9 (v := .int .u8 x) hbs (i := i) (by rw [List.getElem?_map, hx]; rfl)
   exact (xwH mm bb _ _ i x 0 0 w h.c1 hcx hi h.lt hbb h.few.2 hr.1 hr.2).mono fun e w' hd => ⟨⟨true, hd.1⟩, hd.2⟩
theorem xt5 {w : World} {mm wb bb cw cb : Nat} {M : Mem} (h : MemG w mm wb bb cw cb M) (at_ : Int) (hx : 0 <= (atI M.bytes at_).getD 0 /\ (atI M.bytes at_).getD 0 <= 255) :
  Calls Tryz.prog 34 #[.pointer (some ⟨mm, 0, none⟩), .int .i64 at_] w (xcY w (.int .u8 ((atI M.bytes at_).getD 0))) := by
 have HS := Lib.hid (doG_get h at_ hx)
 have HW := Lib.hid (show ((atI M.bytes at_).getD 0) % 256 = (atI M.bytes at_).getD 0 by omega)
 clear h hx
 generalize (atI M.bytes at_).getD 0 = x at *
 go_enter Tryz.func34, Tryz.ntmps34
 go_wp2_with (go_at_call 106; refine HS.out.mono ?_; rintro e1 w1 ⟨⟨ok, rfl⟩, hb1⟩; have HB1 := Lib.hid hb1; clear hb1)
 go_ret
 have e := HW.out
 refine ⟨?_, HB1.out⟩
 simp only [e]
 rfl
def xsJ (H : Heap) : Option (Mem × Bool) := match H with
 | [some ⟨[.slr 1 a, .slr 2 b], t2, false, none⟩, some ⟨[], t3, true, some (.col .u64 W)⟩, some ⟨[], t4, true, some (.col .u8 B)⟩] =>
  if t2 = 188 /\ t3 = 34 /\ t4 = 5 then some (⟨W, B⟩, decide (W.length = a /\ B.length = b /\ 0 < a /\ 0 < b /\ a <= 1000000 /\ b <= 1000000)) else none
 | _ => none
theorem xne {e : Env} {H : Heap} {w : World} {M : Mem} (E : Emb NP.pv e H w) (h : xsJ H = some (M, true)) : ∃ (r0 r1 r2 : Nat × Nat) (cw cb : Nat), e[0]? = some r0 /\ MemG w r0.1 r1.1 r2.1 cw cb M := by
 unfold xsJ at h
 split at h
 ·rename_i a b t2 t3 W t4 B
  split at h
  ·rename_i ht
   obtain ⟨rfl, rfl, rfl⟩ := ht
   simp only [oI, Prod.mk.injEq, dT] at h
   obtain ⟨rfl, rfl, rfl, p1, p2, f1, f2⟩ := h
   obtain ⟨r2, c2, t2, e2, d2, w2, g2, _⟩ := E.row 0 _ rfl rfl rfl
   have v3 : (Blk.mk [] 34 true (some (.col .u64 W))).virt = false := by
    cases W with
    | nil => exact absurd p1 (by simp)
    | cons x W => rfl
   have v4 : (Blk.mk [] 5 true (some (.col .u8 B))).virt = false := by
    cases B with
    | nil => exact absurd p2 (by simp)
    | cons x B => rfl
   obtain ⟨r3, c3, t3, e3, d3, w3, _, g3⟩ := E.row 1 _ rfl rfl v3
   obtain ⟨r4, c4, t4, e4, d4, w4, _, g4⟩ := E.row 2 _ rfl rfl v4
   obtain rfl := g2 rfl
   simp only [List.append_nil] at w2
   simp only [Blk.real, Tab.cells, yu, oI] at d3 d4
   subst d3 d4
   have k3 := (g3 rfl).1
   have k4 := (g4 rfl).1
   have q3 : W.length <= r3.2 := by have : (Blk.mk [] 34 true (some (.col .u64 W))).wid = 1 := rfl; rw [this] at k3; simp at k3; omega
   have q4 : B.length <= r4.2 := by have : (Blk.mk [] 5 true (some (.col .u8 B))).wid = 1 := rfl; rw [this] at k4; simp at k4; omega
   have d2' : some c2 = some [Value.slice (some ⟨r3.1, 0, none⟩) W.length r3.2, Value.slice (some ⟨r4.1, 0, none⟩) B.length r4.2] := by
    rw [<- d2]
    simp only [Blk.real, denL, den, e3, e4, Option.bind_some]
    rw [if_neg (by omega), if_pos q3, if_neg (by omega), if_pos q4]
   cases d2'
   exact ⟨r2, r3, r4, r3.2, r4.2, e2, ⟨by rw [cell_of w2]; rfl, by rw [cell_of w2]; rfl, xP w2, ⟨_, w3⟩, ⟨_, w4⟩, ⟨f1, f2⟩⟩⟩
  ·cases h
 ·cases h
theorem xnf {f : FuncId} {fn : Func} (hf : (Tryz.prog).funcs[f]? = some fn) (hname : (fn.name == "runtime.NumGoroutine") = false) (hbody : fn.body.isSome = true) {m : Sm}
  (h : ∀ args H S, m args H = some S -> ∃ (M : Mem) (ok g : Bool) (x : Int) (v : V) (rv : Value), args = [.c (.ptr 0 0), .c (.int .i64 x)] /\ xsJ H = some (M, ok) /\ S = mkS Unit (xN (ok && g)) (fun _ => some (v, H)) /\ (∀ e, denV NP.pv e v = some rv) /\ (g = true -> ∀ mm wb bb cw cb w, MemG w mm wb bb cw cb M -> Calls Tryz.prog f #[.pointer (some ⟨mm, 0, none⟩), .int .i64 x] w (xcY w rv))) : SoundF NP f m := by
 obtain ⟨c, hc⟩ := Option.isSome_iff_exists.1 hbody
 refine ⟨⟨fn, c, hf, hname, hc⟩, fun args H S hS e w s F vs E hv hR hF x v H' s' hrun hfx => ?_⟩
 obtain ⟨M, ok, g, a, v', rv, rfl, hM, rfl, h1, h3⟩ := h args H S hS
 obtain ⟨hct, rfl⟩ := vh hrun
 rw [Bool.and_eq_true] at hct
 obtain ⟨rfl, rfl⟩ := hct
 simp only [oI, Prod.mk.injEq] at hfx
 obtain ⟨rfl, rfl⟩ := hfx
 obtain ⟨r0, r1, r2, cw, cb, e0, hMA⟩ := xne E hM
 simp only [allSome, denV, den, e0, Option.map_some, oI] at hv
 subst hv
 refine (h3 rfl _ _ _ _ _ w hMA |> fun hh => (show Calls Tryz.prog f _ w _ from hh)).mono ?_
 rintro en w' ⟨rfl, hb⟩
 refine ⟨e, F, rv, rfl, Ext.refl e, h1 e, E.ofSame fun b hb' => hb.block b (E.own_lt hb'), NP.stable hR fun b hb' => hb.block b (NP.lt hR b hb'), hF, ⟨hb.os, hb.tape, hb.output, hb.size, fun b hb' _ => hb.block b hb'⟩, fun q b hb' => ?_⟩
 rcases hb' with h | h
 ·exact .inl h
 ·exact .inr (.inl h)
def xqE : Sm := fun args H => match args, xsJ H with
 | [.c (.ptr 0 0), .c (.int .i64 x)], some (M, ok) => some (mkS Unit (xN (ok && decide (0 <= (atI M.bytes x).getD 0 /\ (atI M.bytes x).getD 0 <= 255))) fun _ => some (.c (.int .u8 ((atI M.bytes x).getD 0)), H))
 | _, _ => none
theorem xwa : SoundF NP 34 xqE := by
 refine xnf Tryz.func34 (by kernel_rfl) (by kernel_rfl) fun args H S hS => ?_
 unfold xqE at hS
 split at hS
 ·rename_i x M ok hM
  cases hS
  exact ⟨M, ok, _, x, _, _, rfl, hM, rfl, fun e => rfl, fun hg mm wb bb cw cb w hMA => xt5 hMA x (of_decide_eq_true hg)⟩
 ·cases hS
noncomputable def kc0 : List (Nat × Sm) := (44, viaS true qD) :: (34, orSm xkh xqE) :: (122, xki 34 .u64) :: (123, xki 5 .u8) :: kh1
theorem s_kc0 : SoundL NP kc0 := (.cons (yk fun _ _ _ _ _ => Kp xfj) (.cons (SoundF.or xna xwa) (.cons (xbN Tryz.func122 (by kernel_rfl) (by kernel_rfl) xnc) (.cons (xbN Tryz.func123 (by kernel_rfl) (by kernel_rfl) xnd) s_kh1))))
noncomputable def kc1m : List (Nat × Sm) := (53, inl Tryz.prog (xo kc0) 1 Tryz.f53) :: kc0
theorem s_kc1m : SoundL NP kc1m := .cons (xw s_kc0 1 Tryz.func53 (by kernel_rfl) (by kernel_rfl)) s_kc0
end
end Go.Proofs.YtaegelbaghaooaaGreat
