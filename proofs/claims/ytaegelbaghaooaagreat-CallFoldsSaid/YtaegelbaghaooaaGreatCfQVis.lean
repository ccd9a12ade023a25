/- Part. -/
import Derived.Test.YtaegelbaghaooaaGreatCfM5
set_option linter.all false
open Go.IntKind (i64 u64 u32 u8)
namespace Go.Proofs.YtaegelbaghaooaaGreat
open Go.RowKit Lx
def oT {α : Type} : Option α -> T α
 | some x => .ret x
 | none => .fail
theorem xwB {σ α : Type} {step : PStep σ} {o : Option α} {s s' : σ} {x : α} (h : (oT o).run step s = some (x, s')) : o = some x /\ s' = s := by
 cases o with
 | none => simp [oT, T.run] at h
 | some y =>
  simp only [oT, T.run, oI, Prod.mk.injEq] at h
  exact ⟨by rw [h.1], h.2.symm⟩
def readS (H : Heap) : Option (DS × Bool × Bool) := match H with
 | some ⟨[.ptr 1 0, .int .i64 self, td], t0, false, none⟩ :: some ⟨[.ptr 2 0, .int .i64 n], t1, false, none⟩ :: some ⟨[.sl 3 0 a a', .sl 4 0 b b'], t2, false, none⟩ :: some ⟨[], t3, false, some (.col .u64 W)⟩ :: some ⟨[], t4, false, some (.col .u8 B)⟩ :: R =>
  if t0 = 125 /\ t1 = 122 /\ t2 = 188 /\ t3 = 34 /\ t4 = 5 then
   match td, R with
   | .nilp, [] => some (⟨⟨W, B⟩, self, n, none⟩, decide (a' = a /\ b' = b /\ W.length = a /\ B.length = b /\ a <= 1000000 /\ b <= 1000000), false)
   | .ptr 5 0, [some ⟨l, t5, false, none⟩] => if t5 = 38 /\ l.all yk = true then some (⟨⟨W, B⟩, self, n, some l⟩, decide (a' = a /\ b' = b /\ W.length = a /\ B.length = b /\ a <= 1000000 /\ b <= 1000000), true) else none
   | _, _ => none
  else none
 | _ => none
theorem xwC {H : Heap} {s : DS} {b : Bool} (h : readS H = some (s, true, b)) : Xb H = some s /\ (b = false -> H.length = 5) := by
 unfold readS at h
 split at h
 ·rename_i self td t0 n t1 a a' b1 b' t2 t3 W t4 B R
  split at h
  ·rename_i hc
   obtain ⟨rfl, rfl, rfl, rfl, rfl⟩ := hc
   split at h
   ·simp only [oI, Prod.mk.injEq, decide_eq_true_eq] at h
    obtain ⟨rfl, ⟨rfl, rfl, h1, h2, h3, h4⟩, rfl⟩ := h
    refine ⟨?_, fun _ => rfl⟩
    simp only [Xb]
    rw [if_pos ⟨trivial, trivial, trivial, trivial, trivial, trivial, trivial⟩, if_pos ⟨h1, h2, h3, h4⟩]
   ·rename_i l t5
    split at h
    ·rename_i h5
     simp only [oI, Prod.mk.injEq, decide_eq_true_eq] at h
     obtain ⟨rfl, ⟨rfl, rfl, h1, h2, h3, h4⟩, rfl⟩ := h
     refine ⟨?_, fun hh => by cases hh⟩
     simp only [Xb]
     rw [if_pos ⟨trivial, trivial, trivial, trivial, trivial, trivial, trivial⟩, if_pos ⟨h1, h2, h3, h4⟩, if_pos h5]
    ·cases h
   ·cases h
  ·cases h
 ·cases h
def xsz {α : Type} (o : Option (α × DS)) : Option (α × Res × DS) := o.bind fun p => (p.2.told.bind Res.of).map fun r => (p.1, r, p.2)
def xsA {α : Type} (o : Option (α × DS)) : Option (α × DS) := o.bind fun p => match p.2.told with
 | none => some p
 | some _ => none
def viaH (n : Nat) (s : DS) (r : Res) : Heap := baseD s (.ptr n 0) ++ (List.replicate (n - 5) none ++ [some ⟨r.cells, 38, false, none⟩])
def viaS (tells : Bool) (m : Sm) : Sm := fun args H => match args with
 | .c (.ifc t (.ptr 0 0)) :: rest => if t = 27 /\ rest.all Zx = true then
   match readS H, m (.c .port :: rest) [] with
   | some (s, g, b), some S => match tells || b with
    | true => some (mkS (S.α × Res × DS) ((yu g).bind fun _ => oT (xsz (S.t.run yd s))) fun r => match S.f r.1 with
     | some (v, []) => match Zx v with
      | true => some (v, viaH H.length r.2.2 r.2.1)
      | false => none
     | _ => none)
    | false => some (mkS (S.α × DS) ((yu g).bind fun _ => oT (xsA (S.t.run yd s))) fun r => match S.f r.1 with
     | some (v, []) => match Zx v with
      | true => some (v, baseD r.2 .nilp)
      | false => none
     | _ => none)
   | _, _ => none
  else none
 | _ => none
theorem yw {f : FuncId} {m : Sm} {tells : Bool} (hs : ∀ d wy mm wb bb, SoundF (Dir d wy mm wb bb) f m) : SoundF NP f (viaS tells m) := by
 refine ⟨(hs 0 0 0 0 0).1, ?_⟩
 intro args H S hS e w s0 F vs E hv hR hF x v H' s' hrun hfx
 unfold viaS at hS
 split at hS
 ·rename_i t rest
  split at hS
  ·rename_i hc
   obtain ⟨rfl, hflat⟩ := hc
   split at hS
   ·rename_i s g b S0 hrd0 hm
    have fin : ∀ (x0 : S0.α) (s1 : DS), g = true -> S0.t.run yd s = some (x0, s1) -> ∀ v0, S0.f x0 = some (v0, []) -> Zx v0 = true -> ∀ H1, (Xb H = some s -> (b = false -> H.length = 5) -> Xc H.length s1 = some H1) -> Calls Tryz.prog f vs.toArray w fun en w' => ∃ e' F' rv, en = .returned rv /\ Ext e e' /\ denV NP.pv e' v0 = some rv /\ Emb NP.pv e' H1 w' /\ NP.Rep () F' w' /\ (∀ b, Own false e' H1 b -> ¬ F' b) /\ Keeps (fun b => Own true e H b \/ F b) w w' /\ ∀ q b, Own q e' H1 b \/ F' b -> Own q e H b \/ F b \/ w.heap.size <= b := by
     intro x0 s1 hg hrun0 v0 hf0 hfl H1 hwr0
     subst hg
     obtain ⟨hrd, hlen⟩ := xwC hrd0
     have hwr := hwr0 hrd hlen
     obtain ⟨r0, r1, r2, r3, r4, td, e0, e1, e2, e3, e4, hD, hown⟩ := WE E hrd
     have hv' : allSome (denV (pvD r0.1) []) (.c .port :: rest) = some vs := by
      simp only [allSome, denV, den, e0, Option.map_some, pvD] at hv |-
      rw [WF (pv := NP.pv) (e := e) hflat]
      exact hv
     obtain ⟨rv, hrv⟩ := xeJ NP.pv e hfl
     refine (xmv (hs r0.1 r1.1 r2.1 r3.1 r4.1) hm hv' hD hrun0 hf0 (fun e' => (ki hfl).trans hrv)).mono ?_
     rintro en w' ⟨rfl, ⟨td', hD', htd⟩, hk⟩
     exact xjq E hrd e0 e1 e2 e3 e4 hown hD' hwr htd hk (fun e' => (ki hfl).trans hrv)
    split at hS
    ·cases hS
     obtain ⟨_, s2, h1, h2⟩ := T.run_bind_some hrun
     obtain ⟨hg, rfl⟩ := qS h1
     obtain ⟨h3, rfl⟩ := xwB h2
     simp only [xsz, Option.bind_eq_some_iff, oM] at h3
     obtain ⟨⟨x0, s1⟩, hrun0, r, ⟨l, hl, hr⟩, rfl⟩ := h3
     simp only at hfx hl
     split at hfx
     ·rename_i v0 hf0
      split at hfx
      ·rename_i hfl
       cases hfx
       refine fin x0 s1 hg hrun0 v hf0 hfl _ fun hrd hlen => ?_
       have h5 := xhN hrd
       obtain rfl := Res.of_eq hr
       simp only [Xc, hl]
       rw [if_pos ⟨h5, rfl⟩]; rfl
      ·cases hfx
     ·cases hfx
    ·rename_i htb
     cases hS
     obtain ⟨_, s2, h1, h2⟩ := T.run_bind_some hrun
     obtain ⟨hg, rfl⟩ := qS h1
     obtain ⟨h3, rfl⟩ := xwB h2
     simp only [xsA, Option.bind_eq_some_iff] at h3
     obtain ⟨⟨x0, s1⟩, hrun0, h4⟩ := h3
     simp only at h4
     split at h4
     ·rename_i hn
      cases h4
      simp only at hfx
      split at hfx
      ·rename_i v0 hf0
       split at hfx
       ·rename_i hfl
        cases hfx
        refine fin x0 s1 hg hrun0 v hf0 hfl _ fun hrd hlen => ?_
        have hb : b = false := by
         cases tells <;> cases b <;> simp_all
        simp only [Xc, hn]
        rw [if_pos (hlen hb)]
       ·cases hfx
      ·cases hfx
     ·cases h4
   ·cases hS
  ·cases hS
 ·cases hS
def vN {α : Type} (g : Bool) (q : T α) (s : DS) : T (α × DS) := (yu g).bind fun _ => oT (xsA (q.run yd s))
def vR {α : Type} (g : Bool) (q : T α) (s : DS) : T (α × Res × DS) := (yu g).bind fun _ => oT (xsz (q.run yd s))
def okS (a' a b' b : Nat) (W B : List Int) : Bool := decide (a' = a /\ b' = b /\ W.length = a /\ B.length = b /\ a <= 1000000 /\ b <= 1000000)
theorem okS_yes {W B : List Int} (h1 : W.length <= 1000000) (h2 : B.length <= 1000000) : okS W.length W.length B.length B.length W B = true := decide_eq_true ⟨rfl, rfl, rfl, rfl, h1, h2⟩
theorem xrA {α : Type} {g : Bool} {q : T α} {s s' : DS} {x : α} (hg : g = true) (hr : q.run yd s = some (x, s')) (ht : s'.told = none) : vN g q s = .ret (x, s') := by
 subst hg
 simp only [vN, yu, cond_true, T.bind, hr, xsA, Option.bind_some, ht, oT]
theorem xwD {α : Type} {g : Bool} {q : T α} {s s' : DS} {x : α} {r : Res} (hg : g = true) (hr : q.run yd s = some (x, s')) (ht : s'.told = some r.cells) : vR g q s = .ret (x, r, s') := by
 subst hg
 have e : Res.of r.cells = some r := rfl
 simp only [vR, yu, cond_true, T.bind, hr, xsz, Option.bind_some, ht, e, Option.map_some, oT]
end Go.Proofs.YtaegelbaghaooaaGreat
