/- RenewError: a memory's copy, looks at it; what its code asks for. -/
import Derived.Test.YtaegelbaghaooaaGreatErDCopy
import Derived.Test.YtaegelbaghaooaaGreatErQWh
import Derived.Test.YtaegelbaghaooaaGreatErM5
set_option linter.all false
open Go.IntKind (i64 u64 u32 u8)
namespace Go.Proofs.YtaegelbaghaooaaGreat
open Go.RowKit Lx
set_option maxRecDepth 1000000
def xjf (t : TypeId) (k : IntKind) : Sm := fun args H => match args, H with
 | [.c (.sl 0 0 n n')], [some ⟨[], t', false, some (.col k' W)⟩] => if t' = t /\ k' = k then some (mkS Unit (xE (decide (n' = n /\ W.length = n /\ 0 < n /\ n <= 1000000))) fun _ => some (.c (.slr 1 n), [some ⟨[], t, false, some (.col k W)⟩, some ⟨[], t, true, some (.col k W)⟩])) else none
 | _, _ => none
theorem xbv {f : FuncId} {fn : Func} (hf : (Tryz.prog).funcs[f]? = some fn) (hname : (fn.name == "runtime.NumGoroutine") = false) (hbody : fn.body.isSome = true) {t : TypeId} {k : IntKind}
  (hC : ∀ (b n c : Nat) (news : List Value) (w : World), news.length = n -> n <= 1000000 -> (∀ j u, news[j]? = some u -> w.cell? ⟨b, 0 + j, none⟩ = some u) -> (∀ u ∈ news, u.oneCell' = true) -> Calls Tryz.prog f #[.slice (some ⟨b, 0, none⟩) n c] w (xmv w t n news)) : SoundF NP f (xjf t k) := by
 obtain ⟨c, hc⟩ := Option.isSome_iff_exists.1 hbody
 refine ⟨⟨fn, c, hf, hname, hc⟩, fun args H S hS e w s F vs E hv hR hF x v H' s' hrun hfx => ?_⟩
 unfold xjf at hS
 split at hS
 ·rename_i n n' t' k' W
  split at hS
  ·rename_i ht
   obtain ⟨rfl, rfl⟩ := ht
   cases hS
   obtain ⟨hg, rfl⟩ := vd hrun
   rw [decide_eq_true_eq] at hg
   obtain ⟨rfl, hl, hn0, hn⟩ := hg
   simp only [oI, Prod.mk.injEq] at hfx
   obtain ⟨rfl, rfl⟩ := hfx
   obtain ⟨r, cs, tl, e0, d0, w0, g0, _⟩ := E.row 0 _ rfl rfl rfl
   obtain rfl := g0 rfl
   simp only [List.append_nil] at w0
   simp only [Blk.real, Tab.cells, yn, oI] at d0
   subst d0
   have he : e = [r] := by
    have h1 := E.len
    match e, h1, e0 with
    | [y], _, h => simp only [List.getElem?_cons_zero, oI] at h; rw [h]
   subst he
   simp only [allSome, denV, den, List.getElem?_cons_zero, Option.map_some, oI] at hv
   subst hv
   have hlt : r.1 < w.heap.size := (Array.getElem?_eq_some_iff.1 w0).1
   refine (hC r.1 n' n' (W.map (Value.int k')) w (by simpa using hl) hn (fun j u hj => ?_) (fun u hu => ?_)).mono ?_
   ·rw [Nat.zero_add]
    simp only [World.cell?, w0]
    simpa using hj
   ·obtain ⟨y, _, rfl⟩ := List.mem_map.1 hu; rfl
   rintro en w' ⟨v', rfl, hown, hne, hb⟩
   obtain ⟨_, ⟨rfl, h0⟩ | ⟨g, cap, cur, rfl, hg1, hg2, hg3, hg4, hg5, hg6⟩⟩ := hown
   ·omega
   rw [Nat.mul_one] at hg5 hg6
   have hcur : cur = ((W.map (Value.int k')) ++ cur.toList.drop n').toArray := by
    rw [<- hg6, List.take_append_drop]
   have hsame : w'.heap[r.1]? = w.heap[r.1]? := hb.block r.1 hlt
   have hrow : ∀ i b, blkAt [some ⟨[], t', false, some (.col k' W)⟩, some ⟨[], t', true, some (.col k' W)⟩] i = some b -> (i = 0 /\ b = ⟨[], t', false, some (.col k' W)⟩) \/ (i = 1 /\ b = ⟨[], t', true, some (.col k' W)⟩) := by
    intro i b h
    match i with
    | 0 => cases h; exact .inl ⟨rfl, rfl⟩
    | 1 => cases h; exact .inr ⟨rfl, rfl⟩
    | i + 2 => simp [blkAt] at h
   refine ⟨[r, (g, cap)], F, _, rfl, ⟨[(g, cap)], rfl⟩, ?_, ⟨rfl, fun i b hb' => ?_, fun i j b b' q q' h1 h2 h3 h4 h5 _ _ => .inl ?_, fun i b hb' => by rcases hrow i b hb' with ⟨_, rfl⟩ | ⟨_, rfl⟩ <;> exact fun t ht => by first | rfl | cases ht⟩, NP.stable hR fun b hb' => hb.block b (NP.lt hR b hb'), ?_, ⟨hb.os, hb.tape, hb.output, hb.size, fun b hb' _ => hb.block b hb'⟩, ?_⟩
   ·show (if n' = 0 then some (Value.slice none 0 0) else if n' <= cap then some (Value.slice (some ⟨g, 0, none⟩) n' cap) else none) = _
    rw [if_neg (by omega), if_pos hg3]
   ·rcases hrow i b hb' with ⟨rfl, rfl⟩ | ⟨rfl, rfl⟩
    ·exact ⟨r, _, rfl, yn _ _ _ _, Lies.mk (tl := []) rfl (by rw [hsame, w0]; simp) (fun _ => rfl) (fun h => by cases h)⟩
    ·refine ⟨(g, cap), _, rfl, yn _ _ _ _, Lies.mk (tl := cur.toList.drop n') rfl (by rw [hg2]; exact congrArg (fun c => some (Obj.cells c t' (0, 0))) hcur) (fun h => by cases h) (fun _ => ⟨?_, hg4⟩)⟩
     show (W.map (Value.int k') ++ cur.toList.drop n').length = cap * 1
     have := congrArg Array.size hcur
     simp only [List.size_toArray] at this
     rw [<- this, hg5, Nat.mul_one]
   ·have a1 : i < 2 := by rcases hrow i b h1 with ⟨h, _⟩ | ⟨h, _⟩ <;> omega
    have a2 : j < 2 := by rcases hrow j b' h2 with ⟨h, _⟩ | ⟨h, _⟩ <;> omega
    have hi : ∀ i q, i < 2 -> [r, (g, cap)][i]? = some q -> q.1 = if i = 0 then r.1 else g := by
     intro i q hlt hq
     match i, hlt with
     | 0, _ => cases hq; rfl
     | 1, _ => cases hq; rfl
    rw [hi i q a1 h3, hi j q' a2 h4] at h5
    repeat' split at h5
    all_goals omega
   ·rintro b ⟨i, k0, y, h1, h2, rfl, _⟩ hFb
    rcases hrow i k0 h1 with ⟨rfl, rfl⟩ | ⟨rfl, rfl⟩
    ·cases h2
     exact hF _ ⟨0, _, r, rfl, rfl, rfl, rfl, fun h => by cases h⟩ hFb
    ·cases h2
     have := NP.lt hR _ hFb
     simp only at this hg1; omega
   ·rintro q b (⟨i, k0, y, h1, h2, rfl, hv0, hw0⟩ | h)
    ·rcases hrow i k0 h1 with ⟨rfl, rfl⟩ | ⟨rfl, rfl⟩
     ·cases h2
      exact .inl ⟨0, _, r, rfl, rfl, rfl, rfl, fun _ => rfl⟩
     ·cases h2
      exact .inr (.inr hg1)
    ·exact .inr (.inl h)
  ·cases hS
 ·cases hS
structure MemG (w : World) (mm wb bb cw cb : Nat) (M : Mem) : Prop where
 c0 : w.cell? ⟨mm, 0, none⟩ = some (.slice (some ⟨wb, 0, none⟩) M.words.length cw)
 c1 : w.cell? ⟨mm, 1, none⟩ = some (.slice (some ⟨bb, 0, none⟩) M.bytes.length cb)
 lt : mm < w.heap.size
 ws : ∃ tl, w.heap[wb]? = some (.cells (M.words.map (Value.int .u64) ++ tl).toArray 34 (0, 0))
 bs : ∃ tl, w.heap[bb]? = some (.cells (M.bytes.map (Value.int .u8) ++ tl).toArray 5 (0, 0))
 few : M.words.length <= 1000000 /\ M.bytes.length <= 1000000
def LookD (w : World) (x : Int) (e : Ending) (w' : World) : Prop := (∃ ok, e = .returned (.tuple #[.int .u64 x, .bool ok])) /\ Below w.heap.size w w'
theorem xl9 {w : World} {b i : Nat} {l tl : List Value} {t : TypeId} {v : Value} (h : w.heap[b]? = some (.cells (l ++ tl).toArray t (0, 0))) (hv : l[i]? = some v) : w.cell? ⟨b, i, none⟩ = some v := by
 have hi := (List.getElem?_eq_some_iff.1 hv).1
 rw [cell_of h]
 simp [List.getElem?_append_left hi, hv]
theorem xtm {w : World} {mm wb bb cw cb : Nat} {M : Mem} (h : MemG w mm wb bb cw cb M) (at_ : Int) : Calls Tryz.prog 106 #[.pointer (some ⟨mm, 0, none⟩), .agg #[.int .u8 1, .int .i64 at_, .int .u64 0, .int .u64 0]] w (LookD w ((atI M.words at_).getD 0)) := by
 obtain ⟨tl, hws⟩ := h.ws
 have hwb := xQ hws
 cases at_ with
 | negSucc m => exact (xf7 mm wb _ _ _ 0 0 w h.c0 h.lt h.few.1 (by omega)).mono fun e w' hd => ⟨⟨false, hd.1⟩, hd.2⟩
 | ofNat i =>
  cases hx : M.words[i]? with
  | none =>
   have hx' := hx
   rw [List.getElem?_eq_none_iff] at hx'
   have e0 : (atI M.words (Int.ofNat i)).getD 0 = 0 := by show (M.words[i]?).getD 0 = 0; rw [hx]; rfl
   rw [e0]
   exact (xf8 mm wb _ _ _ 0 0 w h.c0 h.lt h.few.1 (by show (0 : Int) <= (i : Int); omega) (by show (M.words.length : Int) <= (i : Int); omega)).mono fun e w' hd => ⟨⟨false, hd.1⟩, hd.2⟩
  | some x =>
   have e0 : (atI M.words (Int.ofNat i)).getD 0 = x := by show (M.words[i]?).getD 0 = x; rw [hx]; rfl
   rw [e0]
   have hi := (List.getElem?_eq_some_iff.1 hx).1
   have hcx := xl9 (v := .int .u64 x) hws (i := i) (by rw [List.getElem?_map, hx]; rfl)
   refine (xpl mm wb _ _ i x 0 0 w h.c0 hcx (jN hws) hi h.lt hwb h.few.1).mono ?_
   rintro e w' ⟨rfl, w1, hb, rfl⟩
   refine ⟨⟨true, rfl⟩, ?_⟩
   have h1 : w1.heap[wb]? = some (.cells (M.words.map (Value.int .u64) ++ tl).toArray 34 (0, 0)) := by rw [hb.block wb hwb, hws]
   have hlt1 := xQ h1
   have es := setCell_eq (o := i) h1 (.int .u64 x)
   have hsame : ((M.words.map (Value.int .u64) ++ tl).toArray).setIfInBounds i (.int .u64 x) = (M.words.map (Value.int .u64) ++ tl).toArray := by
    apply Array.ext
    ·simp
    ·intro j h1 h2
     rw [Array.getElem_setIfInBounds]
     split
     ·rename_i hj
      subst hj
      have : (M.words.map (Value.int .u64) ++ tl)[i]? = some (.int .u64 x) := by rw [List.getElem?_append_left (by simpa using hi), List.getElem?_map, hx]; rfl
      simpa using ((List.getElem?_eq_some_iff.1 this).2).symm
     ·rfl
   rw [hsame] at es
   have hset : w1.heap.setIfInBounds wb (.cells (M.words.map (Value.int .u64) ++ tl).toArray 34 (0, 0)) = w1.heap := by
    apply Array.ext
    ·simp
    ·intro j h3 h4
     rw [Array.getElem_setIfInBounds]
     split
     ·rename_i hj
      subst hj
      exact ((Array.getElem?_eq_some_iff.1 h1).2).symm
     ·rfl
   rw [hset] at es
   rw [es]
   exact hb
theorem doG_get {w : World} {mm wb bb cw cb : Nat} {M : Mem} (h : MemG w mm wb bb cw cb M) (at_ : Int) (hr : 0 <= (atI M.bytes at_).getD 0 /\ (atI M.bytes at_).getD 0 <= 255) : Calls Tryz.prog 106 #[.pointer (some ⟨mm, 0, none⟩), .agg #[.int .u8 5, .int .i64 at_, .int .u64 0, .int .u64 0]] w (LookD w ((atI M.bytes at_).getD 0)) := by
 obtain ⟨tl, hbs⟩ := h.bs
 have hbb := xQ hbs
 cases at_ with
 | negSucc m => exact (xf9 mm bb _ _ _ 0 0 w h.c1 h.lt h.few.2 (by omega)).mono fun e w' hd => ⟨⟨false, hd.1⟩, hd.2⟩
 | ofNat i =>
  cases hx : M.bytes[i]? with
  | none =>
   have hx' := hx
   rw [List.getElem?_eq_none_iff] at hx'
   have e0 : (atI M.bytes (Int.ofNat i)).getD 0 = 0 := by show (M.bytes[i]?).getD 0 = 0; rw [hx]; rfl
   rw [e0]
   exact (xga mm bb _ _ _ 0 0 w h.c1 h.lt h.few.2 (by show (0 : Int) <= (i : Int); omega) (by show (M.bytes.length : Int) <= (i : Int); omega)).mono fun e w' hd => ⟨⟨false, hd.1⟩, hd.2⟩
  | some x =>
   have e0 : (atI M.bytes (Int.ofNat i)).getD 0 = x := by show (M.bytes[i]?).getD 0 = x; rw [hx]; rfl
   rw [e0] at hr |-
   have hi := (List.getElem?_eq_some_iff.1 hx).1
   have hcx := xl9 (v := .int .u8 x) hbs (i := i) (by rw [List.getElem?_map, hx]; rfl)
   exact (xsG mm bb _ _ i x 0 0 w h.c1 hcx hi h.lt hbb h.few.2 hr.1 hr.2).mono fun e w' hd => ⟨⟨true, hd.1⟩, hd.2⟩
theorem xrN {w : World} {mm wb bb cw cb : Nat} {M : Mem} (h : MemG w mm wb bb cw cb M) (at_ : Int) :
  Calls Tryz.prog 54 #[.pointer (some ⟨mm, 0, none⟩), .int .i64 at_] w (Yo w (.int .u64 ((atI M.words at_).getD 0))) := by
 have HS := Lib.hid (xtm h at_)
 clear h
 go_enter Tryz.func54, Tryz.ntmps54
 go_wp2_with (go_at_call 106; refine HS.out.mono ?_; rintro e1 w1 ⟨⟨ok, rfl⟩, hb1⟩; have HB1 := Lib.hid hb1; clear hb1)
 go_ret
 exact ⟨rfl, HB1.out⟩
theorem xrO {w : World} {mm wb bb cw cb : Nat} {M : Mem} (h : MemG w mm wb bb cw cb M) (at_ : Int) (hx : 0 <= (atI M.bytes at_).getD 0 /\ (atI M.bytes at_).getD 0 <= 255) :
  Calls Tryz.prog 34 #[.pointer (some ⟨mm, 0, none⟩), .int .i64 at_] w (Yo w (.int .u8 ((atI M.bytes at_).getD 0))) := by
 have HS := Lib.hid (doG_get h at_ hx)
 have HW := Lib.hid (show ((atI M.bytes at_).getD 0) % 256 = (atI M.bytes at_).getD 0 by omega)
 clear h hx
 generalize (atI M.bytes at_).getD 0 = x at *
 go_enter Tryz.func34, Tryz.ntmps34
 go_wp2_with (go_at_call 106; refine HS.out.mono ?_; rintro e1 w1 ⟨⟨ok, rfl⟩, hb1⟩; have HB1 := Lib.hid hb1; clear hb1)
 go_ret
 have e := HW.out
 refine ⟨?_, HB1.out⟩
 simp only [e]
 rfl
def xma (H : Heap) : Option (Mem × Bool) := match H with
 | [some ⟨[.slr 1 a, .slr 2 b], t2, false, none⟩, some ⟨[], t3, true, some (.col .u64 W)⟩, some ⟨[], t4, true, some (.col .u8 B)⟩] =>
  if t2 = 188 /\ t3 = 34 /\ t4 = 5 then some (⟨W, B⟩, decide (W.length = a /\ B.length = b /\ 0 < a /\ 0 < b /\ a <= 1000000 /\ b <= 1000000)) else none
 | _ => none
theorem xmb {e : Env} {H : Heap} {w : World} {M : Mem} (E : Emb NP.pv e H w) (h : xma H = some (M, true)) : ∃ (r0 r1 r2 : Nat × Nat) (cw cb : Nat), e[0]? = some r0 /\ MemG w r0.1 r1.1 r2.1 cw cb M := by
 unfold xma at h
 split at h
 ·rename_i a b t2 t3 W t4 B
  split at h
  ·rename_i ht
   obtain ⟨rfl, rfl, rfl⟩ := ht
   simp only [oI, Prod.mk.injEq, decide_eq_true_eq] at h
   obtain ⟨rfl, rfl, rfl, p1, p2, f1, f2⟩ := h
   obtain ⟨r2, c2, t2, e2, d2, w2, g2, _⟩ := E.row 0 _ rfl rfl rfl
   have v3 : (Blk.mk [] 34 true (some (.col .u64 W))).virt = false := by
    cases W with
    | nil => exact absurd p1 (by simp)
    | cons x W => rfl
   have v4 : (Blk.mk [] 5 true (some (.col .u8 B))).virt = false := by
    cases B with
    | nil => exact absurd p2 (by simp)
    | cons x B => rfl
   obtain ⟨r3, c3, t3, e3, d3, w3, _, g3⟩ := E.row 1 _ rfl rfl v3
   obtain ⟨r4, c4, t4, e4, d4, w4, _, g4⟩ := E.row 2 _ rfl rfl v4
   obtain rfl := g2 rfl
   simp only [List.append_nil] at w2
   simp only [Blk.real, Tab.cells, yn, oI] at d3 d4
   subst d3 d4
   have k3 := (g3 rfl).1
   have k4 := (g4 rfl).1
   have q3 : W.length <= r3.2 := by have : (Blk.mk [] 34 true (some (.col .u64 W))).wid = 1 := rfl; rw [this] at k3; simp at k3; omega
   have q4 : B.length <= r4.2 := by have : (Blk.mk [] 5 true (some (.col .u8 B))).wid = 1 := rfl; rw [this] at k4; simp at k4; omega
   have d2' : some c2 = some [Value.slice (some ⟨r3.1, 0, none⟩) W.length r3.2, Value.slice (some ⟨r4.1, 0, none⟩) B.length r4.2] := by
    rw [<- d2]
    simp only [Blk.real, denL, den, e3, e4, Option.bind_some]
    rw [if_neg (by omega), if_pos q3, if_neg (by omega), if_pos q4]
   cases d2'
   exact ⟨r2, r3, r4, r3.2, r4.2, e2, ⟨by rw [cell_of w2]; rfl, by rw [cell_of w2]; rfl, xQ w2, ⟨_, w3⟩, ⟨_, w4⟩, ⟨f1, f2⟩⟩⟩
  ·cases h
 ·cases h
theorem xbw {f : FuncId} {fn : Func} (hf : (Tryz.prog).funcs[f]? = some fn) (hname : (fn.name == "runtime.NumGoroutine") = false) (hbody : fn.body.isSome = true) {m : Sm}
  (h : ∀ args H S, m args H = some S -> ∃ (M : Mem) (ok g : Bool) (x : Int) (v : V) (rv : Value), args = [.c (.ptr 0 0), .c (.int .i64 x)] /\ xma H = some (M, ok) /\ S = mkS Unit (xE (ok && g)) (fun _ => some (v, H)) /\ (∀ e, denV NP.pv e v = some rv) /\ (g = true -> ∀ mm wb bb cw cb w, MemG w mm wb bb cw cb M -> Calls Tryz.prog f #[.pointer (some ⟨mm, 0, none⟩), .int .i64 x] w (Yo w rv))) : SoundF NP f m := by
 obtain ⟨c, hc⟩ := Option.isSome_iff_exists.1 hbody
 refine ⟨⟨fn, c, hf, hname, hc⟩, fun args H S hS e w s F vs E hv hR hF x v H' s' hrun hfx => ?_⟩
 obtain ⟨M, ok, g, a, v', rv, rfl, hM, rfl, h1, h3⟩ := h args H S hS
 obtain ⟨hct, rfl⟩ := vd hrun
 rw [Bool.and_eq_true] at hct
 obtain ⟨rfl, rfl⟩ := hct
 simp only [oI, Prod.mk.injEq] at hfx
 obtain ⟨rfl, rfl⟩ := hfx
 obtain ⟨r0, r1, r2, cw, cb, e0, hMA⟩ := xmb E hM
 simp only [allSome, denV, den, e0, Option.map_some, oI] at hv
 subst hv
 refine (h3 rfl _ _ _ _ _ w hMA |> fun hh => (show Calls Tryz.prog f _ w _ from hh)).mono ?_
 rintro en w' ⟨rfl, hb⟩
 refine ⟨e, F, rv, rfl, Ext.refl e, h1 e, E.ofSame fun b hb' => hb.block b (E.own_lt hb'), NP.stable hR fun b hb' => hb.block b (NP.lt hR b hb'), hF, ⟨hb.os, hb.tape, hb.output, hb.size, fun b hb' _ => hb.block b hb'⟩, fun q b hb' => ?_⟩
 rcases hb' with h | h
 ·exact .inl h
 ·exact .inr (.inl h)
def xoX : Sm := fun args H => match args, xma H with
 | [.c (.ptr 0 0), .c (.int .i64 x)], some (M, ok) => some (mkS Unit (xE (ok && true)) fun _ => some (.c (.int .u64 ((atI M.words x).getD 0)), H))
 | _, _ => none
def xoY : Sm := fun args H => match args, xma H with
 | [.c (.ptr 0 0), .c (.int .i64 x)], some (M, ok) => some (mkS Unit (xE (ok && decide (0 <= (atI M.bytes x).getD 0 /\ (atI M.bytes x).getD 0 <= 255))) fun _ => some (.c (.int .u8 ((atI M.bytes x).getD 0)), H))
 | _, _ => none
theorem xtn : SoundF NP 54 xoX := by
 refine xbw Tryz.func54 (by kernel_rfl) (by kernel_rfl) fun args H S hS => ?_
 unfold xoX at hS
 split at hS
 ·rename_i x M ok hM
  cases hS
  exact ⟨M, ok, true, x, _, _, rfl, hM, rfl, fun e => rfl, fun _ mm wb bb cw cb w hMA => xrN hMA x⟩
 ·cases hS
theorem xto : SoundF NP 34 xoY := by
 refine xbw Tryz.func34 (by kernel_rfl) (by kernel_rfl) fun args H S hS => ?_
 unfold xoY at hS
 split at hS
 ·rename_i x M ok hM
  cases hS
  exact ⟨M, ok, _, x, _, _, rfl, hM, rfl, fun e => rfl, fun hg mm wb bb cw cb w hMA => xrO hMA x (of_decide_eq_true hg)⟩
 ·cases hS
theorem xeO : SoundF NP 45 mTrue := by
 refine kV Tryz.func45 (by kernel_rfl) (by kernel_rfl) fun args H S hS => ?_
 unfold mTrue at hS
 split at hS
 ·cases hS
  exact ⟨rfl, true, _, rfl, [], .bool true, fun e => rfl, fun e => rfl, fun _ w => awake16 w⟩
 ·cases hS
noncomputable def kc0 : List (Nat × Sm) := (44, viaS true qy) :: (45, mTrue) :: (54, orSm xjq xoX) :: (34, orSm xjr xoY) :: (122, xjf 34 .u64) :: (123, xjf 5 .u8) :: kh1
theorem s_kc0 : SoundL NP kc0 := .cons (yU fun _ _ _ _ _ => Vo xc2) <| .cons xeO <| .cons (SoundF.or xmm xtn) <| .cons (SoundF.or xmn xto) <| .cons (xbv Tryz.func122 (by kernel_rfl) (by kernel_rfl) xjx) <| .cons (xbv Tryz.func123 (by kernel_rfl) (by kernel_rfl) xjy) s_kh1
noncomputable def kc1m : List (Nat × Sm) := (53, inl Tryz.prog (xw kc0) 1 Tryz.f53) :: kc0
theorem s_kc1m : SoundL NP kc1m := .cons (xJ s_kc0 1 Tryz.func53 (by kernel_rfl) (by kernel_rfl)) s_kc0
end Go.Proofs.YtaegelbaghaooaaGreat
