/- Calls by a direct port that lies in own blocks: a summary over the null port out of one over a port. -/
import Derived.Test.YtaegelbaghaooaaGreatDNew
namespace Go.Proofs.YtaegelbaghaooaaGreat
open Go.RowKit Lx
set_option linter.unusedVariables false
/-- the port that lies in some blocks: its memory's numbers, itself, its steps, what it was told. -/
def readD (H : Heap) : Option DS := match H with
  | some ⟨[.ptr 1 0, .int .i64 self, td], t0, false, none⟩ :: some ⟨[.ptr 2 0, .int .i64 n], t1, false, none⟩ :: some ⟨[.sl 3 0 a a', .sl 4 0 b b'], t2, false, none⟩ :: some ⟨[], t3, false, some (.col .u64 W)⟩ :: some ⟨[], t4, false, some (.col .u8 B)⟩ :: R =>
    if t0 = 125 ∧ t1 = 122 ∧ t2 = 188 ∧ t3 = 34 ∧ t4 = 5 ∧ a' = a ∧ b' = b then
      if W.length = a ∧ B.length = b ∧ a ≤ 1000000 ∧ b ≤ 1000000 then
        match td, R with
        | .nilp, [] => some ⟨⟨W, B⟩, self, n, none⟩
        | .ptr 5 0, [some ⟨l, t5, false, none⟩] => if t5 = 38 ∧ l.all flatC = true then some ⟨⟨W, B⟩, self, n, some l⟩ else none
        | _, _ => none
      else none
    else none
  | _ => none
theorem den_ints (pv : Value) (e : Env) (k : IntKind) : ∀ l : List Int, denL pv e (l.map (.int k)) = some (l.map (Value.int k))
  | [] => rfl
  | x :: l => by simp only [List.map_cons, denL, den, den_ints pv e k l]
/-- the blocks of a port, the told one's number left open. -/
def baseD (s : DS) (td : C) : Heap := [some ⟨[.ptr 1 0, .int .i64 s.self, td], 125, false, none⟩, some ⟨[.ptr 2 0, .int .i64 s.steps], 122, false, none⟩, some ⟨[.sl 3 0 s.m.words.length s.m.words.length, .sl 4 0 s.m.bytes.length s.m.bytes.length], 188, false, none⟩, some ⟨[], 34, false, some (.col .u64 s.m.words)⟩, some ⟨[], 5, false, some (.col .u8 s.m.bytes)⟩]
def writeD (n : Nat) (s : DS) : Option Heap := match s.told with
  | none => if n = 5 then some (baseD s .nilp) else none
  | some l => if 5 ≤ n ∧ l.all flatC = true then some (baseD s (.ptr n 0) ++ (List.replicate (n - 5) none ++ [some ⟨l, 38, false, none⟩])) else none
/-- what is read is what lies there. -/
theorem readD_eq {H : Heap} {s : DS} (h : readD H = some s) : (s.m.words.length ≤ 1000000 ∧ s.m.bytes.length ≤ 1000000) ∧ ((s.told = none ∧ H = baseD s .nilp) ∨ ∃ l, s.told = some l ∧ l.all flatC = true ∧ H = baseD s (.ptr 5 0) ++ [some ⟨l, 38, false, none⟩]) := by
  unfold readD at h
  split at h
  · rename_i self td t0 n t1 a a' b b' t2 t3 W t4 B R
    split at h
    · rename_i hc
      obtain ⟨rfl, rfl, rfl, rfl, rfl, rfl, rfl⟩ := hc
      split at h
      · rename_i hd
        obtain ⟨rfl, rfl, h1, h2⟩ := hd
        split at h
        · cases h
          exact ⟨⟨h1, h2⟩, .inl ⟨rfl, rfl⟩⟩
        · rename_i l t5
          split at h
          · rename_i h5
            obtain ⟨rfl, h6⟩ := h5
            cases h
            exact ⟨⟨h1, h2⟩, .inr ⟨l, rfl, h6, rfl⟩⟩
          · cases h
        · cases h
      · cases h
    · cases h
  · cases h
theorem flat_any {pv pv' : Value} {e e' : Env} : ∀ {l : List C} {us : List Value}, l.all flatC = true → denL pv e l = some us → denL pv' e' l = some us
  | [], us, _, h => by simpa [denL] using h
  | c :: l, us, hf, h => by
    simp only [List.all_cons, Bool.and_eq_true] at hf
    simp only [denL] at h ⊢
    have hc : den pv' e' c = den pv e c := by cases c <;> first | rfl | (simp [flatC] at hf)
    rw [hc]
    cases hd : den pv e c with
    | none => rw [hd] at h; cases h
    | some v =>
      rw [hd] at h
      simp only at h ⊢
      cases hl : denL pv e l with
      | none => rw [hl] at h; cases h
      | some vs => rw [hl] at h; rw [flat_any hf.2 hl]; exact h
theorem flat_some (pv : Value) (e : Env) : ∀ {l : List C}, l.all flatC = true → ∃ us, denL pv e l = some us
  | [], _ => ⟨[], rfl⟩
  | c :: l, hf => by
    simp only [List.all_cons, Bool.and_eq_true] at hf
    obtain ⟨us, hu⟩ := flat_some pv e hf.2
    have hc : ∃ v, den pv e c = some v := by cases c <;> first | exact ⟨_, rfl⟩ | (simp [flatC] at hf)
    obtain ⟨v, hv⟩ := hc
    exact ⟨v :: us, by simp only [denL, hv, hu]⟩
/-- the port in the world. -/
theorem dir_of_emb {e : Env} {H : Heap} {w : World} {s : DS} (E : Emb NP.pv e H w) (h : readD H = some s) :
    ∃ r0 r1 r2 r3 r4 td, e[0]? = some r0 ∧ e[1]? = some r1 ∧ e[2]? = some r2 ∧ e[3]? = some r3 ∧ e[4]? = some r4 ∧ DirAt w r0.1 r1.1 r2.1 r3.1 r4.1 td s ∧ (∀ b, InD r0.1 r1.1 r2.1 r3.1 r4.1 td b → Own e H b) := by
  obtain ⟨⟨f1, f2⟩, hH⟩ := readD_eq h
  have b0 : ∃ td, blkAt H 0 = some ⟨[.ptr 1 0, .int .i64 s.self, td], 125, false, none⟩ ∧ ((s.told = none ∧ td = .nilp) ∨ ∃ l, s.told = some l ∧ l.all flatC = true ∧ td = .ptr 5 0 ∧ blkAt H 5 = some ⟨l, 38, false, none⟩) := by
    rcases hH with ⟨h1, rfl⟩ | ⟨l, h1, h2, rfl⟩
    · exact ⟨.nilp, rfl, .inl ⟨h1, rfl⟩⟩
    · exact ⟨.ptr 5 0, rfl, .inr ⟨l, h1, h2, rfl, rfl⟩⟩
  have b1 : blkAt H 1 = some ⟨[.ptr 2 0, .int .i64 s.steps], 122, false, none⟩ := by rcases hH with ⟨_, rfl⟩ | ⟨l, _, _, rfl⟩ <;> rfl
  have b2 : blkAt H 2 = some ⟨[.sl 3 0 s.m.words.length s.m.words.length, .sl 4 0 s.m.bytes.length s.m.bytes.length], 188, false, none⟩ := by rcases hH with ⟨_, rfl⟩ | ⟨l, _, _, rfl⟩ <;> rfl
  have b3 : blkAt H 3 = some ⟨[], 34, false, some (.col .u64 s.m.words)⟩ := by rcases hH with ⟨_, rfl⟩ | ⟨l, _, _, rfl⟩ <;> rfl
  have b4 : blkAt H 4 = some ⟨[], 5, false, some (.col .u8 s.m.bytes)⟩ := by rcases hH with ⟨_, rfl⟩ | ⟨l, _, _, rfl⟩ <;> rfl
  clear hH
  obtain ⟨td, b0, htd⟩ := b0
  obtain ⟨r0, c0, t0, e0, d0, w0, g0, _⟩ := E.row 0 _ b0
  obtain ⟨r1, c1, t1, e1, d1, w1, g1, _⟩ := E.row 1 _ b1
  obtain ⟨r2, c2, t2, e2, d2, w2, g2, _⟩ := E.row 2 _ b2
  obtain ⟨r3, c3, t3, e3, d3, w3, g3, _⟩ := E.row 3 _ b3
  obtain ⟨r4, c4, t4, e4, d4, w4, g4, _⟩ := E.row 4 _ b4
  obtain rfl := g0 rfl
  obtain rfl := g1 rfl
  obtain rfl := g2 rfl
  obtain rfl := g3 rfl
  obtain rfl := g4 rfl
  simp only [List.append_nil] at w0 w1 w2 w3 w4
  have ne : ∀ {i j : Nat} {k k' : Blk} {r r' : Nat × Nat}, blkAt H i = some k → blkAt H j = some k' → e[i]? = some r → e[j]? = some r' → i ≠ j → r.1 ≠ r'.1 := fun hi hj hr hr' hne h => hne (E.inj _ _ _ _ _ _ hi hj hr hr' h)
  have n01 := ne b0 b1 e0 e1 (by decide)
  have n02 := ne b0 b2 e0 e2 (by decide)
  have n03 := ne b0 b3 e0 e3 (by decide)
  have n04 := ne b0 b4 e0 e4 (by decide)
  have n12 := ne b1 b2 e1 e2 (by decide)
  have n13 := ne b1 b3 e1 e3 (by decide)
  have n14 := ne b1 b4 e1 e4 (by decide)
  have n23 := ne b2 b3 e2 e3 (by decide)
  have n24 := ne b2 b4 e2 e4 (by decide)
  have n34 := ne b3 b4 e3 e4 (by decide)
  simp only [Blk.real, denL, den, e1, e2, e3, e4, Option.map_some, Option.some.injEq] at d0 d1 d2
  simp only [Blk.real, Tab.cells, den_ints, Option.some.injEq] at d3 d4
  subst d1 d2 d3 d4
  have hW : WayAt w r1.1 r2.1 r3.1 r4.1 s.steps s.m := ⟨w1, ⟨w2, w3, w4, ⟨n23, n24, n34⟩, ⟨f1, f2⟩⟩, ⟨n12, n13, n14⟩⟩
  rcases htd with ⟨ht, rfl⟩ | ⟨l, ht, hl, rfl, b5⟩
  · simp only [den, Option.some.injEq] at d0
    subst d0
    refine ⟨r0, r1, r2, r3, r4, none, e0, e1, e2, e3, e4, ⟨w0, hW, by rw [ht]; trivial, ⟨n01, n02, n03, n04⟩, fun b hb => by cases hb⟩, ?_⟩
    rintro b (rfl | rfl | rfl | rfl | rfl | hb)
    · exact ⟨0, _, r0, b0, e0, rfl⟩
    · exact ⟨1, _, r1, b1, e1, rfl⟩
    · exact ⟨2, _, r2, b2, e2, rfl⟩
    · exact ⟨3, _, r3, b3, e3, rfl⟩
    · exact ⟨4, _, r4, b4, e4, rfl⟩
    · cases hb
  · obtain ⟨r5, c5, t5, e5, d5, w5, g5, _⟩ := E.row 5 _ b5
    obtain rfl := g5 rfl
    simp only [List.append_nil] at w5
    simp only [den, e5, Option.map_some, Option.some.injEq] at d0
    subst d0
    refine ⟨r0, r1, r2, r3, r4, some r5.1, e0, e1, e2, e3, e4, ⟨w0, hW, ?_, ⟨n01, n02, n03, n04⟩, fun b hb => ?_⟩, ?_⟩
    · rw [ht]; exact ⟨c5, flat_any hl d5, w5⟩
    · cases hb
      exact ⟨ne b5 b0 e5 e0 (by decide), ne b5 b1 e5 e1 (by decide), ne b5 b2 e5 e2 (by decide), ne b5 b3 e5 e3 (by decide), ne b5 b4 e5 e4 (by decide)⟩
    · rintro b (rfl | rfl | rfl | rfl | rfl | hb)
      · exact ⟨0, _, r0, b0, e0, rfl⟩
      · exact ⟨1, _, r1, b1, e1, rfl⟩
      · exact ⟨2, _, r2, b2, e2, rfl⟩
      · exact ⟨3, _, r3, b3, e3, rfl⟩
      · exact ⟨4, _, r4, b4, e4, rfl⟩
      · cases hb; exact ⟨5, _, r5, b5, e5, rfl⟩
def flatV1 : V1 → Bool
  | .c x => flatC x
  | .agg l => l.all flatC
def flatV : V → Bool
  | .c x => flatC x
  | .agg l => l.all flatC
  | .tup l => l.all flatV1
theorem flatV1_den {pv pv' : Value} {e e' : Env} {x : V1} (h : flatV1 x = true) : denV1 pv' e' x = denV1 pv e x := by
  cases x with
  | c x => exact flatC_den h
  | agg l => simp only [denV1, flatL_den (pv := pv) (pv' := pv') (e := e) (e' := e') (show l.all flatC = true from h)]
theorem allSome_congr {α β : Type} {f g : α → Option β} : ∀ {l : List α}, (∀ x ∈ l, f x = g x) → allSome f l = allSome g l
  | [], _ => rfl
  | x :: l, h => by
    have ih : allSome f l = allSome g l := allSome_congr fun y hy => h y (List.mem_cons_of_mem _ hy)
    simp only [allSome, h x (by simp), ih]
theorem flatV_den {pv pv' : Value} {e e' : Env} {x : V} (h : flatV x = true) : denV pv' e' x = denV pv e x := by
  cases x with
  | c x => exact flatC_den h
  | agg l => simp only [denV, flatL_den (pv := pv) (pv' := pv') (e := e) (e' := e') (show l.all flatC = true from h)]
  | tup l =>
    simp only [denV]
    rw [allSome_congr fun y hy => flatV1_den (pv := pv) (pv' := pv') (e := e) (e' := e') (List.all_eq_true.1 (show l.all flatV1 = true from h) y hy)]
theorem flatV1_some (pv : Value) (e : Env) {x : V1} (h : flatV1 x = true) : ∃ rv, denV1 pv e x = some rv := by
  cases x with
  | c x => cases x <;> first | exact ⟨_, rfl⟩ | (simp [flatV1, flatC] at h)
  | agg l => obtain ⟨us, hu⟩ := flat_some pv e (show l.all flatC = true from h); exact ⟨.agg us.toArray, by simp only [denV1, hu, Option.map_some]⟩
theorem flatV_some (pv : Value) (e : Env) {x : V} (h : flatV x = true) : ∃ rv, denV pv e x = some rv := by
  cases x with
  | c x => cases x <;> first | exact ⟨_, rfl⟩ | (simp [flatV, flatC] at h)
  | agg l => obtain ⟨us, hu⟩ := flat_some pv e (show l.all flatC = true from h); exact ⟨.agg us.toArray, by simp only [denV, hu, Option.map_some]⟩
  | tup l =>
    have : ∀ l : List V1, l.all flatV1 = true → ∃ us, allSome (denV1 pv e) l = some us := by
      intro l
      induction l with
      | nil => intro _; exact ⟨[], rfl⟩
      | cons x l ih =>
        intro h
        simp only [List.all_cons, Bool.and_eq_true] at h
        obtain ⟨a, ha⟩ := flatV1_some pv e h.1
        obtain ⟨us, hu⟩ := ih h.2
        exact ⟨a :: us, by simp only [allSome, ha, hu]⟩
    obtain ⟨us, hu⟩ := this l h
    exact ⟨.tuple us.toArray, by simp only [denV, hu, Option.map_some]⟩
theorem flatVs_den {pv pv' : Value} {e e' : Env} {l : List V} (h : l.all flatV = true) : allSome (denV pv' e') l = allSome (denV pv e) l :=
  allSome_congr fun y hy => flatV_den (List.all_eq_true.1 h y hy)
/-- what is written lies there. -/
theorem emb_of_dir {e : Env} {H1 : Heap} {w' : World} {s : DS} {r0 r1 r2 r3 r4 : Nat × Nat} {td : Option Nat} (h5 : 5 ≤ e.length) (e0 : e[0]? = some r0) (e1 : e[1]? = some r1) (e2 : e[2]? = some r2) (e3 : e[3]? = some r3) (e4 : e[4]? = some r4)
    (hD : DirAt w' r0.1 r1.1 r2.1 r3.1 r4.1 td s) (hw : writeD e.length s = some H1) : ∃ e', Ext e e' ∧ Emb NP.pv e' H1 w' ∧ ∀ b, Own e' H1 b → InD r0.1 r1.1 r2.1 r3.1 r4.1 td b := by
  obtain ⟨n0, n1, n2, n3⟩ := hD.ne
  obtain ⟨n4, n5, n6⟩ := hD.way.ne
  obtain ⟨n7, n8, n9⟩ := hD.way.mem.ne
  have ht := hD.told
  have hnd : [r0.1, r1.1, r2.1, r3.1, r4.1].Nodup := by simp; omega
  unfold writeD at hw
  split at hw
  · rename_i hs
    split at hw
    · rename_i hn
      cases hw
      have htd : td = none := by
        cases td with
        | none => rfl
        | some b => rw [hs] at ht; exact ht.elim
      subst htd
      have hrow : ∀ i k, blkAt (baseD s .nilp) i = some k → (i = 0 ∧ k = ⟨[.ptr 1 0, .int .i64 s.self, .nilp], 125, false, none⟩) ∨ (i = 1 ∧ k = ⟨[.ptr 2 0, .int .i64 s.steps], 122, false, none⟩) ∨ (i = 2 ∧ k = ⟨[.sl 3 0 s.m.words.length s.m.words.length, .sl 4 0 s.m.bytes.length s.m.bytes.length], 188, false, none⟩) ∨ (i = 3 ∧ k = ⟨[], 34, false, some (.col .u64 s.m.words)⟩) ∨ (i = 4 ∧ k = ⟨[], 5, false, some (.col .u8 s.m.bytes)⟩) := by
        intro i k h
        match i with
        | 0 => cases h; exact .inl ⟨rfl, rfl⟩
        | 1 => cases h; exact .inr (.inl ⟨rfl, rfl⟩)
        | 2 => cases h; exact .inr (.inr (.inl ⟨rfl, rfl⟩))
        | 3 => cases h; exact .inr (.inr (.inr (.inl ⟨rfl, rfl⟩)))
        | 4 => cases h; exact .inr (.inr (.inr (.inr ⟨rfl, rfl⟩)))
        | i + 5 => simp [baseD, blkAt] at h
      have hi : ∀ i r, i < 5 → e[i]? = some r → [r0.1, r1.1, r2.1, r3.1, r4.1][i]? = some r.1 := by
        intro i r hlt hr
        match i, hlt with
        | 0, _ => rw [e0] at hr; cases hr; rfl
        | 1, _ => rw [e1] at hr; cases hr; rfl
        | 2, _ => rw [e2] at hr; cases hr; rfl
        | 3, _ => rw [e3] at hr; cases hr; rfl
        | 4, _ => rw [e4] at hr; cases hr; rfl
      refine ⟨e, Ext.refl e, ⟨by rw [hn]; rfl, fun i k hk => ?_, fun i j k k' r r' hk hk' hr hr' he => ?_, fun i k hk => by rcases hrow i k hk with ⟨_, rfl⟩ | ⟨_, rfl⟩ | ⟨_, rfl⟩ | ⟨_, rfl⟩ | ⟨_, rfl⟩ <;> exact fun t ht => by first | rfl | cases ht⟩, ?_⟩
      · rcases hrow i k hk with ⟨rfl, rfl⟩ | ⟨rfl, rfl⟩ | ⟨rfl, rfl⟩ | ⟨rfl, rfl⟩ | ⟨rfl, rfl⟩
        · exact ⟨r0, [.pointer (some ⟨r1.1, 0, none⟩), .int .i64 s.self, .pointer none], [], e0, by simp only [Blk.real, denL, den, e1, Option.map_some], by simpa using hD.dir, fun _ => rfl, fun h => by cases h⟩
        · exact ⟨r1, [.pointer (some ⟨r2.1, 0, none⟩), .int .i64 s.steps], [], e1, by simp only [Blk.real, denL, den, e2, Option.map_some], by simpa using hD.way.way, fun _ => rfl, fun h => by cases h⟩
        · exact ⟨r2, [.slice (some ⟨r3.1, 0, none⟩) s.m.words.length s.m.words.length, .slice (some ⟨r4.1, 0, none⟩) s.m.bytes.length s.m.bytes.length], [], e2, by simp only [Blk.real, denL, den, e3, e4, Option.map_some], by simpa using hD.way.mem.mem, fun _ => rfl, fun h => by cases h⟩
        · exact ⟨r3, s.m.words.map (Value.int .u64), [], e3, den_ints _ _ _ _, by simpa using hD.way.mem.words, fun _ => rfl, fun h => by cases h⟩
        · exact ⟨r4, s.m.bytes.map (Value.int .u8), [], e4, den_ints _ _ _ _, by simpa using hD.way.mem.bytes, fun _ => rfl, fun h => by cases h⟩
      · have a1 : i < 5 := by rcases hrow i k hk with ⟨h, _⟩ | ⟨h, _⟩ | ⟨h, _⟩ | ⟨h, _⟩ | ⟨h, _⟩ <;> omega
        have a2 : j < 5 := by rcases hrow j k' hk' with ⟨h, _⟩ | ⟨h, _⟩ | ⟨h, _⟩ | ⟨h, _⟩ | ⟨h, _⟩ <;> omega
        exact (List.getElem?_inj (by simpa using a1) hnd).1 ((hi i r a1 hr).trans ((congrArg some he).trans (hi j r' a2 hr').symm))
      · rintro b ⟨i, k, r, hk, hr, rfl⟩
        have a1 : i < 5 := by rcases hrow i k hk with ⟨h, _⟩ | ⟨h, _⟩ | ⟨h, _⟩ | ⟨h, _⟩ | ⟨h, _⟩ <;> omega
        have hm := List.mem_of_getElem? (hi i r a1 hr)
        simp only [List.mem_cons, List.not_mem_nil, or_false] at hm
        unfold InD
        rcases hm with h | h | h | h | h <;> simp [h]
    · cases hw
  · rename_i l hs
    split at hw
    · rename_i hn
      obtain ⟨hn, hl⟩ := hn
      cases hw
      obtain ⟨b5, htd⟩ : ∃ b, td = some b := by
        cases td with
        | none => rw [hs] at ht; exact ht.elim
        | some b => exact ⟨b, rfl⟩
      subst htd
      rw [hs] at ht
      obtain ⟨vs, t1, t2⟩ := ht
      have n10 := hD.tne b5 rfl
      have hx : Ext e (e ++ [(b5, 0)]) := ⟨_, rfl⟩
      have hlast : (e ++ [(b5, 0)])[e.length]? = some (b5, 0) := by simp
      have hrow : ∀ i k, blkAt (baseD s (.ptr e.length 0) ++ (List.replicate (e.length - 5) none ++ [some ⟨l, 38, false, none⟩])) i = some k → (i = 0 ∧ k = ⟨[.ptr 1 0, .int .i64 s.self, .ptr e.length 0], 125, false, none⟩) ∨ (i = 1 ∧ k = ⟨[.ptr 2 0, .int .i64 s.steps], 122, false, none⟩) ∨ (i = 2 ∧ k = ⟨[.sl 3 0 s.m.words.length s.m.words.length, .sl 4 0 s.m.bytes.length s.m.bytes.length], 188, false, none⟩) ∨ (i = 3 ∧ k = ⟨[], 34, false, some (.col .u64 s.m.words)⟩) ∨ (i = 4 ∧ k = ⟨[], 5, false, some (.col .u8 s.m.bytes)⟩) ∨ (i = e.length ∧ k = ⟨l, 38, false, none⟩) := by
        intro i k h
        match i with
        | 0 => cases h; exact .inl ⟨rfl, rfl⟩
        | 1 => cases h; exact .inr (.inl ⟨rfl, rfl⟩)
        | 2 => cases h; exact .inr (.inr (.inl ⟨rfl, rfl⟩))
        | 3 => cases h; exact .inr (.inr (.inr (.inl ⟨rfl, rfl⟩)))
        | 4 => cases h; exact .inr (.inr (.inr (.inr (.inl ⟨rfl, rfl⟩))))
        | i + 5 =>
          have h' : blkAt (List.replicate (e.length - 5) none ++ [some ⟨l, 38, false, none⟩]) i = some k := h
          rw [blkAt_some] at h'
          by_cases hi : i < e.length - 5
          · rw [List.getElem?_append_left (by simpa using hi), List.getElem?_replicate] at h'
            simp [hi] at h'
          · rw [List.getElem?_append_right (by simpa using hi)] at h'
            simp only [List.length_replicate] at h'
            by_cases hi2 : i = e.length - 5
            · subst hi2
              simp at h'
              exact .inr (.inr (.inr (.inr (.inr ⟨by omega, h'.symm⟩))))
            · rw [List.getElem?_eq_none (by simp; omega)] at h'
              cases h'
      have g0 := hx.get e0
      have g1 := hx.get e1
      have g2 := hx.get e2
      have g3 := hx.get e3
      have g4 := hx.get e4
      have hi : ∀ i r, i < 5 → (e ++ [(b5, 0)])[i]? = some r → [r0.1, r1.1, r2.1, r3.1, r4.1][i]? = some r.1 := by
        intro i r hlt hr
        match i, hlt with
        | 0, _ => rw [g0] at hr; cases hr; rfl
        | 1, _ => rw [g1] at hr; cases hr; rfl
        | 2, _ => rw [g2] at hr; cases hr; rfl
        | 3, _ => rw [g3] at hr; cases hr; rfl
        | 4, _ => rw [g4] at hr; cases hr; rfl
      have hc : ∀ i k r, blkAt (baseD s (.ptr e.length 0) ++ (List.replicate (e.length - 5) none ++ [some ⟨l, 38, false, none⟩])) i = some k → (e ++ [(b5, 0)])[i]? = some r → (i < 5 ∧ [r0.1, r1.1, r2.1, r3.1, r4.1][i]? = some r.1) ∨ (i = e.length ∧ r.1 = b5) := by
        intro i k r hk hr
        rcases hrow i k hk with ⟨h, _⟩ | ⟨h, _⟩ | ⟨h, _⟩ | ⟨h, _⟩ | ⟨h, _⟩ | ⟨h, _⟩
        case' inr.inr.inr.inr.inr => right; subst h; rw [hlast] at hr; cases hr; exact ⟨rfl, rfl⟩
        all_goals exact .inl ⟨by omega, hi i r (by omega) hr⟩
      refine ⟨e ++ [(b5, 0)], hx, ⟨by simp [baseD]; omega, fun i k hk => ?_, fun i j k k' r r' hk hk' hr hr' he => ?_, fun i k hk => by rcases hrow i k hk with ⟨_, rfl⟩ | ⟨_, rfl⟩ | ⟨_, rfl⟩ | ⟨_, rfl⟩ | ⟨_, rfl⟩ | ⟨_, rfl⟩ <;> exact fun t ht => by first | rfl | cases ht⟩, ?_⟩
      · rcases hrow i k hk with ⟨rfl, rfl⟩ | ⟨rfl, rfl⟩ | ⟨rfl, rfl⟩ | ⟨rfl, rfl⟩ | ⟨rfl, rfl⟩ | ⟨rfl, rfl⟩
        · exact ⟨r0, [.pointer (some ⟨r1.1, 0, none⟩), .int .i64 s.self, .pointer (some ⟨b5, 0, none⟩)], [], g0, by simp only [Blk.real, denL, den, g1, hlast, Option.map_some], by simpa using hD.dir, fun _ => rfl, fun h => by cases h⟩
        · exact ⟨r1, [.pointer (some ⟨r2.1, 0, none⟩), .int .i64 s.steps], [], g1, by simp only [Blk.real, denL, den, g2, Option.map_some], by simpa using hD.way.way, fun _ => rfl, fun h => by cases h⟩
        · exact ⟨r2, [.slice (some ⟨r3.1, 0, none⟩) s.m.words.length s.m.words.length, .slice (some ⟨r4.1, 0, none⟩) s.m.bytes.length s.m.bytes.length], [], g2, by simp only [Blk.real, denL, den, g3, g4, Option.map_some], by simpa using hD.way.mem.mem, fun _ => rfl, fun h => by cases h⟩
        · exact ⟨r3, s.m.words.map (Value.int .u64), [], g3, den_ints _ _ _ _, by simpa using hD.way.mem.words, fun _ => rfl, fun h => by cases h⟩
        · exact ⟨r4, s.m.bytes.map (Value.int .u8), [], g4, den_ints _ _ _ _, by simpa using hD.way.mem.bytes, fun _ => rfl, fun h => by cases h⟩
        · exact ⟨(b5, 0), vs, [], hlast, flat_any hl t1, by simpa using t2, fun _ => rfl, fun h => by cases h⟩
      · rcases hc i k r hk hr with ⟨a1, c1⟩ | ⟨a1, c1⟩ <;> rcases hc j k' r' hk' hr' with ⟨a2, c2⟩ | ⟨a2, c2⟩
        · exact (List.getElem?_inj (by simpa using a1) hnd).1 (c1.trans ((congrArg some he).trans c2.symm))
        · rw [he, c2] at c1
          have hm := List.mem_of_getElem? c1
          simp only [List.mem_cons, List.not_mem_nil, or_false] at hm
          omega
        · rw [← he, c1] at c2
          have hm := List.mem_of_getElem? c2
          simp only [List.mem_cons, List.not_mem_nil, or_false] at hm
          omega
        · omega
      · rintro b ⟨i, k, r, hk, hr, rfl⟩
        rcases hc i k r hk hr with ⟨a1, c1⟩ | ⟨a1, c1⟩
        · have hm := List.mem_of_getElem? c1
          simp only [List.mem_cons, List.not_mem_nil, or_false] at hm
          unfold InD
          rcases hm with h | h | h | h | h <;> simp [h]
        · rw [c1]; exact .inr (.inr (.inr (.inr (.inr rfl))))
    · cases hw
theorem readD_len {H : Heap} {s : DS} (h : readD H = some s) : 5 ≤ H.length := by
  obtain ⟨_, ⟨_, rfl⟩ | ⟨l, _, _, rfl⟩⟩ := readD_eq h <;> simp [baseD]
/-- what the end of a call by a port in own blocks has to be. -/
theorem via_end {e : Env} {H H1 : Heap} {w w' : World} {s s' : DS} {r0 r1 r2 r3 r4 : Nat × Nat} {td td' : Option Nat} {v : V} {rv : Value} {F : Nat → Prop} (E : Emb NP.pv e H w) (hrd : readD H = some s) (e0 : e[0]? = some r0) (e1 : e[1]? = some r1) (e2 : e[2]? = some r2) (e3 : e[3]? = some r3) (e4 : e[4]? = some r4)
    (hown : ∀ b, InD r0.1 r1.1 r2.1 r3.1 r4.1 td b → Own e H b) (hD' : DirAt w' r0.1 r1.1 r2.1 r3.1 r4.1 td' s') (hwr : writeD H.length s' = some H1) (htd : ∀ b, td' = some b → td = some b ∨ w.heap.size ≤ b) (hk : Keeps (InD r0.1 r1.1 r2.1 r3.1 r4.1 td) w w') (hv : ∀ e, denV NP.pv e v = some rv) :
    ∃ e' F' rv', (Ending.returned rv) = .returned rv' ∧ Ext e e' ∧ denV NP.pv e' v = some rv' ∧ Emb NP.pv e' H1 w' ∧ NP.Rep () F' w' ∧ (∀ b, Own e' H1 b → ¬ F' b) ∧ Keeps (fun b => Own e H b ∨ F b) w w' ∧ ∀ b, Own e' H1 b ∨ F' b → Own e H b ∨ F b ∨ w.heap.size ≤ b := by
  have h5 := readD_len hrd
  rw [E.len] at h5 hwr
  obtain ⟨e', hx, E', ho⟩ := emb_of_dir h5 e0 e1 e2 e3 e4 hD' hwr
  refine ⟨e', fun _ => False, rv, rfl, hx, hv e', E', fun b hb => hb, fun b _ hb => hb, hk.mono fun b hb => .inl (hown b hb), fun b hb => ?_⟩
  rcases hb with hb | hb
  · rcases ho b hb with h | h | h | h | h | h
    · exact .inl (hown b (.inl h))
    · exact .inl (hown b (.inr (.inl h)))
    · exact .inl (hown b (.inr (.inr (.inl h))))
    · exact .inl (hown b (.inr (.inr (.inr (.inl h)))))
    · exact .inl (hown b (.inr (.inr (.inr (.inr (.inl h))))))
    · rcases htd b h with h' | h'
      · exact .inl (hown b (.inr (.inr (.inr (.inr (.inr h'))))))
      · exact .inr (.inr h')
  · exact hb.elim
/-- a function with a summary over a port, called by a direct port in own blocks. -/
def viaD (m : Sm) : Sm := fun args H => match args with
  | .c (.ifc t (.ptr 0 0)) :: rest => if t = 27 ∧ rest.all flatV = true then
      match readD H, m (.c .port :: rest) [] with
      | some s, some S => match S.t.run dstep s with
        | some (x, s') => match S.f x with
          | some (v, []) => match flatV v, writeD H.length s' with
            | true, some H1 => some (mkS Unit (.ret ()) fun _ => some (v, H1))
            | _, _ => none
          | _ => none
        | none => none
      | _, _ => none
    else none
  | _ => none
theorem sound_via {f : FuncId} {m : Sm} (hs : ∀ d wy mm wb bb, SoundF (Dir d wy mm wb bb) f m) : SoundF NP f (viaD m) := by
  refine ⟨(hs 0 0 0 0 0).1, ?_⟩
  intro args H S hS e w s0 F vs E hv hR hF x v H' s' hrun hfx
  unfold viaD at hS
  split at hS
  · rename_i t rest
    split at hS
    · rename_i hc
      obtain ⟨rfl, hflat⟩ := hc
      split at hS
      · rename_i s S0 hrd hm
        split at hS
        · rename_i x0 s1 hrun0
          split at hS
          · rename_i v0 hf0
            split at hS
            · rename_i H1 hfl hwr
              cases hS
              simp only [T.run, Option.some.injEq, Prod.mk.injEq] at hrun hfx
              obtain ⟨rfl, rfl⟩ := hfx
              obtain ⟨r0, r1, r2, r3, r4, td, e0, e1, e2, e3, e4, hD, hown⟩ := dir_of_emb E hrd
              have hv' : allSome (denV (pvD r0.1) []) (.c .port :: rest) = some vs := by
                simp only [allSome, denV, den, e0, Option.map_some, pvD] at hv ⊢
                rw [flatVs_den (pv := NP.pv) (e := e) hflat]
                exact hv
              obtain ⟨rv, hrv⟩ := flatV_some NP.pv e hfl
              refine (dir_call (hs r0.1 r1.1 r2.1 r3.1 r4.1) hm hv' hD hrun0 hf0 (fun e' => (flatV_den hfl).trans hrv)).mono ?_
              rintro en w' ⟨rfl, ⟨td', hD', htd⟩, hk⟩
              exact via_end E hrd e0 e1 e2 e3 e4 hown hD' hwr htd hk (fun e' => (flatV_den hfl).trans hrv)
            · cases hS
          · cases hS
        · cases hS
      · cases hS
    · cases hS
  · cases hS
/-- a direct port's own method. -/
def viaM (name : String) : Sm := fun args H => match args with
  | .c (.ptr 0 0) :: rest => if rest.all flatV = true then
      match readD H, popOf name rest with
      | some s, some p => match dstep p s with
        | some (x, s') => match flatV (ansV p x), writeD H.length s' with
          | true, some H1 => some (mkS Unit (.ret ()) fun _ => some (ansV p x, H1))
          | _, _ => none
        | none => none
      | _, _ => none
    else none
  | _ => none
theorem sound_viaM {f : FuncId} {name : String} (hb : ∃ fn c, (Tryz.prog).funcs[f]? = some fn ∧ (fn.name == "runtime.NumGoroutine") = false ∧ fn.body = some c) (hn : ∀ d (args : List Value) w, (callMethod (pvD d) name args.toArray).run Tryz.prog w = .ok (.enter f (#[.pointer (some ⟨d, 0, none⟩)] ++ args.toArray)) w) : SoundF NP f (viaM name) := by
  refine ⟨hb, ?_⟩
  intro args H S hS e w s0 F vs E hv hR hF x v H' s' hrun hfx
  unfold viaM at hS
  split at hS
  · rename_i rest
    split at hS
    · rename_i hflat
      split at hS
      · rename_i s p hrd hp
        split at hS
        · rename_i x0 s1 hrun0
          split at hS
          · rename_i H1 hfl hwr
            cases hS
            simp only [T.run, Option.some.injEq, Prod.mk.injEq] at hrun hfx
            obtain ⟨rfl, rfl⟩ := hfx
            obtain ⟨r0, r1, r2, r3, r4, td, e0, e1, e2, e3, e4, hD, hown⟩ := dir_of_emb E hrd
            simp only [allSome, denV, den, e0, Option.map_some] at hv
            split at hv
            · rename_i us hus
              cases hv
              have hv' : allSome (denV (pvD r0.1) []) rest = some us := by rw [flatVs_den (pv := NP.pv) (e := e) hflat]; exact hus
              obtain ⟨f', recv, rv, hm, hfv, hc⟩ := dir_does (d := r0.1) (wy := r1.1) (mm := r2.1) (wb := r3.1) (bb := r4.1) (F := InD r0.1 r1.1 r2.1 r3.1 r4.1 td) (w := w) hp hrun0 hv' ⟨td, hD, fun b => Iff.rfl⟩
              have h1 := (hm w).symm.trans (hn r0.1 us w)
              simp only [Result.ok.injEq, and_true] at h1
              have h2 := Next.enter.inj h1
              obtain ⟨rfl, h2⟩ := h2
              rw [h2] at hc
              have hc' : Calls Tryz.prog f' (Value.pointer (some ⟨r0.1, 0, none⟩) :: us).toArray w fun e w' => e = .returned rv ∧ ∃ F', DRep r0.1 r1.1 r2.1 r3.1 r4.1 s1 F' w' ∧ Keeps (InD r0.1 r1.1 r2.1 r3.1 r4.1 td) w w' ∧ ∀ b, F' b → InD r0.1 r1.1 r2.1 r3.1 r4.1 td b ∨ w.heap.size ≤ b := by simpa using hc
              refine hc'.mono ?_
              rintro en w' ⟨rfl, F', ⟨td', hD', hF'⟩, hk, hn'⟩
              refine via_end E hrd e0 e1 e2 e3 e4 hown hD' hwr (fun b hb => ?_) hk (fun e' => ?_)
              · have hne := hD'.tne b hb
                rcases hn' b ((hF' b).2 (.inr (.inr (.inr (.inr (.inr hb)))))) with h | h
                · rcases h with h | h | h | h | h | h
                  · exact absurd h hne.1
                  · exact absurd h hne.2.1
                  · exact absurd h hne.2.2.1
                  · exact absurd h hne.2.2.2.1
                  · exact absurd h hne.2.2.2.2
                  · exact .inl h
                · exact .inr h
              · exact (flatV_den hfl).trans (hfv e')
            · cases hv
          · cases hS
        · cases hS
      · cases hS
    · cases hS
  · cases hS
end Go.Proofs.YtaegelbaghaooaaGreat
