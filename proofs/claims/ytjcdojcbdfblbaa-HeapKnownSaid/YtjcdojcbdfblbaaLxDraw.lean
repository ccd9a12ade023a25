/- The local executor: regions that draw their order: all orders come to what the text's comes to. -/
import Derived.Test.YtjcdojcbdfblbaaLxReg
namespace Go.Proofs.Ytjcdojcbdfblbaa.Lx
open Go
theorem partsOf_congr {ρ ρ' : Operand → Option V} {l : List (Nat × Operand)} (h : ∀ x ∈ l.map (·.2), ρ x = ρ' x) : partsOf ρ l = partsOf ρ' l := by
  unfold partsOf
  refine allSome_congr fun p hp => ?_
  rw [h p.2 (List.mem_map.2 ⟨p, hp, rfl⟩)]
theorem optO_congr {ρ ρ' : Operand → Option V} {x : Option Operand} (h : ∀ y ∈ x.toArray, ρ y = ρ' y) : optO ρ x = optO ρ' x := by
  cases x with
  | none => rfl
  | some y => simp only [optO, h y (by simp)]
theorem evStep_congr {P : Program} {op : Op} {ρ ρ' : Operand → Option V} {H : Heap} (h : ∀ x ∈ op.operands, ρ x = ρ' x) : evStep P op ρ H = evStep P op ρ' H := by
  cases op <;> simp only [Op.operands] at h <;> try rfl
  case move x => simp only [evStep, h x (by simp)]
  case assign x => simp only [evStep, h x (by simp)]
  case pick c a b => simp only [evStep, h c (by simp), h a (by simp), h b (by simp)]
  case box t x => simp only [evStep, h x (by simp)]
  case build t ps => simp only [evStep, partsOf_congr (ρ := ρ) (ρ' := ρ') (l := ps.toList) fun x hx => h x (by simpa using hx)]
  case buildSlice t n ps => simp only [evStep, partsOf_congr (ρ := ρ) (ρ' := ρ') (l := ps.toList) fun x hx => h x (by simpa using hx)]
  case load t x => simp only [evStep, h x (by simp)]
  case store t x y => simp only [evStep, h x (by simp), h y (by simp)]
  case nilCheck x => simp only [evStep, h x (by simp)]
  case binOp o t x y u => simp only [evStep, h x (by simp), h y (by simp)]
  case unOp o t x => simp only [evStep, h x (by simp)]
  case convert s d x => simp only [evStep, h x (by simp)]
  case makeFunc fn first captured =>
    cases fn <;> try rfl
    · simp only [evStep, allSome_congr (f := ρ) (g := ρ') (l := captured.toList) fun x hx => h x (by simp at hx ⊢; exact .inr hx)]
    · simp only [evStep]
      split
      · split
        · rename_i x hx
          rw [h x (by simp; left; rw [← Array.mem_toList_iff, hx]; simp)]
        · rfl
      · rfl
  case slice t x lo hi mx =>
    cases mx with
    | some y => rfl
    | none =>
      simp only [evStep, h x (by simp), optO_congr (ρ := ρ) (ρ' := ρ') (x := lo) fun y hy => h y (by simp at hy ⊢; simp [hy]), optO_congr (ρ := ρ) (ρ' := ρ') (x := hi) fun y hy => h y (by simp at hy ⊢; simp [hy])]
  case fieldAddr t x f => simp only [evStep, h x (by simp)]
  case field t x f => simp only [evStep, h x (by simp)]
  case indexAddr t x y => simp only [evStep, h x (by simp), h y (by simp)]
  case index t x y => simp only [evStep, h x (by simp), h y (by simp)]
  case extract x i => simp only [evStep, h x (by simp)]
  case makeInterface t x => simp only [evStep, h x (by simp)]
  case makeMap t r => cases r <;> rfl
  case makeSlice t l c => simp only [evStep, h l (by simp), h c (by simp)]
  case lookup t m x ok => simp only [evStep, h m (by simp), h x (by simp)]
  case mapUpdate t m x v => simp only [evStep, h m (by simp), h x (by simp), h v (by simp)]
  case call c =>
    have h1 : allSome ρ c.args.toList = allSome ρ' c.args.toList := allSome_congr fun x hx => h x (by simp [Call.operands]; right; simpa using hx)
    simp only [evStep, h1]
    cases hc : c.callee with
    | builtin b => rfl
    | invoke r n => simp only [h r (by simp [Call.operands, hc])]
    | value f => simp only [h f (by simp [Call.operands, hc])]
/-! ### how operations hang on the blocks -/
/-- two heaps alike in the blocks of the first. -/
def Sub (H H2 : Heap) : Prop := ∀ b k, blkAt H b = some k → blkAt H2 b = some k
def setH (H : Heap) : Stp → Stp
  | .val g v _ => .val g v H
  | q => q
theorem map_val {α : Type} (x : Option α) (g : α → Bool) (v : α → V) (H : Heap) : (x.map fun a => Stp.val (g a) (v a) H) = Option.map (setH H) (x.map fun a => Stp.val (g a) (v a) []) := by
  cases x <;> rfl
theorem builtin0 {P : Program} {b : Builtin} {ts : List TypeId} {vs : List V} {H : Heap} : evBuiltin P b ts vs H = Option.map (setH H) (evBuiltin P b ts vs []) := by
  unfold evBuiltin
  split
  · split <;> rfl
  · rfl
  · rfl
  · rfl
theorem kind0 {P : Program} {op : Op} {ρ : Operand → Option V} {H : Heap} (hk : kindO op = 0) : evStep P op ρ H = Option.map (setH H) (evStep P op ρ []) := by
  cases op <;> simp [kindO] at hk
  case lookup t a x ok => cases a <;> simp at hk
  case store t a x => cases a <;> simp at hk
  case move x => simp only [evStep]; exact map_val (ρ x) (fun _ => true) id H
  case assign x => simp only [evStep]; exact map_val (ρ x) (fun _ => true) id H
  case pick c a b =>
    simp only [evStep]
    split
    · rename_i t _
      cases t
      · exact map_val (ρ b) (fun _ => true) id H
      · exact map_val (ρ a) (fun _ => true) id H
    · rfl
  case build t ps =>
    simp only [evStep]
    split
    · split
      · split
        · exact map_val _ (fun _ => true) (fun r => .agg r) H
        · rfl
      · split
        · exact map_val _ (fun _ => true) (fun r => .agg r) H
        · rfl
      · rfl
    · rfl
  case nilCheck x =>
    simp only [evStep]
    split
    · rfl
    · rfl
    · rfl
    · split
      · split <;> rfl
      · rfl
    · rfl
    · rfl
  case binOp o t x y u =>
    simp only [evStep]
    split
    · exact map_val _ (fun r : Bool × C => r.1) (fun r : Bool × C => .c r.2) H
    · exact map_val _ (fun _ : C => true) (fun r : C => .c r) H
    · rfl
  case unOp o t x =>
    simp only [evStep]
    split
    · exact map_val _ (fun _ => true) (fun r => .c r) H
    · rfl
  case convert a b x =>
    simp only [evStep]
    split <;> rfl
  case makeFunc fn first captured =>
    cases fn <;> try rfl
    · simp only [evStep]
      split
      · split
        · exact map_val _ (fun _ => true) (fun cs => .c (.fn _ cs)) H
        · rfl
      · rfl
    · simp only [evStep]
      split
      · split
        · split <;> rfl
        · rfl
      · rfl
  case slice t x lo hi mx =>
    cases mx with
    | some y => rfl
    | none =>
      simp only [evStep]
      split
      · split
        · split <;> rfl
        · rfl
      · split
        · split <;> rfl
        · rfl
      · split
        · split
          · split <;> rfl
          · rfl
        · rfl
      · split
        · split <;> rfl
        · rfl
      · rfl
  case fieldAddr t x f =>
    simp only [evStep]
    split
    · split
      · split
        · split <;> rfl
        · rfl
      · rfl
    · split
      · split
        · split <;> rfl
        · rfl
      · rfl
    · rfl
  case field t x f =>
    simp only [evStep]
    split
    · split
      · exact map_val _ (fun _ => true) id H
      · rfl
    · rfl
  case indexAddr t x y =>
    simp only [evStep]
    split
    · rename_i len e b o k i _ _ _
      exact map_val _ (fun _ => decide (0 ≤ i ∧ i < (len : Int))) (fun n => .c (.ptr b (o + i.toNat * n))) H
    · rename_i e b o len c k i _ _ _
      exact map_val _ (fun _ => decide (0 ≤ i ∧ i < (len : Int))) (fun n => .c (.ptr b (o + i.toNat * n))) H
    · split <;> rfl
    · rename_i e b o z len c k i _ _ _
      exact map_val _ (fun _ => decide (0 ≤ i ∧ i < (len : Int))) (fun n => .c (.pr b o i n 0)) H
    · rename_i e b len k i _ _ _
      exact map_val _ (fun _ => decide (0 ≤ i ∧ i < (len : Int))) (fun n => .c (.pr b 0 i n 0)) H
    · rfl
  case index t x y =>
    simp only [evStep]
    split
    · rename_i len e cs k i _ _ _
      split
      · exact map_val _ (fun _ => decide (0 ≤ i ∧ i < (len : Int))) id H
      · rfl
    · rfl
  case extract x i =>
    simp only [evStep]
    split
    · exact map_val _ (fun _ => true) (fun v : V1 => v.up) H
    · rfl
  case makeInterface t x =>
    simp only [evStep]
    split
    · split <;> rfl
    · rfl
  case call c =>
    obtain ⟨callee, args, ats⟩ := c
    cases callee <;> simp [kindO] at hk
    simp only [evStep]
    split
    · split at hk
      · exact builtin0
      · exact builtin0
      · exact builtin0
      · cases hk
      · cases hk
    · rfl
/-- a pure operation hangs on no block, and changes none. -/
theorem kind0_val {P : Program} {op : Op} {ρ : Operand → Option V} {H : Heap} {q : Stp} (hk : kindO op = 0) (h : evStep P op ρ H = some q) : ∃ g v, q = .val g v H ∧ ∀ H2, evStep P op ρ H2 = some (.val g v H2) := by
  rw [kind0 hk, Option.map_eq_some_iff] at h
  obtain ⟨q0, h1, rfl⟩ := h
  have hc : ∀ {f args}, q0 ≠ .call f args := by
    rintro f args rfl
    cases op <;> simp [kindO] at hk
    case lookup t a x ok => cases a <;> simp at hk
    case store t a x => cases a <;> simp at hk
    case call c =>
      obtain ⟨callee, as, ats⟩ := c
      cases callee <;> simp [kindO] at hk
      simp only [evStep] at h1
      split at h1
      · split at hk
        · simp only at h1; unfold evBuiltin at h1; (repeat' (split at h1)) <;> cases h1
        · simp only at h1; unfold evBuiltin at h1; (repeat' (split at h1)) <;> cases h1
        · simp only at h1; unfold evBuiltin at h1; (repeat' (split at h1)) <;> cases h1
        · cases hk
        · cases hk
      · cases h1
    all_goals
      simp only [evStep] at h1
      (repeat' (split at h1)) <;> first
        | contradiction
        | cases h1
        | (rw [Option.map_eq_some_iff] at h1; obtain ⟨_, _, h2⟩ := h1; cases h2)
  have hp : ∀ {p}, q0 ≠ .port p := by
    rintro p rfl
    cases op <;> simp [kindO] at hk
    case lookup t a x ok => cases a <;> simp at hk
    case store t a x => cases a <;> simp at hk
    case call c =>
      obtain ⟨callee, as, ats⟩ := c
      cases callee <;> simp [kindO] at hk
      simp only [evStep] at h1
      split at h1
      · split at hk
        · simp only at h1; unfold evBuiltin at h1; (repeat' (split at h1)) <;> cases h1
        · simp only at h1; unfold evBuiltin at h1; (repeat' (split at h1)) <;> cases h1
        · simp only at h1; unfold evBuiltin at h1; (repeat' (split at h1)) <;> cases h1
        · cases hk
        · cases hk
      · cases h1
    all_goals
      simp only [evStep] at h1
      (repeat' (split at h1)) <;> first
        | contradiction
        | cases h1
        | (rw [Option.map_eq_some_iff] at h1; obtain ⟨_, _, h2⟩ := h1; cases h2)
  cases q0 with
  | val g v H0 => exact ⟨g, v, rfl, fun H2 => by rw [kind0 hk, h1]; rfl⟩
  | port p => exact absurd rfl hp
  | call f args => exact absurd rfl hc
theorem kind1_val {P : Program} {op : Op} {ρ : Operand → Option V} {H : Heap} {q : Stp} (hk : kindO op = 1) (h : evStep P op ρ H = some q) :
    ∃ g v b, q = .val g v H ∧ (∃ k, blkAt H b = some k) ∧ (∃ x, x ∈ op.operands ∧ ptrB (ρ x) = some b) ∧ ∀ H2, blkAt H2 b = blkAt H b → evStep P op ρ H2 = some (.val g v H2) := by
  cases op <;> simp [kindO] at hk
  case lookup t a x ok => cases a <;> simp at hk
  case store t a x => cases a <;> simp at hk
  case load t x =>
    simp only [evStep] at h
    split at h
    · rename_i b o hx
      split at h
      · rename_i k hb
        rw [Option.map_eq_some_iff] at h
        obtain ⟨v, h1, rfl⟩ := h
        refine ⟨v.1, v.2, b, rfl, ⟨k, hb⟩, ⟨x, by simp [Op.operands], by rw [hx]; rfl⟩, fun H2 h2 => ?_⟩
        simp only [evStep, hx, h2, hb, h1, Option.map_some]
      · cases h
    · rename_i b off i n f hx
      split at h
      · rename_i k hb
        rw [Option.map_eq_some_iff] at h
        obtain ⟨v, h1, rfl⟩ := h
        refine ⟨v.1, v.2, b, rfl, ⟨k, hb⟩, ⟨x, by simp [Op.operands], by rw [hx]; rfl⟩, fun H2 h2 => ?_⟩
        simp only [evStep, hx, h2, hb, h1, Option.map_some]
      · cases h
    · cases h
  case call c =>
    obtain ⟨callee, as, ats⟩ := c
    cases callee <;> simp [kindO] at hk
    split at hk <;> simp at hk
theorem kind7_val {P : Program} {t : TypeId} {m x : Operand} {ok : Bool} {ρ : Operand → Option V} {H : Heap} {q : Stp} (h : evStep P (.lookup t m x ok) ρ H = some q) :
    ∃ g v b, q = .val g v H ∧ ρ m = some (.c (.mp b)) ∧ ∀ H2, blkAt H2 b = blkAt H b → evStep P (.lookup t m x ok) ρ H2 = some (.val g v H2) := by
  change evLookup P t (ρ m) (ρ x) ok H = some q at h
  unfold evLookup at h
  split at h
  rotate_left
  · cases h
  rename_i b z hm hx
  split at h
  rotate_left
  · cases h
  rename_i k kt g0 sh0 r0 hk ht
  split at h
  rotate_left
  · cases h
  rename_i g sh l hmp
  split at h
  rotate_left
  · cases h
  rename_i hgs
  split at h
  · split at h
    · rename_i v hv
      cases h
      refine ⟨_, _, b, rfl, hm, fun H2 h2 => ?_⟩
      show evLookup P t (ρ m) (ρ x) true H2 = _
      simp only [evLookup, hm, hx, h2, hk, ht, hmp, if_pos hgs, hv]
    · cases h
  · cases h
    refine ⟨_, _, b, rfl, hm, fun H2 h2 => ?_⟩
    show evLookup P t (ρ m) (ρ x) false H2 = _
    simp only [evLookup, hm, hx, h2, hk, ht, hmp, if_pos hgs]
theorem kind2_val {P : Program} {op : Op} {ρ : Operand → Option V} {H : Heap} {q : Stp} (hk : kindO op = 2) (h : evStep P op ρ H = some q) :
    ∃ v k, q = .val true v (newB H k) ∧ ∀ H2, H2.length = H.length → evStep P op ρ H2 = some (.val true v (newB H2 k)) := by
  cases op <;> simp [kindO] at hk
  case lookup t a x ok => cases a <;> simp at hk
  case store t a x => cases a <;> simp at hk
  case alloc t =>
    simp only [evStep] at h ⊢
    split at h
    · rename_i z hz
      split at h
      · rename_i cs hc
        cases h
        exact ⟨_, _, rfl, fun H2 h2 => by rw [h2]⟩
      · cases h
    · cases h
  case box t x =>
    simp only [evStep] at h ⊢
    split at h
    · rename_i z hz
      split at h
      · rename_i cs hc
        cases h
        exact ⟨_, _, rfl, fun H2 h2 => by rw [h2]⟩
      · cases h
    · cases h
  case buildSlice t len ps =>
    simp only [evStep] at h ⊢
    split at h
    · rename_i el ps' hu hps
      split at h
      · rename_i n z hn hz
        split at h
        · rename_i zs hzs
          split at h
          · rename_i h0
            split at h
            · rename_i r hr
              cases h
              exact ⟨_, _, rfl, fun H2 h2 => by simp only [hu, hps, hn, hz, hzs, if_pos h0, hr, h2]⟩
            · cases h
          · cases h
        · cases h
      · cases h
    · cases h
  case call c =>
    obtain ⟨callee, as, ats⟩ := c
    cases callee <;> simp [kindO] at hk
    split at hk <;> simp at hk
/-- a new block hangs on slots alone. -/
theorem new_val {P : Program} {op : Op} {ρ : Operand → Option V} {H : Heap} {q : Stp} (hk : (∃ t, op = .alloc t) ∨ ∃ t len ps, op = .buildSlice t len ps) (h : evStep P op ρ H = some q) :
    ∃ (f : Nat → V) (kb : Blk) (rvf : Nat → Value), kb.tab = none ∧ kb.grown = false ∧ (∀ H2, evStep P op ρ H2 = some (.val true (f H2.length) (newB H2 kb))) ∧ (∀ pv e x c, denV pv (e ++ [(x, c)]) (f e.length) = some (rvf x)) ∧ ∀ pv e (ra : Operand → Value), One pv → Says pv e ρ ra → ∃ vs, denL pv e kb.cells = some vs := by
  rcases hk with ⟨t, rfl⟩ | ⟨t, len, ps, rfl⟩
  · simp only [evStep] at h ⊢
    split at h
    · rename_i z hz
      split at h
      · rename_i cs hc
        refine ⟨fun n => .c (.ptr n 0), ⟨cs, t, false, none⟩, fun x => .pointer (some ⟨x, 0, none⟩), rfl, rfl, fun H2 => rfl, fun pv e x c => by simp [denV, den], fun pv e ra hp _ => ?_⟩
        obtain ⟨rv, _, h2⟩ := zeroT_run hz pv e
        exact ⟨_, denV_cells hp h2 hc⟩
      · cases h
    · cases h
  · simp only [evStep] at h ⊢
    split at h
    · rename_i el ps' hu hps
      split at h
      · rename_i n z hn hz
        split at h
        · rename_i zs hzs
          split at h
          · rename_i h0
            split at h
            · rename_i r hr
              refine ⟨fun n => .c (.sl n 0 len len), ⟨r, el, false, none⟩, fun x => .slice (some ⟨x, 0, none⟩) len len, rfl, rfl, fun H2 => if_pos h0, fun pv e x c => by simp [denV, den], fun pv e ra hp hρ => ?_⟩
              obtain ⟨zv, _, h2⟩ := zeroT_run hz pv e
              obtain ⟨us, _, h4⟩ := fill_run hp ps' _ _ r _ hr (den_rep (denV_cells hp h2 hzs) len) (parts_run hρ _ _ hps)
              exact ⟨us, h4⟩
            · cases h
          · cases h
        · cases h
      · cases h
    · cases h
theorem sameS_some : ∀ {H H' : Heap} {b : Nat} {k : Blk}, sameS H H' = true → blkAt H b = some k → ∃ k', blkAt H' b = some k'
  | [], H', b, k, h, hb => by simp [blkAt] at hb
  | some x :: H, some y :: H', 0, k, h, hb => ⟨y, rfl⟩
  | some x :: H, some y :: H', b + 1, k, h, hb => by
    have := sameS_some (H := H) (H' := H') (b := b) (k := k) h hb
    exact this
  | none :: H, none :: H', 0, k, h, hb => by simp [blkAt] at hb
  | none :: H, none :: H', b + 1, k, h, hb => by
    have := sameS_some (H := H) (H' := H') (b := b) (k := k) h hb
    exact this
  | some x :: H, [], b, k, h, hb => by cases h
  | none :: H, [], b, k, h, hb => by cases h
  | some x :: H, none :: H', b, k, h, hb => by cases h
  | none :: H, some y :: H', b, k, h, hb => by cases h
theorem sameS_app : ∀ (H : Heap) (x : Heap), sameS H (H ++ x) = true
  | [], x => rfl
  | some y :: H, x => sameS_app H x
  | none :: H, x => sameS_app H x
theorem okV_refl (pu : PM) (H : Heap) : okV pu H H = true := by
  cases pu <;> first | rfl | (have := sameS_app H []; rw [List.append_nil] at this; exact this)
theorem okV_new (pu : PM) (H : Heap) (k : Blk) : okV pu H (newB H k) = true := by
  cases pu <;> first | rfl | exact sameS_app H _
theorem evAppend_heap {P : Program} {ts : List TypeId} {vs : List V} {H : Heap} {q : Stp} (h : evAppend P ts vs H = some q) : ∃ g v kn, q = .val g v (newB H kn) ∨ ∃ b2 k2, blkAt H b2 = some k2 ∧ q = .val g v (newB (setB H b2 none) kn) := by
  unfold evAppend at h
  (repeat' (split at h)) <;> try (unfold evAppendV at h)
  all_goals try (unfold evAppendR at h)
  all_goals try (unfold evAppendN at h)
  all_goals (repeat' (split at h))
  all_goals first
    | (cases h; done)
    | (cases h; exact ⟨_, _, _, .inl rfl⟩)
    | (cases h; exact ⟨_, _, _, .inr ⟨_, _, by assumption, rfl⟩⟩)
theorem kind6_val {P : Program} {op : Op} {ρ : Operand → Option V} {H : Heap} {q : Stp} (hk : kindO op = 6) (h : evStep P op ρ H = some q) : ∃ g v H', q = .val g v H' ∧ (sameS H H' = true → ∃ k, H' = newB H k) := by
  cases op <;> simp [kindO] at hk
  case lookup t a x ok => cases a <;> simp at hk
  case store t a x => cases a <;> simp at hk
  case call c =>
    obtain ⟨callee, as, ats⟩ := c
    cases callee with
    | builtin b =>
      simp only [evStep] at h
      split at h
      · cases b <;> simp at hk
        obtain ⟨g, v, kn, rfl | ⟨b2, k2, hb2, rfl⟩⟩ := evAppend_heap h
        · exact ⟨_, _, _, rfl, fun _ => ⟨_, rfl⟩⟩
        · refine ⟨_, _, _, rfl, fun hs => ?_⟩
          obtain ⟨k', hk'⟩ := sameS_some hs hb2
          have hlt : b2 < H.length := by
            rw [blkAt_eq] at hb2
            by_cases hi : b2 < H.length
            · exact hi
            · rw [List.getElem?_eq_none (by omega)] at hb2; simp at hb2
          rw [blkAt_new] at hk'
          rw [setB_eq, List.length_set, if_neg (by omega), blkAt_eq, List.getElem?_set_self hlt] at hk'
          cases hk'
      · cases h
    | invoke r n => simp [kindO] at hk
    | value f => simp [kindO] at hk
theorem kind3_val {P : Program} {op : Op} {ρ : Operand → Option V} {H : Heap} {q : Stp} (hk : kindO op = 3) (h : evStep P op ρ H = some q) : (∀ g v H', q ≠ .val g v H') ∧ ∀ H2, evStep P op ρ H2 = some q := by
  cases op <;> simp [kindO] at hk
  case lookup t a x ok => cases a <;> simp at hk
  case store t a x => cases a <;> simp at hk
  case call c =>
    obtain ⟨callee, as, ats⟩ := c
    cases callee with
    | builtin b => simp [kindO] at hk; split at hk <;> simp at hk
    | invoke r n =>
      simp only [evStep] at h ⊢
      refine ⟨fun g v H' e => ?_, fun _ => h⟩
      subst e
      (repeat' (split at h)) <;> first
        | cases h
        | (rw [Option.map_eq_some_iff] at h; obtain ⟨_, _, h2⟩ := h; cases h2)
    | value f =>
      simp only [evStep] at h ⊢
      refine ⟨fun g v H' e => ?_, fun _ => h⟩
      subst e
      (repeat' (split at h)) <;> first
        | cases h
        | (rw [Option.map_eq_some_iff] at h; obtain ⟨_, _, h2⟩ := h; cases h2)
end Go.Proofs.Ytjcdojcbdfblbaa.Lx
