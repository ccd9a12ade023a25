/- The local executor: what a port has to do; each operation but calls, at once. -/
import Derived.Test.YtjcdojcbdfblbaaLxOps2
namespace Go.Proofs.Ytjcdojcbdfblbaa.Lx
open Go

/-- values without addresses of own blocks. -/
def Flat (pv : Value) (v : V) (rv : Value) : Prop := ∀ e, denV pv e v = some rv
/-- a port: its value, its methods, what it does by them, and how its state lies in memory (in these blocks). -/
structure Port (P : Program) (σ : Type) where
  pv : Value
  t : TypeId
  u : Value
  isIface : pv = .iface t u
  step : PStep σ
  Rep : σ → (Nat → Prop) → World → Prop
  lt : ∀ {s F w}, Rep s F w → ∀ b, F b → b < w.heap.size
  stable : ∀ {s F w w'}, Rep s F w → (∀ b, F b → w'.heap[b]? = w.heap[b]?) → Rep s F w'
  sure : ∀ name, portMeth name = true → hasPort P = true → ∀ w, (nilAhead (P.types.size + Made.depth) t u name).run P w = .ok (some false) w
  does : ∀ {name args p s s' x F w} {vs : List Value}, popOf name args = some p → step p s = some (x, s') → allSome (denV pv []) args = some vs → Rep s F w →
    ∃ f recv rv, (∀ w, (callMethod pv name vs.toArray).run P w = .ok (.enter f (#[recv] ++ vs.toArray)) w) ∧ Flat pv (ansV p x) rv ∧
      Calls P f (#[recv] ++ vs.toArray) w fun e w' => e = .returned rv ∧ ∃ F', Rep s' F' w' ∧ Keeps F w w' ∧ ∀ b, F' b → F b ∨ w.heap.size ≤ b
section
variable {P : Program} {σ : Type} (I : Port P σ)
theorem Port.one : One I.pv := by rw [I.isIface]; exact ⟨(fun _ h => by cases h), (fun _ h => by cases h)⟩
theorem Port.ex : ∃ t u, I.pv = .iface t u := ⟨I.t, I.u, I.isIface⟩
variable {ρ : Operand → Option V} {ra : Operand → Value} {o : Oper} {e : Env} {H : Heap} {w : World}
theorem did_sure {x : Operand} {s : String} (hρ : Says I.pv e ρ ra) (E : Emb I.pv e H w) (ho : o.op = .nilCheck x) (hx : ρ x = some (.c (.meth s .port))) (hs : portMeth s = true) (hP : hasPort P = true) : Did P I.pv ra o e H w (.c (.meth s .port)) H := by
  have h1 := hρ x _ hx
  refine did_pure E (rv := ra x) ?_ h1
  simp only [denV, den, Option.map_some, Option.some.injEq] at h1
  rw [I.isIface] at h1
  have h2 := I.sure s hs hP w
  simp only [execOp, ho, ← h1]
  simp [show (program.run P w) = .ok P w from rfl, h2]
theorem step_val {v : V} {H' : Heap} (hρ : Says I.pv e ρ ra) (E : Emb I.pv e H w) (h : evStep P o.op ρ H = some (.val true v H')) : Did P I.pv ra o e H w v H' := by
  have hp := I.one
  have hpi := I.ex
  generalize ho : o.op = op at h
  unfold evStep at h
  split at h
  case h_1 x =>
    rw [Option.map_eq_some_iff] at h; obtain ⟨v', h1, h2⟩ := h; cases h2
    exact did_move hρ E (.inl ho) h1
  case h_2 x =>
    rw [Option.map_eq_some_iff] at h; obtain ⟨v', h1, h2⟩ := h; cases h2
    exact did_move hρ E (.inr ho) h1
  case h_3 c a b =>
    split at h
    · rename_i t hc
      cases t
      · simp only [Option.map_eq_some_iff] at h; obtain ⟨v', h1, h2⟩ := h; cases h2
        exact did_pick hρ E ho hc h1
      · simp only [Option.map_eq_some_iff] at h; obtain ⟨v', h1, h2⟩ := h; cases h2
        exact did_pick hρ E ho hc h1
    · cases h
  case h_4 t =>
    split at h
    · rename_i z hz
      split at h
      · rename_i cs hc
        cases h
        exact did_alloc hp E ho hz hc
      · cases h
    · cases h
  case h_5 t x =>
    split at h
    · rename_i v' hv
      split at h
      · rename_i cs hc
        cases h
        exact did_box hρ hp E ho hv hc
      · cases h
    · cases h
  case h_6 t parts =>
    split at h
    · rename_i z ps hz hps
      split at h
      · rename_i cs fs hc hu
        split at h
        · rename_i places hpl
          rw [Option.map_eq_some_iff] at h; obtain ⟨r, h1, h2⟩ := h; cases h2
          exact did_buildS hp hρ E ho hz hps hc hu hpl h1
        · cases h
      · rename_i cs n el hc hu
        split at h
        · rename_i n hn
          rw [Option.map_eq_some_iff] at h; obtain ⟨r, h1, h2⟩ := h; cases h2
          exact did_buildA hp hρ E ho hz hps hc hu hn h1
        · cases h
      · cases h
    · cases h
  case h_7 t len parts =>
    split at h
    · rename_i el ps hu hps
      split at h
      · rename_i n z hn hz
        split at h
        · rename_i zs hzs
          split at h
          · rename_i h0
            split at h
            · rename_i r hr
              cases h
              exact did_buildSlice hp hρ E ho hu hps hn hz hzs h0 hr
            · cases h
          · cases h
        · cases h
      · cases h
    · cases h
  case h_8 t a =>
    split at h
    · rename_i b q ha
      split at h
      · rename_i k hk
        rw [Option.map_eq_some_iff] at h; obtain ⟨⟨g, r⟩, h1, h2⟩ := h
        simp only [Stp.val.injEq] at h2
        obtain ⟨rfl, rfl, rfl⟩ := h2
        exact did_load hρ E ho ha hk h1
      · cases h
    · rename_i b off i n f ha
      split at h
      · rename_i k hk
        rw [Option.map_eq_some_iff] at h; obtain ⟨⟨g, r⟩, h1, h2⟩ := h
        simp only [Stp.val.injEq] at h2
        obtain ⟨rfl, rfl, rfl⟩ := h2
        exact did_loadP hρ E ho ha hk h1
      · cases h
    · cases h
  case h_9 t a x =>
    split at h
    · rename_i b q v' ha hx
      split at h
      · rename_i k xs n hk hxs hn
        split at h
        · rename_i hl
          split at h
          · rename_i g kn hcs
            simp only [Option.some.injEq, Stp.val.injEq] at h
            obtain ⟨rfl, rfl, rfl⟩ := h
            exact did_store hρ hp E ho (den_ptr hρ ha) hx hk hxs hn hl hcs
          · cases h
        · cases h
      · cases h
    · rename_i b off i m f v' ha hx
      split at h
      · rename_i k xs n hk hxs hn
        split at h
        · rename_i hl
          split at h
          · rename_i g kn hcs
            simp only [Option.some.injEq, Stp.val.injEq] at h
            obtain ⟨rfl, rfl, rfl⟩ := h
            refine did_store hρ hp E ho ?_ hx hk hxs hn hl hcs
            obtain ⟨r, g1, g2⟩ := den_pr hρ ha
            exact ⟨r, g1, by rw [prO_eq]; exact g2⟩
          · cases h
        · cases h
      · cases h
    · cases h
  case h_10 x =>
    split at h
    · cases h
    · cases h
    · cases h
    · rename_i s c hx
      split at h
      · split at h
        · rename_i hs
          cases h
          exact did_sure I hρ E ho hx hs.1 hs.2
        · cases h
      · cases h
    · cases h
      rename_i h1 h2 h3 h4 hx
      exact did_nilCheck hpi hρ E ho hx h1 h2 h3 h4
    · cases h
  case h_11 op t x y u =>
    split at h
    · rename_i a b ha hb
      rw [Option.map_eq_some_iff] at h; obtain ⟨⟨g, r⟩, h1, h2⟩ := h
      simp only [Stp.val.injEq] at h2
      obtain ⟨rfl, rfl, rfl⟩ := h2
      exact did_bin hpi hρ E ho ha hb h1
    · rename_i l m ha hb
      rw [Option.map_eq_some_iff] at h; obtain ⟨r, h1, h2⟩ := h; cases h2
      exact did_binA hρ E ho ha hb h1
    · cases h
  case h_12 op t x =>
    split at h
    · rename_i a ha
      rw [Option.map_eq_some_iff] at h; obtain ⟨r, h1, h2⟩ := h; cases h2
      exact did_un hρ E ho ha h1
    · cases h
  case h_13 s d x =>
    split at h
    · rename_i k n t j hx hs hd
      cases h
      exact did_conv hρ E ho hx hd ⟨_, hs⟩
    · cases h
  case h_14 f first captured =>
    split at h
    · rename_i hf
      split at h
      · rename_i vs hvs
        rw [Option.map_eq_some_iff] at h; obtain ⟨r, h1, h2⟩ := h; cases h2
        exact did_func hρ E ho hf hvs h1
      · cases h
    · cases h
  case h_15 s first captured =>
    split at h
    · rename_i hf
      split at h
      · rename_i x hx
        split at h
        · rename_i c hc
          cases h
          exact did_meth hρ E ho hf hx hc
        · cases h
      · cases h
    · cases h
  case h_16 t x lo hi =>
    split at h
    · rename_i n el b q l hh hu hx hl hh'
      split at h
      · rename_i z g1 h' hz hb1
        split at h
        · rename_i g2 l' hb2
          simp only [Option.some.injEq, Stp.val.injEq, Bool.and_eq_true] at h
          obtain ⟨⟨rfl, rfl⟩, rfl, rfl⟩ := h
          exact did_sliceArr hρ E ho hu hx hl hh' hz hb1 hb2
        · cases h
      · cases h
    · rename_i el b q len cap l hh hu hx hl hh'
      split at h
      · rename_i z g1 h' hz hb1
        split at h
        · rename_i g2 l' hb2
          simp only [Option.some.injEq, Stp.val.injEq, Bool.and_eq_true] at h
          obtain ⟨⟨rfl, rfl⟩, rfl, rfl⟩ := h
          exact did_sliceSl hρ E ho hu hx hl hh' hz hb1 hb2
        · cases h
      · cases h
    · rename_i el b len l hh hu hx hl hh'
      split at h
      · rename_i g1 h' hb1
        split at h
        · rename_i g2 l' hb2
          split at h
          · rename_i hz
            simp only [Option.some.injEq, Stp.val.injEq, Bool.and_eq_true] at h
            obtain ⟨⟨rfl, rfl⟩, rfl, rfl⟩ := h
            exact did_sliceSlg hρ E ho hu hx hl hh' hz hb1 hb2
          · cases h
        · cases h
      · cases h
    · rename_i el b len l hh hu hx hl hh'
      split at h
      · rename_i z g1 h' hz hb1
        split at h
        · rename_i g2 l' hb2
          simp only [Option.some.injEq, Stp.val.injEq, Bool.and_eq_true] at h
          obtain ⟨⟨rfl, rfl⟩, rfl, rfl⟩ := h
          exact did_sliceSlr hρ E ho hu hx hl hh' hz hb1 hb2
        · cases h
      · cases h
    · cases h
  case h_17 t x f =>
    split at h
    · rename_i fs b q hu hx
      split at h
      · rename_i fd hfd
        split at h
        · rename_i n hn
          split at h
          · cases h
          · rename_i hn0
            cases h
            exact did_fieldAddr hρ E ho hu hx hfd hn hn0
        · cases h
      · cases h
    · rename_i fs b off i m q hu hx
      split at h
      · rename_i fd hfd
        split at h
        · rename_i n hn
          split at h
          · cases h
          · rename_i hn0
            cases h
            exact did_fieldAddrP hρ E ho hu hx hfd hn hn0
        · cases h
      · cases h
    · cases h
  case h_18 t x f =>
    split at h
    · rename_i fs cs hu hx
      split at h
      · rename_i fd hfd
        rw [Option.map_eq_some_iff] at h; obtain ⟨r, h1, h2⟩ := h; cases h2
        exact did_field hρ E ho hu hx hfd h1
      · cases h
    · cases h
  case h_19 t x ix =>
    split at h
    · rename_i len el b q k i hu hx hi
      rw [Option.map_eq_some_iff] at h; obtain ⟨n, h1, h2⟩ := h
      simp only [Stp.val.injEq, decide_eq_true_eq] at h2
      obtain ⟨hg, rfl, rfl⟩ := h2
      exact did_indexArr hρ E ho hu hx hi h1 hg
    · rename_i el b q len cap k i hu hx hi
      rw [Option.map_eq_some_iff] at h; obtain ⟨n, h1, h2⟩ := h
      simp only [Stp.val.injEq, decide_eq_true_eq] at h2
      obtain ⟨hg, rfl, rfl⟩ := h2
      exact did_indexSl hρ E ho hu hx hi h1 hg
    · rename_i el b q len k i hu hx hi
      split at h
      · rename_i h1
        simp only [Option.some.injEq, Stp.val.injEq, decide_eq_true_eq] at h
        obtain ⟨hg, rfl, rfl⟩ := h
        exact did_indexSlg hρ E ho hu hx hi h1 hg
      · cases h
    · rename_i el b q z len cap k i hu hx hi
      rw [Option.map_eq_some_iff] at h; obtain ⟨n, h1, h2⟩ := h
      simp only [Stp.val.injEq, decide_eq_true_eq] at h2
      obtain ⟨hg, rfl, rfl⟩ := h2
      exact did_indexSlw hρ E ho hu hx hi h1 hg
    · rename_i el b len k i hu hx hi
      rw [Option.map_eq_some_iff] at h; obtain ⟨n, h1, h2⟩ := h
      simp only [Stp.val.injEq, decide_eq_true_eq] at h2
      obtain ⟨hg, rfl, rfl⟩ := h2
      exact did_indexSlr hρ E ho hu hx hi h1 hg
    · cases h
  case h_20 t x ix =>
    split at h
    · rename_i len el cs k i hu hx hi
      split at h
      · rename_i n hn
        rw [Option.map_eq_some_iff] at h; obtain ⟨v', h1, h2⟩ := h
        simp only [Stp.val.injEq, decide_eq_true_eq] at h2
        obtain ⟨hg, rfl, rfl⟩ := h2
        exact did_index hρ E ho hu hx hi hn hg (partI_eq h1 hg)
      · cases h
    · cases h
  case h_21 t ix =>
    split at h
    · rename_i l hx
      rw [Option.map_eq_some_iff] at h; obtain ⟨v', h1, h2⟩ := h; cases h2
      exact did_extract hρ E ho hx h1
    · cases h
  case h_22 c =>
    split at h
    · rename_i args hargs
      split at h
      · rename_i b hb
        have ho' : o.op = .call { callee := .builtin b, args := c.args, argTypes := c.argTypes } := by rw [ho, ← hb]
        split at h
        · exact did_append hp hρ E ho' hargs h
        · exact did_delete hρ E ho' hargs h
        · exact did_len hρ E ho' hargs h
      · split at h
        · rw [Option.map_eq_some_iff] at h; obtain ⟨v', h1, h2⟩ := h; cases h2
        · cases h
      · split at h
        · cases h
        · rw [Option.map_eq_some_iff] at h; obtain ⟨v', h1, h2⟩ := h; cases h2
        · cases h
    · cases h
  case h_23 t l c =>
    split at h
    · rename_i el k n k' n' hu hl hc
      split at h
      · rename_i kd i hz
        split at h
        · rename_i hgi
          obtain ⟨hgr, rfl⟩ := hgi
          simp only [Option.some.injEq, Stp.val.injEq, decide_eq_true_eq] at h
          obtain ⟨hg, rfl, rfl⟩ := h
          exact did_makeSlice hρ E ho hu hl hc hz hgr hg
        · cases h
      · cases h
    · cases h
  case h_24 t =>
    split at h
    · rename_i ht
      cases h
      exact did_makeMap E ho ht
    · cases h
  case h_25 t m x ok => exact did_lookup hρ E ho h
  case h_26 t m x y => exact did_update hρ E ho h
  case h_27 t x =>
    split at h
    · rename_i c d hx hu
      split at h
      · cases h
      · rename_i hd
        cases h
        exact did_iface hρ E ho hx hu (by simpa using hd)
    · cases h
  case h_28 => cases h
end
end Go.Proofs.Ytjcdojcbdfblbaa.Lx
