/- The law CallRefused: its statement 'CallRefusedSaid', out of its walk: for every input the call returns true, and each argument reads afterwards as it read before. -/
import Derived.Test.YtaegelbaghaooaaGreatRows
import Derived.Test.YtaegelbaghaooaaGreatCrPRefu
import Derived.WalkKit
import Derived.ProofKit
import Derived.OpenShut
import Derived.ShutString
import Derived.ChangeOld
import Derived.Below
set_option linter.all false
open Go.IntKind (i64 u64 u32 u8)
namespace Go.Proofs.YtaegelbaghaooaaGreat.callRefused
open Go.ChangeShapes Go.WideShapes Go.ChangeAt Go.RowKit
theorem own : ownKnob Tryz.prog.godebug = none := by kernel_rfl
theorem laidOut : laidOutB Tryz.prog = true := by kernel_rfl
set_option maxRecDepth 100000 in
theorem lifted (os : Os) (started : os.Started) (H : Type) (enc : TypeId × Value -> H) :
    ReturnsInHanded {} Tryz.checked os 17 .any (Rows.callRefusedSpec.pre6 enc Tryz.prog Tryz.f17 Rows.callRefusedRow.domain false) (Rows.callRefusedSpec.post enc Tryz.prog Tryz.f17 false true false false) := by
  refine returnsInHanded_of_change (C := Tryz.checked) own started (by kernel_rfl) Tryz.func17
    (ChangeSpec.witness6 (enc := enc) (C := Tryz.checked) false ⟨#[], #[.int .u8 0, .slice none 0 0, .int .i64 0, .int .i64 0, .int .u8 0], []⟩ 8 (by kernel_rfl) (by kernel_rfl) (by kernel_rfl) (by kernel_rfl)) ?_
  intro W base args ds gs before hval0 hW hcnd _
  have hval : ∀ (j : Nat) t v, Tryz.f17.params[j]? = some t -> args[j]? = some v -> Value.okWide Tryz.prog W .any base t v := hval0
  have hW' := hW
  obtain ⟨p, q, hA0, hV, rfl, hfz, hnd⟩ := hW
  have hA : DataW.TrodAll enc Tryz.prog W 0 (fun _ => true) true Tryz.f17.params.toList args.toList ds p := hA0
  rw [Tryz.params17] at hA hval
  obtain ⟨v0, vs0, d0, ds0, p0, q0, hargs, rfl, rfl, h0, r0⟩ := trodAll_cons hA
  obtain ⟨v1, vs1, d1, ds1, p1, q1, rfl, rfl, rfl, h1, r1⟩ := trodAll_cons r0
  obtain ⟨v2, vs2, d2, ds2, p2, q2, rfl, rfl, rfl, h2, r2⟩ := trodAll_cons r1
  obtain ⟨v3, vs3, d3, ds3, p3, q3, rfl, rfl, rfl, h3, r3⟩ := trodAll_cons r2
  obtain ⟨v4, vs4, d4, ds4, p4, q4, rfl, rfl, rfl, h4, r4⟩ := trodAll_cons r3
  obtain ⟨rfl, rfl, rfl⟩ := trodAll_nil r4
  obtain rfl : args = #[v0, v1, v2, v3, v4] := by cases args; simp_all
  obtain ⟨rfl, rfl⟩ := trodVars_none hV
  have k0 := h0
  have lt0 : ∀ x ∈ p0, x.block < W.heap.size := by obtain ⟨m, hm⟩ := k0; exact DataW.trod_lt m _ _ _ hm
  obtain ⟨a0, rfl, rfl, rfl, w0⟩ := open_int Tryz.underlying5 (hval 0 5 v0 rfl rfl) h0
  have k1 := h1
  have lt1 : ∀ x ∈ p1, x.block < W.heap.size := by obtain ⟨m, hm⟩ := k1; exact DataW.trod_lt m _ _ _ hm
  obtain ⟨a1, len1, cap1, hsl1⟩ := okWide_slice Tryz.underlying100 (hval 1 100 v1 rfl rfl)
  obtain ⟨b1, off1, z1, n1, c1, L1, rfl, ln1, wf1, win1⟩ := (by obtain ⟨fuel, hf⟩ := h1; rw [hsl1] at hf; rw [hsl1]; exact xt4 Tryz.underlying100 (by kernel_rfl) (by decide) (fun _ _ _ h => xvk h) (by simpa [Value.cells] using hf) : ∃ (b off : Nat) (z : Option Addr) (n c : Nat) (L : Lx.RowsL), v1 = winV b off z n c /\ L.length = n /\ (∀ r ∈ L, TurnOk r) /\ WinAt W b ⟨[], 116, false, some (.wrows off shT L)⟩)
  clear hsl1
  have k2 := h2
  have lt2 : ∀ x ∈ p2, x.block < W.heap.size := by obtain ⟨m, hm⟩ := k2; exact DataW.trod_lt m _ _ _ hm
  obtain ⟨a2, rfl, rfl, rfl, w2⟩ := open_int Tryz.underlying3 (hval 2 3 v2 rfl rfl) h2
  have k3 := h3
  have lt3 : ∀ x ∈ p3, x.block < W.heap.size := by obtain ⟨m, hm⟩ := k3; exact DataW.trod_lt m _ _ _ hm
  obtain ⟨a3, rfl, rfl, rfl, w3⟩ := open_int Tryz.underlying3 (hval 3 3 v3 rfl rfl) h3
  have k4 := h4
  have lt4 : ∀ x ∈ p4, x.block < W.heap.size := by obtain ⟨m, hm⟩ := k4; exact DataW.trod_lt m _ _ _ hm
  obtain ⟨a4, rfl, rfl, rfl, w4⟩ := open_int Tryz.underlying5 (hval 4 5 v4 rfl rfl) h4
  clear hA0 hval0
  refine (xcl (bounds_u8 w0).1 (bounds_u8 w0).2 ln1 wf1 (bounds_u8 w4) W win1).mono fun e W' ⟨he, bel⟩ => ?_
  subst he
  exact ⟨_, rfl, _, _, _, [], _, [], hW', trodAll_mk1 (shut_bool Tryz.underlying4 _), (trodAll_cons_mk (Below.trod laidOut (by kernel_rfl) (of_decide_eq_true (by kernel_rfl)) k0 bel lt0) (trodAll_cons_mk (Below.trod laidOut (by kernel_rfl) (of_decide_eq_true (by kernel_rfl)) k1 bel lt1) (trodAll_cons_mk (Below.trod laidOut (by kernel_rfl) (of_decide_eq_true (by kernel_rfl)) k2 bel lt2) (trodAll_cons_mk (Below.trod laidOut (by kernel_rfl) (of_decide_eq_true (by kernel_rfl)) k3 bel lt3) (trodAll_cons_mk (Below.trod laidOut (by kernel_rfl) (of_decide_eq_true (by kernel_rfl)) k4 bel lt4) trodAll_mk0))))), rfl, bel.frame _, fun h => by cases h⟩
theorem j1 : Tryz.pinned.checked.prog.unfollowed 17 = Rows.callRefusedRow.unfollowed := by kernel_rfl
theorem j2 : Tryz.pinned.checked.prog.recurses 17 = Rows.callRefusedRow.recurses := by kernel_rfl
theorem j3 : Tryz.pinned.checked.prog.inPlace 17 = Rows.callRefusedRow.inPlace := by kernel_rfl
theorem j4 : Tryz.pinned.checked.prog.varsNamed 17 = Rows.callRefusedRow.named := by kernel_rfl
theorem j5 : laidOutB Tryz.pinned.checked.prog = true := by kernel_rfl
theorem j6 : mapsRowed Tryz.pinned.checked.prog = true := by kernel_rfl
theorem j7 : Tryz.pinned.checked.prog.plainKeys = Rows.callRefusedRow.plainKeys := by kernel_rfl
theorem joined : joinedFacts Tryz.pinned.checked.prog 17 Tryz.f17 Rows.callRefusedSpec Rows.callRefusedRow = true := by
  unfold joinedFacts
  rw [j1, j2, j3, j4, j5, j6, j7]
  kernel_rfl
theorem named : Tryz.pinned.checked.prog.funcNamed Rows.callRefusedRow.func = some 17 := by kernel_rfl
theorem plainF : Tryz.f17.isInstance Tryz.pinned.checked.prog Rows.callRefusedRow.origin Rows.callRefusedRow.targs := of_decide_eq_true (by kernel_rfl)
theorem bare : Tryz.f17.isWrapper Tryz.pinned.checked.prog Rows.callRefusedRow.wrapper Rows.callRefusedRow.mainSum := by
  unfold Func.isWrapper
  first
    | (rw [if_pos (by decide +kernel)]; kernel_rfl)
    | (rw [if_neg (by decide +kernel)]; exact ⟨rfl, rfl⟩)
theorem over : Rows.callRefusedRow.holds Tryz.pinned (OpenSpec.ofChange Rows.callRefusedSpec) :=
  OpenClaim.holds_of_wide 17 Tryz.f17 rfl rfl rfl rfl rfl rfl rfl ⟨rfl, rfl, rfl, rfl, rfl⟩ rfl rfl rfl rfl rfl named Tryz.func17 joined plainF bare
    (fun os started H enc _ => lifted os started H enc)
/-- the statement. -/
theorem proved : Rows.CallRefusedSaid := over
#print axioms proved
end Go.Proofs.YtaegelbaghaooaaGreat.callRefused
