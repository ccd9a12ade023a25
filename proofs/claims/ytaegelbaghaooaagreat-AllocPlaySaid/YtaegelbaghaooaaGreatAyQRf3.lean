/- Summaries: the document (13, 15), room and fits. (trees printed by program, wip/auto.py) -/
import Derived.Test.YtaegelbaghaooaaGreatAyQRf2
import Derived.WalkKit
set_option linter.unusedSimpArgs false
set_option linter.unusedVariables false
set_option linter.unusedSectionVars false
namespace Go.Proofs.YtaegelbaghaooaaGreat.Lx
open Go
set_option maxRecDepth 1000000

def Ys {β : Type} (n0 : Nat) (a1 a2 a3 : Int) (b4 : Bool) (q6 : RowsL) (κ0 : Unit → T β) (κ1 : Unit → T β) (i : Int) (k : Int → T β) : T β :=
 bif decide (i < a1) then (bif !a3 == 0 then (bif Int.tmod i a3 == 0 then ((xaY n0 q6 a1 i a2).bind fun r3 =>
 bif r3 then (κ0 ()) else
 k (IntKind.i64.wrap (i + 1))) else
 k (IntKind.i64.wrap (i + 1))) else
 .fail) else
 κ1 ()
def kv {β : Type} (n0 : Nat) (a1 a2 a3 : Int) (b4 : Bool) (q6 : RowsL) (a5 : Int) (κ0 : Unit → T β) (κ1 : Unit → T β) : T β := xA xd (Ys n0 a1 a2 a3 b4 q6 κ0 κ1) (a5)
theorem xeU {β γ : Type} (n0 : Nat) (a1 a2 a3 : Int) (b4 : Bool) (q6 : RowsL) (a5 : Int) (κ0 : Unit → T β) (κ1 : Unit → T β) (κ : β → T γ) : (kv n0 a1 a2 a3 b4 q6 a5 κ0 κ1).bind κ = kv n0 a1 a2 a3 b4 q6 a5 (fun u => (κ0 u).bind κ) (fun u => (κ1 u).bind κ) := by
 unfold kv
 refine xp κ (fun i k => ?_) _ _
 unfold Ys
 first | rfl | (simp only [xa, xb, xe, xc, T.bind_assoc])
def xeV : Pat := ⟨xr 26 0 [(0, .c (.slr 0)), (1, .c (.int .i64)), (2, .c (.int .i64)), (3, .c (.int .i64)), (8, .c (.bool)), (9, .c (.int .i64))], [some ⟨[], 254, true, some (.rows [.int .i64, .int .i64, .int .i64])⟩]⟩
def jo : Pat := ⟨xr 26 0 [(8, .c (.bool))], [some ⟨[], 254, true, some (.rows [.int .i64, .int .i64, .int .i64])⟩]⟩
def Yt : St → (Ex → St → T R) → Option (T R) := fun st K => match xy xeV st with
 | some [.n n0, .i a1, .i a2, .i a3, .b b4, .i a5, .r q6] => some (kv n0 a1 a2 a3 b4 q6 a5 (fun _ => K (.ret) (xf jo [.b true, .r q6])) (fun _ => K (.exit 0) (xf jo [.b b4, .r q6])))
 | _ => none
theorem xoU : ∀ st K t, Yt st K = some t → xK xd (lf kr2 xd 1 .no [1, 0, 1, 0] Tryz.f112 K) st = t := by
 intro st K t h
 unfold Yt at h
 split at h
 ·rename_i n0 a1 a2 a3 b4 a5 q6 hm
  cases h
  rw [xn hm]
  exact cast (by kernel_rfl) (xB (F := lf kr2 xd 1 .no [1, 0, 1, 0] Tryz.f112 K) (S := fun i => xf xeV [.n n0, .i a1, .i a2, .i a3, .b b4, .i i, .r q6]) (B := Ys n0 a1 a2 a3 b4 q6 (fun _ => K (.ret) (xf jo [.b true, .r q6])) (fun _ => K (.exit 0) (xf jo [.b b4, .r q6]))) (fun i k => by kernel_rfl) xd (a5))
 ·cases h
def xcu {β : Type} (n : Nat) (L : RowsL) (m k a : Int) (κ : Bool → T β) : T β :=
 kv (n) (m) (k) (a) (false) (L) (0) (fun y0_0 =>
 κ (true)) (fun y0_0 =>
 κ (false))
def WK (n : Nat) (L : RowsL) (m k a : Int) : T Bool := xcu n L m k a .ret
theorem xmf {β : Type} (n : Nat) (L : RowsL) (m k a : Int) (κ : Bool → T β) : (WK n L m k a).bind κ = xcu n L m k a κ := by
 unfold WK xcu
 first | rfl | (simp only [xa, xb, xe, xc, T.bind_assoc, xeU])
def xeW : Sm := fun args H => match args, H with
 | [.c (.slr 0 n), .c (.int .i64 m), .c (.int .i64 k), .c (.int .i64 a)], [some ⟨[], 254, true, some (.rows [.int .i64, .int .i64, .int .i64] L)⟩] => some (mkS (Bool) (WK n L m k a) fun r => some (.c (.bool r), [some ⟨[], 254, true, some (.rows [.int .i64, .int .i64, .int .i64] L)⟩]))
 | _, _ => none
theorem xmg : Good Tryz.prog (xt kr2) xd 1 (lsAt Yt .no [1, 0, 1, 0]) (Tryz.f112.body.getD .skip) (xv Tryz.f112.results.toList) := (xH (xl (by kernel_rfl)) xE xoU)
variable {σ : Type} {I : Port Tryz.prog σ}
theorem xoV (hl : SoundL I kr2) : SoundF I 112 xeW := by
 refine sq hl xd Tryz.func112 fun args H t ht => ?_
 unfold xeW at ht
 split at ht
 ·rename_i n m k a L
  cases ht
  refine (xG (P := Tryz.prog) (n := xd) (x := (lsAt Yt .no [1, 0, 1, 0])) (fn := Tryz.f112) (H := [some ⟨[], 254, true, some (.rows [.int .i64, .int .i64, .int .i64] L)⟩]) (c := Tryz.f112.body.getD .skip) (xl (by kernel_rfl)) xmg).symm.trans ?_
  refine Eq.trans ?_ (xmf n L m k a _).symm
  kernel_rfl
 ·cases ht
noncomputable def kr3 : List (Nat × Sm) := (112, xeW) :: kr2
theorem s_kr3 : SoundL I kr3 := (.cons (xoV s_kr2) s_kr2)
end Go.Proofs.YtaegelbaghaooaaGreat.Lx
