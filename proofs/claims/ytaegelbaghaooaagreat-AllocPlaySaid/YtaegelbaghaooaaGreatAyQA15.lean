/- Summaries: alloc, renew, data, call. (trees printed by program, wip/auto.py) -/
import Derived.Test.YtaegelbaghaooaaGreatAyQA14
import Derived.WalkKit
set_option linter.unusedSimpArgs false
set_option linter.unusedVariables false
set_option linter.unusedSectionVars false
namespace Go.Proofs.YtaegelbaghaooaaGreat.Lx
open Go
set_option maxRecDepth 1000000

def XG {β : Type} (g : Geo) (a s : Int) (κ : Res → T β) : T β :=
 bif g.pages == 0 then (κ ⟨(0), (0), (0), (0), (0), (0), (0), (0), (15), (0), (0)⟩) else
 (qP g s a).bind fun r1 =>
 bif r1.snd.2 != 0 then (.op (.steps ) fun x3 =>
 (vl r1.snd.2 x3).bind fun r4 =>
 κ ⟨(r4.at_), (r4.n), (r4.byte), (r4.c1), (r4.c2), (r4.c3), (r4.c4), (r4.c5), (r4.e), (r4.lin), (r4.touch)⟩) else
 (Kh g r1.1 r1.snd.1 s).bind fun r3 =>
 κ ⟨(r3.at_), (r3.n), (r3.byte), (r3.c1), (r3.c2), (r3.c3), (r3.c4), (r3.c5), (r3.e), (r3.lin), (r3.touch)⟩
def vV (g : Geo) (a s : Int) : T Res := XG g a s .ret
theorem xe9 {β : Type} (g : Geo) (a s : Int) (κ : Res → T β) : (vV g a s).bind κ = XG g a s κ := by
 unfold vV XG
 first | rfl | (simp only [xa, xb, xe, xc, T.bind_assoc])
def qQ {β : Type} (a0 a1 a2 a3 a4 : Int) (g6 : Geo) (a7 a8 a9 a10 a11 a12 a13 a14 a15 a16 a17 : Int) (κ0 : Unit → T β) (i : Int) (k : Int → T β) : T β :=
 bif decide (i < a4) then (.op (.put (IntKind.i64.wrap (IntKind.i64.wrap (a2 * 8) + i)) (0)) fun _ =>
 k (IntKind.i64.wrap (i + 1))) else
 κ0 ()
def yP {β : Type} (a0 a1 a2 a3 a4 : Int) (g6 : Geo) (a7 a8 a9 a10 a11 a12 a13 a14 a15 a16 a17 a5 : Int) (κ0 : Unit → T β) : T β := xA xd (qQ a0 a1 a2 a3 a4 g6 a7 a8 a9 a10 a11 a12 a13 a14 a15 a16 a17 κ0) (a5)
theorem xbC {β γ : Type} (a0 a1 a2 a3 a4 : Int) (g6 : Geo) (a7 a8 a9 a10 a11 a12 a13 a14 a15 a16 a17 a5 : Int) (κ0 : Unit → T β) (κ : β → T γ) : (yP a0 a1 a2 a3 a4 g6 a7 a8 a9 a10 a11 a12 a13 a14 a15 a16 a17 a5 κ0).bind κ = yP a0 a1 a2 a3 a4 g6 a7 a8 a9 a10 a11 a12 a13 a14 a15 a16 a17 a5 (fun u => (κ0 u).bind κ) := by
 unfold yP
 refine xp κ (fun i k => ?_) _ _
 unfold qQ
 first | rfl | (simp only [xa, xb, xe, xc, T.bind_assoc])
def xbo : Pat := ⟨xr 80 0 [(0, .c (.raw (.port))), (2, .c (.int .i64)), (3, .c (.int .i64)), (5, .c (.raw (.ptr 0 0))), (8, .c (.raw (.ptr 1 0))), (10, .c (.int .i64)), (11, .c (.int .i64)), (61, .c (.int .i64)), (62, .c (.int .i64))], [some ⟨[.geo], 24, false, none⟩, some ⟨[.int .i64, .int .i64, .int .u8, .int .u64, .int .u64, .int .u64, .int .u64, .int .u64, .int .i64, .int .i64, .int .i64], 38, false, none⟩]⟩
def VQ : Pat := ⟨xr 80 0 [(0, .c (.raw (.port))), (2, .c (.int .i64)), (3, .c (.int .i64)), (5, .c (.raw (.ptr 0 0))), (8, .c (.raw (.ptr 1 0))), (10, .c (.int .i64)), (11, .c (.int .i64))], [some ⟨[.geo], 24, false, none⟩, some ⟨[.int .i64, .int .i64, .int .u8, .int .u64, .int .u64, .int .u64, .int .u64, .int .u64, .int .i64, .int .i64, .int .i64], 38, false, none⟩]⟩
def qR : St → (Ex → St → T R) → Option (T R) := fun st K => match xy xbo st with
 | some [.i a0, .i a1, .i a2, .i a3, .i a4, .i a5, .g g6, .i a7, .i a8, .i a9, .i a10, .i a11, .i a12, .i a13, .i a14, .i a15, .i a16, .i a17] => some (yP a0 a1 a2 a3 a4 g6 a7 a8 a9 a10 a11 a12 a13 a14 a15 a16 a17 a5 (fun _ => K (.exit 0) (xf VQ [.i a0, .i a1, .i a2, .i a3, .g g6, .i a7, .i a8, .i a9, .i a10, .i a11, .i a12, .i a13, .i a14, .i a15, .i a16, .i a17])))
 | _ => none
theorem xkY : ∀ st K t, qR st K = some t → xK xd (lf ka14 xd 0 .no [1, 1, 1, 1, 1, 1, 0, 1, 0] Tryz.f30 K) st = t := by
 intro st K t h
 unfold qR at h
 split at h
 ·rename_i a0 a1 a2 a3 a4 a5 g6 a7 a8 a9 a10 a11 a12 a13 a14 a15 a16 a17 hm
  cases h
  rw [xn hm]
  exact cast (by kernel_rfl) (xB (F := lf ka14 xd 0 .no [1, 1, 1, 1, 1, 1, 0, 1, 0] Tryz.f30 K) (S := fun i => xf xbo [.i a0, .i a1, .i a2, .i a3, .i a4, .i i, .g g6, .i a7, .i a8, .i a9, .i a10, .i a11, .i a12, .i a13, .i a14, .i a15, .i a16, .i a17]) (B := qQ a0 a1 a2 a3 a4 g6 a7 a8 a9 a10 a11 a12 a13 a14 a15 a16 a17 (fun _ => K (.exit 0) (xf VQ [.i a0, .i a1, .i a2, .i a3, .g g6, .i a7, .i a8, .i a9, .i a10, .i a11, .i a12, .i a13, .i a14, .i a15, .i a16, .i a17]))) (fun i k => by kernel_rfl) xd (a5))
 ·cases h
def VR {β : Type} (g : Geo) (n s : Int) (κ : Res → T β) : T β :=
 bif g.pages == 0 then (κ ⟨(0), (0), (0), (0), (0), (0), (0), (0), (15), (0), (0)⟩) else
 bif decide (n < 0) then (.op (.steps ) fun x2 =>
 (vl 11 x2).bind fun r3 =>
 κ ⟨(r3.at_), (r3.n), (r3.byte), (r3.c1), (r3.c2), (r3.c3), (r3.c4), (r3.c5), (r3.e), (r3.lin), (r3.touch)⟩) else
 bif decide (s < 0) then (.op (.steps ) fun x3 =>
 (vl 11 x3).bind fun r4 =>
 κ ⟨(r4.at_), (r4.n), (r4.byte), (r4.c1), (r4.c2), (r4.c3), (r4.c4), (r4.c5), (r4.e), (r4.lin), (r4.touch)⟩) else
 bif decide (s > 0) then (bif bif s == 0 then false else true then (bif decide (n > IntKind.i64.wrap (Int.tdiv (IntKind.i64.wrap (g.pages * 64)) s)) then (.op (.steps ) fun x6 =>
 (vl 11 x6).bind fun r7 =>
 κ ⟨(r7.at_), (r7.n), (r7.byte), (r7.c1), (r7.c2), (r7.c3), (r7.c4), (r7.c5), (r7.e), (r7.lin), (r7.touch)⟩) else
 (qP g (IntKind.i64.wrap (n * s)) 1).bind fun r6 =>
 bif r6.snd.2 != 0 then (.op (.steps ) fun x8 =>
 (vl r6.snd.2 x8).bind fun r9 =>
 κ ⟨(r9.at_), (r9.n), (r9.byte), (r9.c1), (r9.c2), (r9.c3), (r9.c4), (r9.c5), (r9.e), (r9.lin), (r9.touch)⟩) else
 yP (n) (s) (r6.1) (r6.snd.1) (IntKind.i64.wrap (n * s)) (g) (0) (0) (0) (0) (0) (0) (0) (0) (0) (0) (0) (0) (fun y8_0 =>
 (Kh g r6.1 r6.snd.1 (IntKind.i64.wrap (n * s))).bind fun r9 =>
 κ ⟨(r9.at_), (r9.n), (r9.byte), (r9.c1), (r9.c2), (r9.c3), (r9.c4), (r9.c5), (r9.e), (r9.lin), (r9.touch)⟩)) else
 .fail) else
 (qP g (IntKind.i64.wrap (n * s)) 1).bind fun r4 =>
 bif r4.snd.2 != 0 then (.op (.steps ) fun x6 =>
 (vl r4.snd.2 x6).bind fun r7 =>
 κ ⟨(r7.at_), (r7.n), (r7.byte), (r7.c1), (r7.c2), (r7.c3), (r7.c4), (r7.c5), (r7.e), (r7.lin), (r7.touch)⟩) else
 yP (n) (s) (r4.1) (r4.snd.1) (IntKind.i64.wrap (n * s)) (g) (0) (0) (0) (0) (0) (0) (0) (0) (0) (0) (0) (0) (fun y6_0 =>
 (Kh g r4.1 r4.snd.1 (IntKind.i64.wrap (n * s))).bind fun r7 =>
 κ ⟨(r7.at_), (r7.n), (r7.byte), (r7.c1), (r7.c2), (r7.c3), (r7.c4), (r7.c5), (r7.e), (r7.lin), (r7.touch)⟩)
def yC (g : Geo) (n s : Int) : T Res := VR g n s .ret
theorem xh1 {β : Type} (g : Geo) (n s : Int) (κ : Res → T β) : (yC g n s).bind κ = VR g n s κ := by
 unfold yC VR
 first | rfl | (simp only [xa, xb, xe, xc, T.bind_assoc, xbC])
def qS : Sm := fun args H => match args, H with
 | [.c .port, .agg gc, .c (.int .i64 a), .c (.int .i64 s)], [] => (match xu gc with
   | some g => some (mkS (Res) (vV g a s) fun r => some (.agg r.cells, []))
   | _ => none)
 | _, _ => none
variable {σ : Type} {I : Port Tryz.prog σ}
theorem VS (hl : SoundL I ka14) : SoundF I 22 qS := by
 refine sq hl 1 Tryz.func22 fun args H t ht => ?_
 unfold qS at ht
 split at ht
 ·rename_i gc a s
  split at ht
  ·rename_i g hg
   obtain rfl := xh hg
   cases ht
   refine Eq.trans ?_ (xe9 g a s _).symm
   kernel_rfl
  ·cases ht
 ·cases ht
def XH : Sm := fun args H => match args, H with
 | [.c .port, .agg gc, .c (.int .i64 n), .c (.int .i64 s)], [] => (match xu gc with
   | some g => some (mkS (Res) (yC g n s) fun r => some (.agg r.cells, []))
   | _ => none)
 | _, _ => none
theorem xh2 : Good Tryz.prog (xt ka14) xd 0 (lsAt qR .no [1, 1, 1, 1, 1, 1, 0, 1, 0]) (Tryz.f30.body.getD .skip) (xv Tryz.f30.results.toList) := xH (xl (by kernel_rfl)) xE xkY
theorem xbp (hl : SoundL I ka14) : SoundF I 30 XH := by
 refine sq hl xd Tryz.func30 fun args H t ht => ?_
 unfold XH at ht
 split at ht
 ·rename_i gc n s
  split at ht
  ·rename_i g hg
   obtain rfl := xh hg
   cases ht
   refine (xG (P := Tryz.prog) (n := xd) (x := (lsAt qR .no [1, 1, 1, 1, 1, 1, 0, 1, 0])) (fn := Tryz.f30) (H := []) (c := Tryz.f30.body.getD .skip) (xl (by kernel_rfl)) xh2).symm.trans ?_
   refine Eq.trans ?_ (xh1 g n s _).symm
   kernel_rfl
  ·cases ht
 ·cases ht
noncomputable def ka15 : List (Nat × Sm) := (22, qS) :: (30, XH) :: ka14
theorem xnJ : SoundL I ka15 := (.cons (VS xdJ) (.cons (xbp xdJ) xdJ))
end Go.Proofs.YtaegelbaghaooaaGreat.Lx
