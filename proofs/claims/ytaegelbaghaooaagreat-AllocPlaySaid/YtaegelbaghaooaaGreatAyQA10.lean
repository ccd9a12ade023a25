/- Summaries: bag. (trees printed by program, wip/auto.py) -/
import Derived.Test.YtaegelbaghaooaaGreatAyQA9
import Derived.WalkKit
set_option linter.unusedSimpArgs false
set_option linter.unusedVariables false
set_option linter.unusedSectionVars false
namespace Go.Proofs.YtaegelbaghaooaaGreat.Lx
open Go
set_option maxRecDepth 1000000

def VB {β : Type} (a0 a1 : Int) (b2 : Bool) (a3 : Int) (g5 : Geo) (κ0 : Unit → T β) (κ1 : Unit → T β) (i : Int) (k : Int → T β) : T β :=
 bif i != 0 then ((We g5 i a1).bind fun r1 =>
 bif r1 then (κ0 ()) else
 .op (.load (atF g5 17 (inF (IntKind.i64.wrap (i - 1)) 0 1))) fun x3 =>
 k (ofW IntKind.i64 x3 0 24)) else
 κ1 ()
def jO {β : Type} (a0 a1 : Int) (b2 : Bool) (a3 : Int) (g5 : Geo) (a4 : Int) (κ0 : Unit → T β) (κ1 : Unit → T β) : T β := xA xd (VB a0 a1 b2 a3 g5 κ0 κ1) (a4)
theorem xe4 {β γ : Type} (a0 a1 : Int) (b2 : Bool) (a3 : Int) (g5 : Geo) (a4 : Int) (κ0 : Unit → T β) (κ1 : Unit → T β) (κ : β → T γ) : (jO a0 a1 b2 a3 g5 a4 κ0 κ1).bind κ = jO a0 a1 b2 a3 g5 a4 (fun u => (κ0 u).bind κ) (fun u => (κ1 u).bind κ) := by
 unfold jO
 refine xp κ (fun i k => ?_) _ _
 unfold VB
 first | rfl | (simp only [xa, xb, xe, xc, T.bind_assoc])
def xgw : Pat := ⟨xr 47 0 [(0, .c (.raw (.port))), (2, .c (.int .i64)), (3, .c (.int .u64)), (5, .c (.raw (.ptr 0 0))), (8, .c (.bool)), (9, .c (.int .i64)), (10, .c (.int .i64))], [some ⟨[.geo], 24, false, none⟩]⟩
def qK : Pat := ⟨xr 47 0 [(0, .c (.raw (.port))), (2, .c (.int .i64)), (3, .c (.int .u64)), (5, .c (.raw (.ptr 0 0))), (8, .c (.bool)), (9, .c (.int .i64))], [some ⟨[.geo], 24, false, none⟩]⟩
def VC : St → (Ex → St → T R) → Option (T R) := fun st K => match xy xgw st with
 | some [.i a0, .i a1, .b b2, .i a3, .i a4, .g g5] => some (jO a0 a1 b2 a3 g5 a4 (fun _ => K (.ret) (xf qK [.i a0, .i a1, .b true, .i a3, .g g5])) (fun _ => K (.exit 0) (xf qK [.i a0, .i a1, .b b2, .i a3, .g g5])))
 | _ => none
theorem xri : ∀ st K t, VC st K = some t → xK xd (lf ka9 xd 0 .no [1, 1, 0, 1, 0] Tryz.f174 K) st = t := by
 intro st K t h
 unfold VC at h
 split at h
 ·rename_i a0 a1 b2 a3 a4 g5 hm
  cases h
  rw [xn hm]
  exact cast (by kernel_rfl) (xB (F := lf ka9 xd 0 .no [1, 1, 0, 1, 0] Tryz.f174 K) (S := fun i => xf xgw [.i a0, .i a1, .b b2, .i a3, .i i, .g g5]) (B := VB a0 a1 b2 a3 g5 (fun _ => K (.ret) (xf qK [.i a0, .i a1, .b true, .i a3, .g g5])) (fun _ => K (.exit 0) (xf qK [.i a0, .i a1, .b b2, .i a3, .g g5]))) (fun i k => by kernel_rfl) xd (a4))
 ·cases h
def xhN {β : Type} (g : Geo) (c it : Int) (κ : Bool → T β) : T β :=
 .op (.self ) fun x0 =>
 .op (.load (atF g 13 (inF x0 c 4))) fun x1 =>
 jO (c) (it) (false) (ofW IntKind.i64 x1 0 24) (g) (ofW IntKind.i64 x1 0 24) (fun y2_0 =>
 κ (true)) (fun y2_0 =>
 (xaT g c it (ofW IntKind.i64 x1 0 24)).bind fun r3 =>
 κ (r3))
def xgx (g : Geo) (c it : Int) : T Bool := xhN g c it .ret
theorem xnx {β : Type} (g : Geo) (c it : Int) (κ : Bool → T β) : (xgx g c it).bind κ = xhN g c it κ := by
 unfold xgx xhN
 first | rfl | (simp only [xa, xb, xe, xc, T.bind_assoc, xe4])
def XA {β : Type} (a0 a1 : Int) (b2 : Bool) (a3 a4 : Int) (g6 : Geo) (κ0 : Int → T β) (κ1 : Unit → T β) (i : Int) (k : Int → T β) : T β :=
 bif decide (i < a4) then (.op (.self ) fun x1 =>
 bif bif g6.threads == 0 then false else true then ((xgL g6 a0 (Int.tmod (IntKind.i64.wrap (x1 + i)) g6.threads)).bind fun r3 =>
 bif r3.2 then ((Zg g6).bind fun r5 =>
 κ0 (r3.1)) else
 k (IntKind.i64.wrap (i + 1))) else
 .fail) else
 κ1 ()
def ke {β : Type} (a0 a1 : Int) (b2 : Bool) (a3 a4 : Int) (g6 : Geo) (a5 : Int) (κ0 : Int → T β) (κ1 : Unit → T β) : T β := xA xd (XA a0 a1 b2 a3 a4 g6 κ0 κ1) (a5)
theorem xdz {β γ : Type} (a0 a1 : Int) (b2 : Bool) (a3 a4 : Int) (g6 : Geo) (a5 : Int) (κ0 : Int → T β) (κ1 : Unit → T β) (κ : β → T γ) : (ke a0 a1 b2 a3 a4 g6 a5 κ0 κ1).bind κ = ke a0 a1 b2 a3 a4 g6 a5 (fun ae1 => (κ0 ae1).bind κ) (fun u => (κ1 u).bind κ) := by
 unfold ke
 refine xp κ (fun i k => ?_) _ _
 unfold XA
 first | rfl | (simp only [xa, xb, xe, xc, T.bind_assoc])
def xdA : Pat := ⟨xr 62 0 [(0, .c (.raw (.port))), (2, .c (.int .i64)), (4, .c (.raw (.ptr 0 0))), (6, .c (.int .u64)), (7, .c (.bool)), (8, .c (.int .u64)), (25, .c (.int .i64)), (26, .c (.int .i64))], [some ⟨[.geo], 24, false, none⟩]⟩
def kY : Pat := ⟨xr 62 0 [(0, .c (.raw (.port))), (2, .c (.int .i64)), (4, .c (.raw (.ptr 0 0))), (6, .c (.int .u64)), (7, .c (.bool)), (8, .c (.int .u64))], [some ⟨[.geo], 24, false, none⟩]⟩
def kf : St → (Ex → St → T R) → Option (T R) := fun st K => match xy xdA st with
 | some [.i a0, .i a1, .b b2, .i a3, .i a4, .i a5, .g g6] => some (ke a0 a1 b2 a3 a4 g6 a5 (fun ae1 => K (.ret) (xf kY [.i a0, .i ae1, .b true, .i a3, .g g6])) (fun _ => K (.exit 2) (xf kY [.i a0, .i a1, .b b2, .i a3, .g g6])))
 | _ => none
theorem xny : ∀ st K t, kf st K = some t → xK xd (lf ka9 xd 0 .no [1, 1, 0, 0, 0, 1, 0, 1, 0] Tryz.f258 K) st = t := by
 intro st K t h
 unfold kf at h
 split at h
 ·rename_i a0 a1 b2 a3 a4 a5 g6 hm
  cases h
  rw [xn hm]
  exact cast (by kernel_rfl) (xB (F := lf ka9 xd 0 .no [1, 1, 0, 0, 0, 1, 0, 1, 0] Tryz.f258 K) (S := fun i => xf xdA [.i a0, .i a1, .b b2, .i a3, .i a4, .i i, .g g6]) (B := XA a0 a1 b2 a3 a4 g6 (fun ae1 => K (.ret) (xf kY [.i a0, .i ae1, .b true, .i a3, .g g6])) (fun _ => K (.exit 2) (xf kY [.i a0, .i a1, .b b2, .i a3, .g g6]))) (fun i k => by kernel_rfl) xd (a5))
 ·cases h
def XB {β : Type} (a0 a1 : Int) (b2 : Bool) (g3 : Geo) (κ0 : Int → T β) (κ1 : Unit → T β) (i : Unit) (k : Unit → T β) : T β :=
 .op (.load (atF g3 5 a0)) fun x0 =>
 ke (a0) (a1) (b2) (x0) (g3.threads) (g3) (0) (fun y1_0 =>
 κ0 (y1_0)) (fun y1_0 =>
 .op (.load (atF g3 5 a0)) fun x2 =>
 bif x2 == x0 then ((Zg g3).bind fun r4 =>
 κ1 ()) else
 k ())
def kh {β : Type} (a0 a1 : Int) (b2 : Bool) (g3 : Geo)  (κ0 : Int → T β) (κ1 : Unit → T β) : T β := xA xd (XB a0 a1 b2 g3 κ0 κ1) ()
theorem xdB {β γ : Type} (a0 a1 : Int) (b2 : Bool) (g3 : Geo)  (κ0 : Int → T β) (κ1 : Unit → T β) (κ : β → T γ) : (kh a0 a1 b2 g3  κ0 κ1).bind κ = kh a0 a1 b2 g3  (fun ae0 => (κ0 ae0).bind κ) (fun u => (κ1 u).bind κ) := by
 unfold kh
 refine xp κ (fun i k => ?_) _ _
 unfold XB
 first | rfl | (simp only [xa, xb, xe, xc, T.bind_assoc, xdz])
def xdC : Pat := ⟨xr 62 0 [(0, .c (.raw (.port))), (2, .c (.int .i64)), (4, .c (.raw (.ptr 0 0))), (6, .c (.int .u64)), (7, .c (.bool))], [some ⟨[.geo], 24, false, none⟩]⟩
def kZ : Pat := ⟨xr 62 0 [(6, .c (.int .u64)), (7, .c (.bool))], []⟩
def XC : St → (Ex → St → T R) → Option (T R) := fun st K => match xy xdC st with
 | some [.i a0, .i a1, .b b2, .g g3] => some (kh a0 a1 b2 g3  (fun ae0 => K (.ret) (xf kZ [.i ae0, .b true])) (fun _ => K (.ret) (xf kZ [.i 0, .b false])))
 | _ => none
theorem xnz : ∀ st K t, XC st K = some t → xK xd (lf ka9 xd 0 (lsAt kf .no [0, 1, 0, 1, 0]) [1, 1, 0] Tryz.f258 K) st = t := by
 intro st K t h
 unfold XC at h
 split at h
 ·rename_i a0 a1 b2 g3 hm
  cases h
  rw [xn hm]
  exact cast (by kernel_rfl) (xB (F := lf ka9 xd 0 (lsAt kf .no [0, 1, 0, 1, 0]) [1, 1, 0] Tryz.f258 K) (S := fun i => xf xdC [.i a0, .i a1, .b b2, .g g3]) (B := XB a0 a1 b2 g3 (fun ae0 => K (.ret) (xf kZ [.i ae0, .b true])) (fun _ => K (.ret) (xf kZ [.i 0, .b false]))) (fun i k => by kernel_rfl) xd ())
 ·cases h
def xbV {β : Type} (g : Geo) (c : Int) (κ : (Int × Bool) → T β) : T β :=
 (Wd g c).bind fun r0 =>
 bif r0 then (κ ((0), (false))) else
 kh (c) (0) (false) (g) (fun y2_0 =>
 κ ((y2_0), (true))) (fun y2_0 =>
 κ ((0), (false)))
def qL (g : Geo) (c : Int) : T (Int × Bool) := xbV g c .ret
theorem xkO {β : Type} (g : Geo) (c : Int) (κ : (Int × Bool) → T β) : (qL g c).bind κ = xbV g c κ := by
 unfold qL xbV
 first | rfl | (simp only [xa, xb, xe, xc, T.bind_assoc, xdB])
def xhO : Sm := fun args H => match args, H with
 | [.c .port, .agg gc, .c (.int .i64 c), .c (.int .u64 it)], [] => (match xu gc with
   | some g => some (mkS (Bool) (xgx g c it) fun r => some (.c (.bool r), []))
   | _ => none)
 | _, _ => none
theorem xnA : Good Tryz.prog (xt ka9) xd 0 (lsAt VC .no [1, 1, 0, 1, 0]) (Tryz.f174.body.getD .skip) (xv Tryz.f174.results.toList) := xH (xl (by kernel_rfl)) xE xri
variable {σ : Type} {I : Port Tryz.prog σ}
theorem xrj (hl : SoundL I ka9) : SoundF I 174 xhO := by
 refine sq hl xd Tryz.func174 fun args H t ht => ?_
 unfold xhO at ht
 split at ht
 ·rename_i gc c it
  split at ht
  ·rename_i g hg
   obtain rfl := xh hg
   cases ht
   refine (xG (P := Tryz.prog) (n := xd) (x := (lsAt VC .no [1, 1, 0, 1, 0])) (fn := Tryz.f174) (H := []) (c := Tryz.f174.body.getD .skip) (xl (by kernel_rfl)) xnA).symm.trans ?_
   refine Eq.trans ?_ (xnx g c it _).symm
   kernel_rfl
  ·cases ht
 ·cases ht
def xdD : Sm := fun args H => match args, H with
 | [.c .port, .agg gc, .c (.int .i64 c)], [] => (match xu gc with
   | some g => some (mkS ((Int × Bool)) (qL g c) fun r => some (.tup [.c (.int .u64 r.1), .c (.bool r.2)], []))
   | _ => none)
 | _, _ => none
theorem xkP : Good Tryz.prog (xt ka9) xd 0 (lsAt XC (lsAt kf .no [0, 1, 0, 1, 0]) [1, 1, 0]) (Tryz.f258.body.getD .skip) (xv Tryz.f258.results.toList) := xH (xl (by kernel_rfl)) (Vg (p := [1, 1, 0]) (q := [0, 1, 0, 1, 0]) (xl (fn := Tryz.f258) (by kernel_rfl)) xE xny (by kernel_rfl)) xnz
theorem xnB (hl : SoundL I ka9) : SoundF I 258 xdD := by
 refine sq hl xd Tryz.func258 fun args H t ht => ?_
 unfold xdD at ht
 split at ht
 ·rename_i gc c
  split at ht
  ·rename_i g hg
   obtain rfl := xh hg
   cases ht
   refine (xG (P := Tryz.prog) (n := xd) (x := (lsAt XC (lsAt kf .no [0, 1, 0, 1, 0]) [1, 1, 0])) (fn := Tryz.f258) (H := []) (c := Tryz.f258.body.getD .skip) (xl (by kernel_rfl)) xkP).symm.trans ?_
   refine Eq.trans ?_ (xkO g c _).symm
   kernel_rfl
  ·cases ht
 ·cases ht
def ka10 : List (Nat × Sm) := (174, xhO) :: (258, xdD) :: ka9
theorem xhP : SoundL I ka10 := (.cons (xrj s_ka9) (.cons (xnB s_ka9) s_ka9))
end Go.Proofs.YtaegelbaghaooaaGreat.Lx
