/- Summaries: slab, runs. (trees printed by program, wip/auto.py) -/
import Derived.Test.YtaegelbaghaooaaGreatAyQA4
import Derived.WalkKit
set_option linter.unusedSimpArgs false
set_option linter.unusedVariables false
set_option linter.unusedSectionVars false
namespace Go.Proofs.YtaegelbaghaooaaGreat.Lx
open Go
set_option maxRecDepth 1000000

def XQ {β : Type} (b0 : Bool) (a1 : Int) (b2 : Bool) (g3 : Geo) (a4 : Int) (κ0 : Unit → T β) (κ1 : Unit → T β) (i : Unit) (k : Unit → T β) : T β :=
 bif b2 then ((YA g3 a4).bind fun r1 =>
 (XN r1.cls a1).bind fun r2 =>
 bif !r1.has then (κ0 ()) else
 bif !r2.2 then (κ0 ()) else
 bif bif decide (r2.1 < 0) then false else true then (bif bits BinOp.and IntKind.u8     (Int.fdiv r1.map (2 ^ if Int.toNat r2.1 ≤ nat_lit 8 then Int.toNat r2.1 else nat_lit 8)) 1 ==   1 then (κ0 ()) else
 bif bif decide (r2.1 < 0) then false else true then ((ZU g3 a4 { map := r1.map, has := r1.has, cls := r1.cls, ver := r1.ver }   {     map :=       bits BinOp.or IntKind.u8 r1.map         (IntKind.u8.wrap           (1 * 2 ^ if Int.toNat r2.1 ≤ nat_lit 8 then Int.toNat r2.1 else nat_lit 8)),     has := r1.has, cls := r1.cls, ver := r1.ver }).bind fun r8 =>
 bif r8 then (κ1 ()) else
 k ()) else
 .fail) else
 .fail) else
 κ0 ()
def kj {β : Type} (b0 : Bool) (a1 : Int) (b2 : Bool) (g3 : Geo) (a4 : Int)  (κ0 : Unit → T β) (κ1 : Unit → T β) : T β := xA xd (XQ b0 a1 b2 g3 a4 κ0 κ1) ()
theorem xd4 {β γ : Type} (b0 : Bool) (a1 : Int) (b2 : Bool) (g3 : Geo) (a4 : Int)  (κ0 : Unit → T β) (κ1 : Unit → T β) (κ : β → T γ) : (kj b0 a1 b2 g3 a4  κ0 κ1).bind κ = kj b0 a1 b2 g3 a4  (fun u => (κ0 u).bind κ) (fun u => (κ1 u).bind κ) := by
 unfold kj
 refine xp κ (fun i k => ?_) _ _
 unfold XQ
 first | rfl | (simp only [xa, xb, xe, xc, T.bind_assoc])
def xd5 : Pat := ⟨xr 58 0 [(6, .c (.bool)), (7, .c (.raw (.ptr 1 0))), (8, .c (.int .i64)), (9, .c (.bool))], [none, some ⟨[.raw (.port), .geo, .int .i64], 234, false, none⟩]⟩
def jd : Pat := ⟨xr 58 0 [(6, .c (.bool))], []⟩
def XR : St → (Ex → St → T R) → Option (T R) := fun st K => match xy xd5 st with
 | some [.b b0, .i a1, .b b2, .g g3, .i a4] => some (kj b0 a1 b2 g3 a4  (fun _ => K (.exit 0) (xf jd [.b b0])) (fun _ => K (.ret) (xf jd [.b true])))
 | _ => none
theorem xn6 : ∀ st K t, XR st K = some t → xK xd (lf ka4 xd 0 .no [1, 1, 0, 0] Tryz.f91 K) st = t := by
 intro st K t h
 unfold XR at h
 split at h
 ·rename_i b0 a1 b2 g3 a4 hm
  cases h
  rw [xn hm]
  exact cast (by kernel_rfl) (xB (F := lf ka4 xd 0 .no [1, 1, 0, 0] Tryz.f91 K) (S := fun i => xf xd5 [.b b0, .i a1, .b b2, .g g3, .i a4]) (B := XQ b0 a1 b2 g3 a4 (fun _ => K (.exit 0) (xf jd [.b b0])) (fun _ => K (.ret) (xf jd [.b true]))) (fun i k => by kernel_rfl) xd ())
 ·cases h
def xb9 {β : Type} (g : Geo) (k : Int) (κ : Bool → T β) : T β :=
 bif decide (k < 0) then (κ (false)) else
 bif decide (k ≥ IntKind.i64.wrap (g.pages * 8)) then (κ (false)) else
 kj (false) (IntKind.i64.wrap (Int.tmod k 8 * 8)) (true) (g) (IntKind.i64.wrap (Int.tdiv k 8)) (fun y2_0 =>
 κ (false)) (fun y2_0 =>
 κ (true))
def Wp (g : Geo) (k : Int) : T Bool := xb9 g k .ret
theorem xlf {β : Type} (g : Geo) (k : Int) (κ : Bool → T β) : (Wp g k).bind κ = xb9 g k κ := by
 unfold Wp xb9
 first | rfl | (simp only [xa, xb, xe, xc, T.bind_assoc, xd4])
def jV {β : Type} (a0 : Int) (g2 : Geo) (a3 : Int) (κ0 : Int → T β) (i : Int) (k : Int → T β) : T β :=
 bif i != 0 then (.op (.cas (atF g2 9 a0) (i) (0)) fun b1 =>
 bif !b1 then (.op (.load (atF g2 9 a0)) fun x3 =>
 k (x3)) else
 κ0 (i)) else
 κ0 (i)
def yn {β : Type} (a0 : Int) (g2 : Geo) (a3 a1 : Int) (κ0 : Int → T β) : T β := xA xd (jV a0 g2 a3 κ0) (a1)
theorem kK {β γ : Type} (a0 : Int) (g2 : Geo) (a3 a1 : Int) (κ0 : Int → T β) (κ : β → T γ) : (yn a0 g2 a3 a1 κ0).bind κ = yn a0 g2 a3 a1 (fun ae0 => (κ0 ae0).bind κ) := by
 unfold yn
 refine xp κ (fun i k => ?_) _ _
 unfold jV
 first | rfl | (simp only [xa, xb, xe, xc, T.bind_assoc])
def xd6 : Pat := ⟨xr 84 0 [(2, .c (.int .i64)), (6, .c (.raw (.nils))), (7, .c (.raw (.ptr 1 0))), (8, .c (.int .u64))], [none, some ⟨[.raw (.port), .geo, .int .i64], 234, false, none⟩]⟩
def xbs : Pat := ⟨xr 84 0 [(6, .c (.raw (.nils))), (7, .c (.raw (.ptr 1 0))), (8, .c (.int .u64))], [none, some ⟨[.raw (.port), .geo, .int .i64], 234, false, none⟩]⟩
def XS : St → (Ex → St → T R) → Option (T R) := fun st K => match xy xd6 st with
 | some [.i a0, .i a1, .g g2, .i a3] => some (yn a0 g2 a3 a1 (fun ae0 => K (.exit 0) (xf xbs [.i ae0, .g g2, .i a3])))
 | _ => none
theorem xn7 : ∀ st K t, XS st K = some t → xK xd (lf ka4 xd 0 .no [1, 1, 1, 1, 0, 0] Tryz.f260 K) st = t := by
 intro st K t h
 unfold XS at h
 split at h
 ·rename_i a0 a1 g2 a3 hm
  cases h
  rw [xn hm]
  exact cast (by kernel_rfl) (xB (F := lf ka4 xd 0 .no [1, 1, 1, 1, 0, 0] Tryz.f260 K) (S := fun i => xf xd6 [.i a0, .i i, .g g2, .i a3]) (B := jV a0 g2 a3 (fun ae0 => K (.exit 0) (xf xbs [.i ae0, .g g2, .i a3]))) (fun i k => by kernel_rfl) xd (a1))
 ·cases h
def xca {β : Type} (g : Geo) (p : Int) (κ : (List Int) → T β) : T β :=
 (isT g p 0).bind fun r0 =>
 bif !r0 then (κ []) else
 .op (.load (atF g 9 p)) fun x2 =>
 yn (p) (g) (p) (x2) (fun y3_0 =>
 bif y3_0 != 0 then (.op (.load (atF g 10 (IntKind.i64.wrap (IntKind.i64.wrap y3_0 - 1)))) fun x5 =>
 bif x5 != 0 then (.op (.load (atF g 10 (IntKind.i64.wrap (IntKind.i64.wrap x5 - 1)))) fun x7 =>
 bif x7 != 0 then (.op (.load (atF g 10 (IntKind.i64.wrap (IntKind.i64.wrap x7 - 1)))) fun x9 =>
 bif x9 != 0 then (.op (.load (atF g 10 (IntKind.i64.wrap (IntKind.i64.wrap x9 - 1)))) fun x11 =>
 bif x11 != 0 then (.op (.load (atF g 10 (IntKind.i64.wrap (IntKind.i64.wrap x11 - 1)))) fun x13 =>
 bif x13 != 0 then (.op (.load (atF g 10 (IntKind.i64.wrap (IntKind.i64.wrap x13 - 1)))) fun x15 =>
 bif x15 != 0 then (.op (.load (atF g 10 (IntKind.i64.wrap (IntKind.i64.wrap x15 - 1)))) fun x17 =>
 bif x17 != 0 then (.op (.load (atF g 10 (IntKind.i64.wrap (IntKind.i64.wrap x17 - 1)))) fun x19 =>
 bif x19 != 0 then (κ [(IntKind.i64.wrap (IntKind.i64.wrap y3_0 - 1)), (IntKind.i64.wrap (IntKind.i64.wrap x5 - 1)), (IntKind.i64.wrap (IntKind.i64.wrap x7 - 1)), (IntKind.i64.wrap (IntKind.i64.wrap x9 - 1)), (IntKind.i64.wrap (IntKind.i64.wrap x11 - 1)), (IntKind.i64.wrap (IntKind.i64.wrap x13 - 1)), (IntKind.i64.wrap (IntKind.i64.wrap x15 - 1)), (IntKind.i64.wrap (IntKind.i64.wrap x17 - 1))]) else
 κ [(IntKind.i64.wrap (IntKind.i64.wrap y3_0 - 1)), (IntKind.i64.wrap (IntKind.i64.wrap x5 - 1)), (IntKind.i64.wrap (IntKind.i64.wrap x7 - 1)), (IntKind.i64.wrap (IntKind.i64.wrap x9 - 1)), (IntKind.i64.wrap (IntKind.i64.wrap x11 - 1)), (IntKind.i64.wrap (IntKind.i64.wrap x13 - 1)), (IntKind.i64.wrap (IntKind.i64.wrap x15 - 1)), (IntKind.i64.wrap (IntKind.i64.wrap x17 - 1))]) else
 κ [(IntKind.i64.wrap (IntKind.i64.wrap y3_0 - 1)), (IntKind.i64.wrap (IntKind.i64.wrap x5 - 1)), (IntKind.i64.wrap (IntKind.i64.wrap x7 - 1)), (IntKind.i64.wrap (IntKind.i64.wrap x9 - 1)), (IntKind.i64.wrap (IntKind.i64.wrap x11 - 1)), (IntKind.i64.wrap (IntKind.i64.wrap x13 - 1)), (IntKind.i64.wrap (IntKind.i64.wrap x15 - 1))]) else
 κ [(IntKind.i64.wrap (IntKind.i64.wrap y3_0 - 1)), (IntKind.i64.wrap (IntKind.i64.wrap x5 - 1)), (IntKind.i64.wrap (IntKind.i64.wrap x7 - 1)), (IntKind.i64.wrap (IntKind.i64.wrap x9 - 1)), (IntKind.i64.wrap (IntKind.i64.wrap x11 - 1)), (IntKind.i64.wrap (IntKind.i64.wrap x13 - 1))]) else
 κ [(IntKind.i64.wrap (IntKind.i64.wrap y3_0 - 1)), (IntKind.i64.wrap (IntKind.i64.wrap x5 - 1)), (IntKind.i64.wrap (IntKind.i64.wrap x7 - 1)), (IntKind.i64.wrap (IntKind.i64.wrap x9 - 1)), (IntKind.i64.wrap (IntKind.i64.wrap x11 - 1))]) else
 κ [(IntKind.i64.wrap (IntKind.i64.wrap y3_0 - 1)), (IntKind.i64.wrap (IntKind.i64.wrap x5 - 1)), (IntKind.i64.wrap (IntKind.i64.wrap x7 - 1)), (IntKind.i64.wrap (IntKind.i64.wrap x9 - 1))]) else
 κ [(IntKind.i64.wrap (IntKind.i64.wrap y3_0 - 1)), (IntKind.i64.wrap (IntKind.i64.wrap x5 - 1)), (IntKind.i64.wrap (IntKind.i64.wrap x7 - 1))]) else
 κ [(IntKind.i64.wrap (IntKind.i64.wrap y3_0 - 1)), (IntKind.i64.wrap (IntKind.i64.wrap x5 - 1))]) else
 κ [(IntKind.i64.wrap (IntKind.i64.wrap y3_0 - 1))]) else
 κ [])
def xn8 (g : Geo) (p : Int) : T (List Int) := xca g p .ret
theorem xbt {β : Type} (g : Geo) (p : Int) (κ : (List Int) → T β) : (xn8 g p).bind κ = xca g p κ := by
 unfold xn8 xca
 first | rfl | (simp only [xa, xb, xe, xc, T.bind_assoc, kK])
def xpG {β : Type} (g : Geo) (p n : Int) (κ : Unit → T β) : T β :=
 bif n == 0 then (κ ()) else
 bif decide (n > 1) then ((kX g (IntKind.i64.wrap (IntKind.i64.wrap (p + n) - 1)) 2 n).bind fun r2 =>
 (kX g p 1 n).bind fun r3 =>
 (vW g n false).bind fun r4 =>
 κ ()) else
 (kX g p 1 n).bind fun r2 =>
 (vW g n false).bind fun r3 =>
 κ ()
def layT (g : Geo) (p n : Int) : T Unit := xpG g p n .ret
theorem xrB {β : Type} (g : Geo) (p n : Int) (κ : Unit → T β) : (layT g p n).bind κ = xpG g p n κ := by
 unfold layT xpG
 first | rfl | (simp only [xa, xb, xe, xc, T.bind_assoc])
def Kb {β : Type} (a0 a1 : Int) (g3 : Geo) (a4 a5 a6 : Int) (κ0 : Int → Int → Int → T β) (i : Int × Int × Int × Int) (k : Int × Int × Int × Int → T β) : T β :=
 bif decide (i.1 < g3.pages) then ((Yz g3 i.1).bind fun r1 =>
 bif bif a1 == 0 then false else true then (bif r1.kind == 1 then (bif decide   (IntKind.i64.wrap       (IntKind.i64.wrap           (IntKind.i64.wrap               (Int.tdiv (IntKind.i64.wrap (IntKind.i64.wrap (i.1 + a1) - 1)) a1) *             a1) +         a0) ≤     IntKind.i64.wrap (i.1 + r1.len)) then (bif i.2.2.1 == 0 then ((vU { kind := r1.kind, len := r1.len, cls := r1.cls, owner := r1.owner }).bind fun r6 =>
 k (IntKind.i64.wrap (i.1 + r6), i.1, r1.len, IntKind.i64.wrap   (IntKind.i64.wrap (Int.tdiv (IntKind.i64.wrap (IntKind.i64.wrap (i.1 + a1) - 1)) a1) *     a1))) else
 bif decide (r1.len < i.2.2.1) then ((vU { kind := r1.kind, len := r1.len, cls := r1.cls, owner := r1.owner }).bind fun r7 =>
 k (IntKind.i64.wrap (i.1 + r7), i.1, r1.len, IntKind.i64.wrap   (IntKind.i64.wrap (Int.tdiv (IntKind.i64.wrap (IntKind.i64.wrap (i.1 + a1) - 1)) a1) *     a1))) else
 (vU { kind := r1.kind, len := r1.len, cls := r1.cls, owner := r1.owner }).bind fun r7 =>
 k (IntKind.i64.wrap (i.1 + r7), i.2.1, i.2.2.1, i.2.2.2)) else
 (vU { kind := r1.kind, len := r1.len, cls := r1.cls, owner := r1.owner }).bind fun r5 =>
 k (IntKind.i64.wrap (i.1 + r5), i.2.1, i.2.2.1, i.2.2.2)) else
 (vU { kind := r1.kind, len := r1.len, cls := r1.cls, owner := r1.owner }).bind fun r4 =>
 k (IntKind.i64.wrap (i.1 + r4), i.2.1, i.2.2.1, i.2.2.2)) else
 .fail) else
 κ0 (i.2.1) (i.2.2.1) (i.2.2.2)
def jW {β : Type} (a0 a1 : Int) (g3 : Geo) (a4 a5 a6 a2 a7 a8 a9 : Int) (κ0 : Int → Int → Int → T β) : T β := xA xd (Kb a0 a1 g3 a4 a5 a6 κ0) (a2, a7, a8, a9)
theorem xfi {β γ : Type} (a0 a1 : Int) (g3 : Geo) (a4 a5 a6 a2 a7 a8 a9 : Int) (κ0 : Int → Int → Int → T β) (κ : β → T γ) : (jW a0 a1 g3 a4 a5 a6 a2 a7 a8 a9 κ0).bind κ = jW a0 a1 g3 a4 a5 a6 a2 a7 a8 a9 (fun ae3 ae4 ae5 => (κ0 ae3 ae4 ae5).bind κ) := by
 unfold jW
 refine xp κ (fun i k => ?_) _ _
 unfold Kb
 first | rfl | (simp only [xa, xb, xe, xc, T.bind_assoc])
def xgH : Pat := ⟨xr 67 0 [(1, .c (.int .i64)), (2, .c (.int .i64)), (3, .c (.raw (.ptr 0 0))), (6, .c (.raw (.ptr 1 0))), (7, .c (.raw (.ptr 2 0))), (8, .c (.int .i64))], [some ⟨[.raw (.port), .geo], 212, false, none⟩, some ⟨[.int .i64, .int .i64, .int .i64], 296, false, none⟩, some ⟨[.int .i64, .int .i64, .int .i64], 296, false, none⟩]⟩
def xd7 : Pat := ⟨xr 67 0 [(6, .c (.raw (.ptr 1 0))), (7, .c (.raw (.ptr 2 0)))], [none, some ⟨[.int .i64, .int .i64, .int .i64], 296, false, none⟩, some ⟨[.int .i64, .int .i64, .int .i64], 296, false, none⟩]⟩
def Kc : St → (Ex → St → T R) → Option (T R) := fun st K => match xy xgH st with
 | some [.i a0, .i a1, .i a2, .g g3, .i a4, .i a5, .i a6, .i a7, .i a8, .i a9] => some (jW a0 a1 g3 a4 a5 a6 a2 a7 a8 a9 (fun ae3 ae4 ae5 => K (.exit 0) (xf xd7 [.i a4, .i a5, .i a6, .i ae3, .i ae4, .i ae5])))
 | _ => none
theorem xrC : ∀ st K t, Kc st K = some t → xK xd (lf ka4 xd 0 .no [1, 1, 1, 0, 1, 0] Tryz.f263 K) st = t := by
 intro st K t h
 unfold Kc at h
 split at h
 ·rename_i a0 a1 a2 g3 a4 a5 a6 a7 a8 a9 hm
  cases h
  rw [xn hm]
  exact cast (by kernel_rfl) (xB (F := lf ka4 xd 0 .no [1, 1, 1, 0, 1, 0] Tryz.f263 K) (S := fun i => xf xgH [.i a0, .i a1, .i (i.1), .g g3, .i a4, .i a5, .i a6, .i (i.2.1), .i (i.2.2.1), .i (i.2.2.2)]) (B := Kb a0 a1 g3 a4 a5 a6 (fun ae3 ae4 ae5 => K (.exit 0) (xf xd7 [.i a4, .i a5, .i a6, .i ae3, .i ae4, .i ae5]))) (fun i k => by kernel_rfl) xd (a2, a7, a8, a9))
 ·cases h
def xiA {β : Type} (g : Geo) (k a : Int) (κ : Fit → T β) : T β :=
 (anyT g k).bind fun r0 =>
 bif !r0 then (κ ⟨(0), (0), (0)⟩) else
 jW (k) (a) (g) (0) (0) (0) (0) (0) (0) (0) (fun y2_0 y2_1 y2_2 =>
 κ ⟨(y2_0), (y2_1), (y2_2)⟩)
def xgI (g : Geo) (k a : Int) : T Fit := xiA g k a .ret
theorem xn9 {β : Type} (g : Geo) (k a : Int) (κ : Fit → T β) : (xgI g k a).bind κ = xiA g k a κ := by
 unfold xgI xiA
 first | rfl | (simp only [xa, xb, xe, xc, T.bind_assoc, xfi])
def xd8 {β : Type} (x : Int) (κ : Int → T β) : T β :=
 κ (-1)
def xiB (x : Int) : T Int := xd8 x .ret
theorem xiC {β : Type} (x : Int) (κ : Int → T β) : (xiB x).bind κ = xd8 x κ := by
 unfold xiB xd8
 first | rfl | (simp only [xa, xb, xe, xc, T.bind_assoc])
def XT {β : Type} (x k : Int) (κ : Int → T β) : T β :=
 bif x == k then (κ (0)) else
 κ (-1)
def ZX (x k : Int) : T Int := XT x k .ret
theorem xfj {β : Type} (x k : Int) (κ : Int → T β) : (ZX x k).bind κ = XT x k κ := by
 unfold ZX XT
 first | rfl | (simp only [xa, xb, xe, xc, T.bind_assoc])
def xd9 {β : Type} (x k j : Int) (κ : Int → T β) : T β :=
 bif x == k then (κ (0)) else
 bif x == j then (κ (1)) else
 κ (-1)
def xcb (x k j : Int) : T Int := xd9 x k j .ret
theorem xiD {β : Type} (x k j : Int) (κ : Int → T β) : (xcb x k j).bind κ = xd9 x k j κ := by
 unfold xcb xd9
 first | rfl | (simp only [xa, xb, xe, xc, T.bind_assoc])
def XU {β : Type} (a0 : Int) (g1 : Geo) (a2 a3 a4 a5 : Int) (b6 : Bool) (a7 : Int) (κ0 : Int → Int → Int → Int → Bool → Int → T β) (i : Unit) (k : Unit → T β) : T β :=
 (xdR g1 a0).bind fun r0 =>
 bif !r0.live then (κ0 (r0.kind) (r0.size) (r0.other) (r0.ver) (r0.live) (r0.lin)) else
 .op (.cas (atF g1 11 a0) (Stt.word { kind := r0.kind, size := r0.size, other := r0.other, ver := r0.ver }) (0)) fun b2 =>
 bif b2 then (.op (.steps ) fun x4 =>
 κ0 (r0.kind) (r0.size) (r0.other) (r0.ver) (r0.live) (x4)) else
 k ()
def kl {β : Type} (a0 : Int) (g1 : Geo) (a2 a3 a4 a5 : Int) (b6 : Bool) (a7 : Int)  (κ0 : Int → Int → Int → Int → Bool → Int → T β) : T β := xA xd (XU a0 g1 a2 a3 a4 a5 b6 a7 κ0) ()
theorem xea {β γ : Type} (a0 : Int) (g1 : Geo) (a2 a3 a4 a5 : Int) (b6 : Bool) (a7 : Int)  (κ0 : Int → Int → Int → Int → Bool → Int → T β) (κ : β → T γ) : (kl a0 g1 a2 a3 a4 a5 b6 a7  κ0).bind κ = kl a0 g1 a2 a3 a4 a5 b6 a7  (fun ae0 ae1 ae2 ae3 be4 ae5 => (κ0 ae0 ae1 ae2 ae3 be4 ae5).bind κ) := by
 unfold kl
 refine xp κ (fun i k => ?_) _ _
 unfold XU
 first | rfl | (simp only [xa, xb, xe, xc, T.bind_assoc])
def xeb : Pat := ⟨xr 31 0 [(0, .c (.raw (.port))), (2, .c (.int .i64)), (4, .c (.raw (.ptr 0 0))), (6, .c (.raw (.ptr 1 0)))], [some ⟨[.geo], 24, false, none⟩, some ⟨[.int .i64, .int .i64, .int .i64, .int .u32, .bool, .int .i64], 145, false, none⟩]⟩
def xbu : Pat := ⟨xr 31 0 [(6, .c (.raw (.ptr 1 0)))], [none, some ⟨[.int .i64, .int .i64, .int .i64, .int .u32, .bool, .int .i64], 145, false, none⟩]⟩
def XV : St → (Ex → St → T R) → Option (T R) := fun st K => match xy xeb st with
 | some [.i a0, .g g1, .i a2, .i a3, .i a4, .i a5, .b b6, .i a7] => some (kl a0 g1 a2 a3 a4 a5 b6 a7  (fun ae0 ae1 ae2 ae3 be4 ae5 => K (.ret) (xf xbu [.i ae0, .i ae1, .i ae2, .i ae3, .b be4, .i ae5])))
 | _ => none
theorem xoa : ∀ st K t, XV st K = some t → xK xd (lf ka4 xd 0 .no [1, 0] Tryz.f82 K) st = t := by
 intro st K t h
 unfold XV at h
 split at h
 ·rename_i a0 g1 a2 a3 a4 a5 b6 a7 hm
  cases h
  rw [xn hm]
  exact cast (by kernel_rfl) (xB (F := lf ka4 xd 0 .no [1, 0] Tryz.f82 K) (S := fun i => xf xeb [.i a0, .g g1, .i a2, .i a3, .i a4, .i a5, .b b6, .i a7]) (B := XU a0 g1 a2 a3 a4 a5 b6 a7 (fun ae0 ae1 ae2 ae3 be4 ae5 => K (.ret) (xf xbu [.i ae0, .i ae1, .i ae2, .i ae3, .b be4, .i ae5]))) (fun i k => by kernel_rfl) xd ())
 ·cases h
def xcc {β : Type} (g : Geo) (k : Int) (κ : Seen → T β) : T β :=
 kl (k) (g) (0) (0) (0) (0) (false) (0) (fun y0_0 y0_1 y0_2 y0_3 y0_4 y0_5 =>
 κ ⟨(y0_0), (y0_1), (y0_2), (y0_3), (y0_4), (y0_5)⟩)
def xaD (g : Geo) (k : Int) : T Seen := xcc g k .ret
theorem xlg {β : Type} (g : Geo) (k : Int) (κ : Seen → T β) : (xaD g k).bind κ = xcc g k κ := by
 unfold xaD xcc
 first | rfl | (simp only [xa, xb, xe, xc, T.bind_assoc, xea])
def XW {β : Type} (s : Int) (κ : Int → T β) : T β :=
 bif decide (s < 1) then (κ (0)) else
 κ (IntKind.i64.wrap (IntKind.i64.wrap (Int.tdiv (IntKind.i64.wrap (s - 1)) 64) + 1))
def jX (s : Int) : T Int := XW s .ret
theorem xfk {β : Type} (s : Int) (κ : Int → T β) : (jX s).bind κ = XW s κ := by
 unfold jX XW
 first | rfl | (simp only [xa, xb, xe, xc, T.bind_assoc])
def xec : Sm := fun args H => match args, H with
 | [.c .port, .agg gc, .c (.int .i64 k)], [] => (match xu gc with
   | some g => some (mkS (Bool) (Wp g k) fun r => some (.c (.bool r), []))
   | _ => none)
 | _, _ => none
theorem xlh : Good Tryz.prog (xt ka4) xd 0 (lsAt XR .no [1, 1, 0, 0]) (Tryz.f91.body.getD .skip) (xv Tryz.f91.results.toList) := xH (xl (by kernel_rfl)) xE xn6
variable {σ : Type} {I : Port Tryz.prog σ}
theorem xob (hl : SoundL I ka4) : SoundF I 91 xec := by
 refine sq hl xd Tryz.func91 fun args H t ht => ?_
 unfold xec at ht
 split at ht
 ·rename_i gc k
  split at ht
  ·rename_i g hg
   obtain rfl := xh hg
   cases ht
   refine (xG (P := Tryz.prog) (n := xd) (x := (lsAt XR .no [1, 1, 0, 0])) (fn := Tryz.f91) (H := []) (c := Tryz.f91.body.getD .skip) (xl (by kernel_rfl)) xlh).symm.trans ?_
   refine Eq.trans ?_ (xlf g k _).symm
   kernel_rfl
  ·cases ht
 ·cases ht
def xed : Sm := fun args H => match args, H with
 | [.c .port, .agg gc, .c (.int .i64 p)], [] => (match xu gc with
   | some g => some ⟨(List Int), xn8 g p, fun r => some (listR r), fun _ κ => xca g p κ, fun _ κ => (xbt g p κ).symm⟩
   | _ => none)
 | _, _ => none
theorem xli : Good Tryz.prog (xt ka4) xd 0 (lsAt XS .no [1, 1, 1, 1, 0, 0]) (Tryz.f260.body.getD .skip) (xv Tryz.f260.results.toList) := xH (xl (by kernel_rfl)) xE xn7
theorem xoc (hl : SoundL I ka4) : SoundF I 260 xed := by
 refine sq hl xd Tryz.func260 fun args H t ht => ?_
 unfold xed at ht
 split at ht
 ·rename_i gc p
  split at ht
  ·rename_i g hg
   obtain rfl := xh hg
   cases ht
   refine (xG (P := Tryz.prog) (n := xd) (x := (lsAt XS .no [1, 1, 1, 1, 0, 0])) (fn := Tryz.f260) (H := []) (c := Tryz.f260.body.getD .skip) (xl (by kernel_rfl)) xli).symm.trans ?_
   refine Eq.trans ?_ (xbt g p _).symm
   kernel_rfl
  ·cases ht
 ·cases ht
def xod : Sm := fun args H => match args, H with
 | [.agg (.port :: gc), .c (.int .i64 p), .c (.int .i64 n)], [] => (match xu gc with
   | some g => some (mkS (Unit) (layT g p n) fun r => some (.tup [], []))
   | _ => none)
 | _, _ => none
theorem xtq (hl : SoundL I ka4) : SoundF I 152 xod := by
 refine sq hl 1 Tryz.func152 fun args H t ht => ?_
 unfold xod at ht
 split at ht
 ·rename_i gc p n
  split at ht
  ·rename_i g hg
   obtain rfl := xh hg
   cases ht
   refine Eq.trans ?_ (xrB g p n _).symm
   kernel_rfl
  ·cases ht
 ·cases ht
def xiE : Sm := fun args H => match args, H with
 | [.agg (.port :: gc), .c (.int .i64 k), .c (.int .i64 a)], [] => (match xu gc with
   | some g => some (mkS (Fit) (xgI g k a) fun r => some (.agg r.cells, []))
   | _ => none)
 | _, _ => none
theorem xoe : Good Tryz.prog (xt ka4) xd 0 (lsAt Kc .no [1, 1, 1, 0, 1, 0]) (Tryz.f263.body.getD .skip) (xv Tryz.f263.results.toList) := xH (xl (by kernel_rfl)) xE xrC
theorem xrD (hl : SoundL I ka4) : SoundF I 263 xiE := by
 refine sq hl xd Tryz.func263 fun args H t ht => ?_
 unfold xiE at ht
 split at ht
 ·rename_i gc k a
  split at ht
  ·rename_i g hg
   obtain rfl := xh hg
   cases ht
   refine (xG (P := Tryz.prog) (n := xd) (x := (lsAt Kc .no [1, 1, 1, 0, 1, 0])) (fn := Tryz.f263) (H := []) (c := Tryz.f263.body.getD .skip) (xl (by kernel_rfl)) xoe).symm.trans ?_
   refine Eq.trans ?_ (xn9 g k a _).symm
   kernel_rfl
  ·cases ht
 ·cases ht
def xaE : Sm := fun args H => match args, H with
 | [.c .nils, .c (.int .i64 x)], [] => some (mkS (Int) (xiB x) fun r => some (.c (.int .i64 r), []))
 | _, _ => none
theorem xlj (hl : SoundL I ka4) : SoundF I 271 xaE := by
 refine sq hl 5 Tryz.func271 fun args H t ht => ?_
 unfold xaE at ht
 split at ht
 ·rename_i x
  cases ht
  refine Eq.trans ?_ (xiC x _).symm
  kernel_rfl
 ·cases ht
def Wq : Sm := fun args H => match args, H with
 | [.c (.sl 0 0 1 1), .c (.int .i64 x)], [some ⟨[.int .i64 k], 3, false, none⟩] => some (mkS (Int) (ZX x k) fun r => some (.c (.int .i64 r), [some ⟨[.int .i64 k], 3, false, none⟩]))
 | _, _ => none
theorem xiF (hl : SoundL I ka4) : SoundF I 271 Wq := by
 refine sq hl 5 Tryz.func271 fun args H t ht => ?_
 unfold Wq at ht
 split at ht
 ·rename_i x k
  cases ht
  refine Eq.trans ?_ (xfj x k _).symm
  kernel_rfl
 ·cases ht
def xaF : Sm := fun args H => match args, H with
 | [.c (.sl 0 0 2 2), .c (.int .i64 x)], [some ⟨[.int .i64 k, .int .i64 j], 3, false, none⟩] => some (mkS (Int) (xcb x k j) fun r => some (.c (.int .i64 r), [some ⟨[.int .i64 k, .int .i64 j], 3, false, none⟩]))
 | _, _ => none
theorem xlk (hl : SoundL I ka4) : SoundF I 271 xaF := by
 refine sq hl 5 Tryz.func271 fun args H t ht => ?_
 unfold xaF at ht
 split at ht
 ·rename_i x k j
  cases ht
  refine Eq.trans ?_ (xiD x k j _).symm
  kernel_rfl
 ·cases ht
def xee : Sm := fun args H => match args, H with
 | [.c .port, .agg gc, .c (.int .i64 k)], [] => (match xu gc with
   | some g => some (mkS (Seen) (xaD g k) fun r => some (.agg r.cells, []))
   | _ => none)
 | _, _ => none
theorem xll : Good Tryz.prog (xt ka4) xd 0 (lsAt XV .no [1, 0]) (Tryz.f82.body.getD .skip) (xv Tryz.f82.results.toList) := xH (xl (by kernel_rfl)) xE xoa
theorem xof (hl : SoundL I ka4) : SoundF I 82 xee := by
 refine sq hl xd Tryz.func82 fun args H t ht => ?_
 unfold xee at ht
 split at ht
 ·rename_i gc k
  split at ht
  ·rename_i g hg
   obtain rfl := xh hg
   cases ht
   refine (xG (P := Tryz.prog) (n := xd) (x := (lsAt XV .no [1, 0])) (fn := Tryz.f82) (H := []) (c := Tryz.f82.body.getD .skip) (xl (by kernel_rfl)) xll).symm.trans ?_
   refine Eq.trans ?_ (xlg g k _).symm
   kernel_rfl
  ·cases ht
 ·cases ht
def Wr : Sm := fun args H => match args, H with
 | [.c (.int .i64 s)], [] => some (mkS (Int) (jX s) fun r => some (.c (.int .i64 r), []))
 | _, _ => none
theorem xiG (hl : SoundL I ka4) : SoundF I 78 Wr := by
 refine sq hl 1 Tryz.func78 fun args H t ht => ?_
 unfold Wr at ht
 split at ht
 ·rename_i s
  cases ht
  refine Eq.trans ?_ (xfk s _).symm
  kernel_rfl
 ·cases ht
def ka5 : List (Nat × Sm) := (91, xec) :: (260, xed) :: (152, xod) :: (263, xiE) :: (271, (orSm xaE (orSm Wq xaF))) :: (82, xee) :: (78, Wr) :: ka4
theorem jY : SoundL I ka5 := (.cons (xob YC) (.cons (xoc YC) (.cons (xtq YC) (.cons (xrD YC) (.cons (SoundF.or (xlj YC) (SoundF.or (xiF YC) (xlk YC))) (.cons (xof YC) (.cons (xiG YC) YC)))))))
end Go.Proofs.YtaegelbaghaooaaGreat.Lx
