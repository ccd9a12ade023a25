/- Summaries: pool, central, tally. (trees printed by program, wip/auto.py) -/
import Derived.Test.YtaegelbaghaooaaGreatAyQA7
import Derived.WalkKit
set_option linter.unusedSimpArgs false
set_option linter.unusedVariables false
set_option linter.unusedSectionVars false
namespace Go.Proofs.YtaegelbaghaooaaGreat.Lx
open Go
set_option maxRecDepth 1000000

def Yb {β : Type} (g1 : Geo) (κ0 : Unit → T β) (i : Int) (k : Int → T β) : T β :=
 bif decide (i ≤ qv g1) then (bif i == qv g1 then (.op (.store (atF g1 17 (inF (IntKind.i64.wrap (i - 1)) 0 1)) (0)) fun _ =>
 k (IntKind.i64.wrap (i + 1))) else
 .op (.store (atF g1 17 (inF (IntKind.i64.wrap (i - 1)) 0 1)) (Ref.word { idx := IntKind.i64.wrap (i + 1), mark := false, ver := 0 })) fun _ =>
 k (IntKind.i64.wrap (i + 1))) else
 κ0 ()
def ko {β : Type} (g1 : Geo) (a0 : Int) (κ0 : Unit → T β) : T β := xA xd (Yb g1 κ0) (a0)
theorem xeu {β γ : Type} (g1 : Geo) (a0 : Int) (κ0 : Unit → T β) (κ : β → T γ) : (ko g1 a0 κ0).bind κ = ko g1 a0 (fun u => (κ0 u).bind κ) := by
 unfold ko
 refine xp κ (fun i k => ?_) _ _
 unfold Yb
 first | rfl | (simp only [xa, xb, xe, xc, T.bind_assoc])
def xev : Pat := ⟨xr 42 0 [(0, .c (.raw (.port))), (3, .c (.raw (.ptr 0 0))), (4, .c (.int .i64))], [some ⟨[.geo], 24, false, none⟩]⟩
def xbw : Pat := ⟨xr 42 0 [(0, .c (.raw (.port))), (3, .c (.raw (.ptr 0 0)))], [some ⟨[.geo], 24, false, none⟩]⟩
def Yc : St → (Ex → St → T R) → Option (T R) := fun st K => match xy xev st with
 | some [.i a0, .g g1] => some (ko g1 a0 (fun _ => K (.exit 0) (xf xbw [.g g1])))
 | _ => none
theorem xou : ∀ st K t, Yc st K = some t → xK xd (lf ka7 xd 0 .no [1, 1, 0, 1, 0] Tryz.f126 K) st = t := by
 intro st K t h
 unfold Yc at h
 split at h
 ·rename_i a0 g1 hm
  cases h
  rw [xn hm]
  exact cast (by kernel_rfl) (xB (F := lf ka7 xd 0 .no [1, 1, 0, 1, 0] Tryz.f126 K) (S := fun i => xf xev [.i i, .g g1]) (B := Yb g1 (fun _ => K (.exit 0) (xf xbw [.g g1]))) (fun i k => by kernel_rfl) xd (a0))
 ·cases h
def xcj {β : Type} (g : Geo) (κ : Unit → T β) : T β :=
 (wQ g).bind fun r0 =>
 bif r0 then (κ ()) else
 ko (g) (1) (fun y2_0 =>
 .op (.store (atF g 4 0) (1)) fun _ =>
 κ ())
def xaO (g : Geo) : T Unit := xcj g .ret
theorem xlC {β : Type} (g : Geo) (κ : Unit → T β) : (xaO g).bind κ = xcj g κ := by
 unfold xaO xcj
 first | rfl | (simp only [xa, xb, xe, xc, T.bind_assoc, xeu])
def xck {β : Type} (a0 : Int) (g1 : Geo) (κ0 : Unit → T β) (κ1 : Int → T β) (i : Unit) (k : Unit → T β) : T β :=
 .op (.load (atF g1 4 0)) fun x0 =>
 bif ofW IntKind.i64 x0 0 24 == 0 then (κ0 ()) else
 .op (.load (atF g1 17   (inF (IntKind.i64.wrap (ofW IntKind.i64 x0 0 24 - 1)) 0 1))) fun x2 =>
 .op (.cas (atF g1 4 0) (x0) (Ref.word   { idx := ofW IntKind.i64 x2 0 24, mark := false,     ver := IntKind.u32.wrap (ofW IntKind.u32 x0 32 32 + 1) })) fun b3 =>
 bif b3 then (κ1 (ofW IntKind.i64 x0 0 24)) else
 k ()
def Yd {β : Type} (a0 : Int) (g1 : Geo)  (κ0 : Unit → T β) (κ1 : Int → T β) : T β := xA xd (xck a0 g1 κ0 κ1) ()
theorem xiY {β γ : Type} (a0 : Int) (g1 : Geo)  (κ0 : Unit → T β) (κ1 : Int → T β) (κ : β → T γ) : (Yd a0 g1  κ0 κ1).bind κ = Yd a0 g1  (fun u => (κ0 u).bind κ) (fun ae0 => (κ1 ae0).bind κ) := by
 unfold Yd
 refine xp κ (fun i k => ?_) _ _
 unfold xck
 first | rfl | (simp only [xa, xb, xe, xc, T.bind_assoc])
def xlD : Pat := ⟨xr 52 0 [(0, .c (.raw (.port))), (3, .c (.raw (.ptr 0 0))), (4, .c (.int .i64))], [some ⟨[.geo], 24, false, none⟩]⟩
def Ye : Pat := ⟨xr 52 0 [(4, .c (.int .i64))], []⟩
def xcl : St → (Ex → St → T R) → Option (T R) := fun st K => match xy xlD st with
 | some [.i a0, .g g1] => some (Yd a0 g1  (fun _ => K (.ret) (xf Ye [.i 0])) (fun ae0 => K (.ret) (xf Ye [.i ae0])))
 | _ => none
theorem xts : ∀ st K t, xcl st K = some t → xK xd (lf ka7 xd 0 .no [1, 1, 0] Tryz.f267 K) st = t := by
 intro st K t h
 unfold xcl at h
 split at h
 ·rename_i a0 g1 hm
  cases h
  rw [xn hm]
  exact cast (by kernel_rfl) (xB (F := lf ka7 xd 0 .no [1, 1, 0] Tryz.f267 K) (S := fun i => xf xlD [.i a0, .g g1]) (B := xck a0 g1 (fun _ => K (.ret) (xf Ye [.i 0])) (fun ae0 => K (.ret) (xf Ye [.i ae0]))) (fun i k => by kernel_rfl) xd ())
 ·cases h
def xpI {β : Type} (g : Geo) (κ : Int → T β) : T β :=
 (wQ g).bind fun r0 =>
 bif r0 then (κ (0)) else
 Yd (0) (g) (fun y2_0 =>
 κ (0)) (fun y2_0 =>
 κ (y2_0))
def acqT (g : Geo) : T Int := xpI g .ret
theorem xrH {β : Type} (g : Geo) (κ : Int → T β) : (acqT g).bind κ = xpI g κ := by
 unfold acqT xpI
 first | rfl | (simp only [xa, xb, xe, xc, T.bind_assoc, xiY])
def Kl {β : Type} (a0 a1 : Int) (g3 : Geo) (a4 : Int) (b5 : Bool) (a6 : Int) (κ0 : Int → Bool → Int → T β) (i : Int) (k : Int → T β) : T β :=
 .op (.self ) fun x0 =>
 .op (.store (atF g3 14 (inF x0 a0 2)) (IntKind.u64.wrap (ofW IntKind.i64 i 0 24))) fun _ =>
 .op (.load (a1)) fun x2 =>
 bif x2 == i then (κ0 (ofW IntKind.i64 i 0 24) (ofW IntKind.i64 i 24 1 == 1) (ofW IntKind.u32 i 32 32)) else
 k (x2)
def qa {β : Type} (a0 a1 : Int) (g3 : Geo) (a4 : Int) (b5 : Bool) (a6 a2 : Int) (κ0 : Int → Bool → Int → T β) : T β := xA xd (Kl a0 a1 g3 a4 b5 a6 κ0) (a2)
theorem xfp {β γ : Type} (a0 a1 : Int) (g3 : Geo) (a4 : Int) (b5 : Bool) (a6 a2 : Int) (κ0 : Int → Bool → Int → T β) (κ : β → T γ) : (qa a0 a1 g3 a4 b5 a6 a2 κ0).bind κ = qa a0 a1 g3 a4 b5 a6 a2 (fun ae0 be1 ae2 => (κ0 ae0 be1 ae2).bind κ) := by
 unfold qa
 refine xp κ (fun i k => ?_) _ _
 unfold Kl
 first | rfl | (simp only [xa, xb, xe, xc, T.bind_assoc])
def xgJ : Pat := ⟨xr 62 0 [(0, .c (.raw (.port))), (2, .c (.int .i64)), (3, .c (.int .i64)), (5, .c (.raw (.ptr 0 0))), (8, .c (.raw (.ptr 1 0))), (9, .c (.int .u64))], [some ⟨[.geo], 24, false, none⟩, some ⟨[.int .i64, .bool, .int .u32], 162, false, none⟩]⟩
def xew : Pat := ⟨xr 62 0 [(8, .c (.raw (.ptr 1 0)))], [none, some ⟨[.int .i64, .bool, .int .u32], 162, false, none⟩]⟩
def Km : St → (Ex → St → T R) → Option (T R) := fun st K => match xy xgJ st with
 | some [.i a0, .i a1, .i a2, .g g3, .i a4, .b b5, .i a6] => some (qa a0 a1 g3 a4 b5 a6 a2 (fun ae0 be1 ae2 => K (.ret) (xf xew [.i ae0, .b be1, .i ae2])))
 | _ => none
theorem xrI : ∀ st K t, Km st K = some t → xK xd (lf ka7 xd 0 .no [1, 1, 1, 0] Tryz.f285 K) st = t := by
 intro st K t h
 unfold Km at h
 split at h
 ·rename_i a0 a1 a2 g3 a4 b5 a6 hm
  cases h
  rw [xn hm]
  exact cast (by kernel_rfl) (xB (F := lf ka7 xd 0 .no [1, 1, 1, 0] Tryz.f285 K) (S := fun i => xf xgJ [.i a0, .i a1, .i i, .g g3, .i a4, .b b5, .i a6]) (B := Kl a0 a1 g3 a4 b5 a6 (fun ae0 be1 ae2 => K (.ret) (xf xew [.i ae0, .b be1, .i ae2]))) (fun i k => by kernel_rfl) xd (a2))
 ·cases h
def xiZ {β : Type} (g : Geo) (s a : Int) (κ : Ref → T β) : T β :=
 .op (.self ) fun x0 =>
 (qX g (atF g 14 (inF x0 s 2))).bind fun r1 =>
 bif r1 then (κ ⟨(0), (false), (0)⟩) else
 bif decide (a < 0) then (κ ⟨(0), (false), (0)⟩) else
 bif decide (a ≥ g.b19) then (κ ⟨(0), (false), (0)⟩) else
 .op (.load (a)) fun x5 =>
 qa (s) (a) (g) (0) (false) (0) (x5) (fun y6_0 y6_1 y6_2 =>
 κ ⟨(y6_0), (y6_1), (y6_2)⟩)
def xbx (g : Geo) (s a : Int) : T Ref := xiZ g s a .ret
theorem xov {β : Type} (g : Geo) (s a : Int) (κ : Ref → T β) : (xbx g s a).bind κ = xiZ g s a κ := by
 unfold xbx xiZ
 first | rfl | (simp only [xa, xb, xe, xc, T.bind_assoc, xfp])
def xcm {β : Type} (g : Geo) (s : Int) (κ : Unit → T β) : T β :=
 .op (.self ) fun x0 =>
 (qX g (atF g 14 (inF x0 s 2))).bind fun r1 =>
 bif !r1 then (.op (.self ) fun x3 =>
 .op (.store (atF g 14 (inF x3 s 2)) (0)) fun _ =>
 κ ()) else
 κ ()
def Wy (g : Geo) (s : Int) : T Unit := xcm g s .ret
theorem xlE {β : Type} (g : Geo) (s : Int) (κ : Unit → T β) : (Wy g s).bind κ = xcm g s κ := by
 unfold Wy xcm
 first | rfl | (simp only [xa, xb, xe, xc, T.bind_assoc])
def qY {β : Type} (a0 a1 : Int) (g3 : Geo) (a5 : Int) (b6 : Bool) (a7 : Int) (κ0 : Int → Int → T β) (κ1 : Int → T β) (i : Int × Int) (k : Int × Int → T β) : T β :=
 bif decide (i.1 < a1) then ((hofT g3 i.2 i.1 a0).bind fun r1 =>
 bif !r1.1 then (k (IntKind.i64.wrap (i.1 + 1), r1.2)) else
 (isT g3 i.1 0).bind fun r3 =>
 bif !r3 then (k (IntKind.i64.wrap (i.1 + 1), r1.2)) else
 .op (.load (atF g3 9 i.1)) fun x5 =>
 yn (i.1) (g3) (i.1) (x5) (fun y6_0 =>
 bif y6_0 != 0 then (.op (.load (atF g3 10 (IntKind.i64.wrap (IntKind.i64.wrap y6_0 - 1)))) fun x8 =>
 bif x8 !=   (0 :     POp.Ans       (POp.load         (atF           {             pages :=               g3.pages,             threads :=               g3.threads,             b0 :=               g3.b0,             b1 :=               g3.b1,             b2 :=               g3.b2,             b3 :=               g3.b3,             b4 :=               g3.b4,             b5 :=               g3.b5,             b6 :=               g3.b6,             b7 :=               g3.b7,             b8 :=               g3.b8,             b9 :=               g3.b9,             b10 :=               g3.b10,             b11 :=               g3.b11,             b12 :=               g3.b12,             b13 :=               g3.b13,             b14 :=               g3.b14,             b15 :=               g3.b15,             b16 :=               g3.b16,             b17 :=               g3.b17,             b18 :=               g3.b18,             b19 :=               g3.b19 }           10 (IntKind.i64.wrap (IntKind.i64.wrap y6_0 - 1))))) then (.op (.load (atF g3 10 (IntKind.i64.wrap (IntKind.i64.wrap x8 - 1)))) fun x10 =>
 bif x10 !=   (0 :     POp.Ans       (POp.load         (atF           {             pages :=               g3.pages,             threads :=               g3.threads,             b0 :=               g3.b0,             b1 :=               g3.b1,             b2 :=               g3.b2,             b3 :=               g3.b3,             b4 :=               g3.b4,             b5 :=               g3.b5,             b6 :=               g3.b6,             b7 :=               g3.b7,             b8 :=               g3.b8,             b9 :=               g3.b9,             b10 :=               g3.b10,             b11 :=               g3.b11,             b12 :=               g3.b12,             b13 :=               g3.b13,             b14 :=               g3.b14,             b15 :=               g3.b15,             b16 :=               g3.b16,             b17 :=               g3.b17,             b18 :=               g3.b18,             b19 :=               g3.b19 }           10 (IntKind.i64.wrap (IntKind.i64.wrap x8 - 1))))) then (.op (.load (atF g3 10 (IntKind.i64.wrap (IntKind.i64.wrap x10 - 1)))) fun x12 =>
 bif x12 !=   (0 :     POp.Ans       (POp.load         (atF           {             pages :=               g3.pages,             threads :=               g3.threads,             b0 :=               g3.b0,             b1 :=               g3.b1,             b2 :=               g3.b2,             b3 :=               g3.b3,             b4 :=               g3.b4,             b5 :=               g3.b5,             b6 :=               g3.b6,             b7 :=               g3.b7,             b8 :=               g3.b8,             b9 :=               g3.b9,             b10 :=               g3.b10,             b11 :=               g3.b11,             b12 :=               g3.b12,             b13 :=               g3.b13,             b14 :=               g3.b14,             b15 :=               g3.b15,             b16 :=               g3.b16,             b17 :=               g3.b17,             b18 :=               g3.b18,             b19 :=               g3.b19 }           10 (IntKind.i64.wrap (IntKind.i64.wrap x10 - 1))))) then (.op (.load (atF g3 10 (IntKind.i64.wrap (IntKind.i64.wrap x12 - 1)))) fun x14 =>
 bif x14 !=   (0 :     POp.Ans       (POp.load         (atF           {             pages :=               g3.pages,             threads :=               g3.threads,             b0 :=               g3.b0,             b1 :=               g3.b1,             b2 :=               g3.b2,             b3 :=               g3.b3,             b4 :=               g3.b4,             b5 :=               g3.b5,             b6 :=               g3.b6,             b7 :=               g3.b7,             b8 :=               g3.b8,             b9 :=               g3.b9,             b10 :=               g3.b10,             b11 :=               g3.b11,             b12 :=               g3.b12,             b13 :=               g3.b13,             b14 :=               g3.b14,             b15 :=               g3.b15,             b16 :=               g3.b16,             b17 :=               g3.b17,             b18 :=               g3.b18,             b19 :=               g3.b19 }           10 (IntKind.i64.wrap (IntKind.i64.wrap x12 - 1))))) then (.op (.load (atF g3 10 (IntKind.i64.wrap (IntKind.i64.wrap x14 - 1)))) fun x16 =>
 bif x16 !=   (0 :     POp.Ans       (POp.load         (atF           {             pages :=               g3.pages,             threads :=               g3.threads,             b0 :=               g3.b0,             b1 :=               g3.b1,             b2 :=               g3.b2,             b3 :=               g3.b3,             b4 :=               g3.b4,             b5 :=               g3.b5,             b6 :=               g3.b6,             b7 :=               g3.b7,             b8 :=               g3.b8,             b9 :=               g3.b9,             b10 :=               g3.b10,             b11 :=               g3.b11,             b12 :=               g3.b12,             b13 :=               g3.b13,             b14 :=               g3.b14,             b15 :=               g3.b15,             b16 :=               g3.b16,             b17 :=               g3.b17,             b18 :=               g3.b18,             b19 :=               g3.b19 }           10 (IntKind.i64.wrap (IntKind.i64.wrap x14 - 1))))) then (.op (.load (atF g3 10 (IntKind.i64.wrap (IntKind.i64.wrap x16 - 1)))) fun x18 =>
 bif x18 !=   (0 :     POp.Ans       (POp.load         (atF           {             pages :=               g3.pages,             threads :=               g3.threads,             b0 :=               g3.b0,             b1 :=               g3.b1,             b2 :=               g3.b2,             b3 :=               g3.b3,             b4 :=               g3.b4,             b5 :=               g3.b5,             b6 :=               g3.b6,             b7 :=               g3.b7,             b8 :=               g3.b8,             b9 :=               g3.b9,             b10 :=               g3.b10,             b11 :=               g3.b11,             b12 :=               g3.b12,             b13 :=               g3.b13,             b14 :=               g3.b14,             b15 :=               g3.b15,             b16 :=               g3.b16,             b17 :=               g3.b17,             b18 :=               g3.b18,             b19 :=               g3.b19 }           10 (IntKind.i64.wrap (IntKind.i64.wrap x16 - 1))))) then (.op (.load (atF g3 10 (IntKind.i64.wrap (IntKind.i64.wrap x18 - 1)))) fun x20 =>
 bif x20 !=   (0 :     POp.Ans       (POp.load         (atF           {             pages :=               g3.pages,             threads :=               g3.threads,             b0 :=               g3.b0,             b1 :=               g3.b1,             b2 :=               g3.b2,             b3 :=               g3.b3,             b4 :=               g3.b4,             b5 :=               g3.b5,             b6 :=               g3.b6,             b7 :=               g3.b7,             b8 :=               g3.b8,             b9 :=               g3.b9,             b10 :=               g3.b10,             b11 :=               g3.b11,             b12 :=               g3.b12,             b13 :=               g3.b13,             b14 :=               g3.b14,             b15 :=               g3.b15,             b16 :=               g3.b16,             b17 :=               g3.b17,             b18 :=               g3.b18,             b19 :=               g3.b19 }           10 (IntKind.i64.wrap (IntKind.i64.wrap x18 - 1))))) then (.op (.load (atF g3 10 (IntKind.i64.wrap (IntKind.i64.wrap x20 - 1)))) fun x22 =>
 bif x22 !=   (0 :     POp.Ans       (POp.load         (atF           {             pages :=               g3.pages,             threads :=               g3.threads,             b0 :=               g3.b0,             b1 :=               g3.b1,             b2 :=               g3.b2,             b3 :=               g3.b3,             b4 :=               g3.b4,             b5 :=               g3.b5,             b6 :=               g3.b6,             b7 :=               g3.b7,             b8 :=               g3.b8,             b9 :=               g3.b9,             b10 :=               g3.b10,             b11 :=               g3.b11,             b12 :=               g3.b12,             b13 :=               g3.b13,             b14 :=               g3.b14,             b15 :=               g3.b15,             b16 :=               g3.b16,             b17 :=               g3.b17,             b18 :=               g3.b18,             b19 :=               g3.b19 }           10 (IntKind.i64.wrap (IntKind.i64.wrap x20 - 1))))) then ((wE g3 (IntKind.i64.wrap (IntKind.i64.wrap y6_0 - 1))).bind fun r24 =>
 bif r24.cls != a0 then ((xj g3 r1.2 (IntKind.i64.wrap (IntKind.i64.wrap y6_0 - 1))).bind fun r26 =>
 (xj g3 r26.2 (IntKind.i64.wrap (IntKind.i64.wrap x8 - 1))).bind fun r27 =>
 (xj g3 r27.2 (IntKind.i64.wrap (IntKind.i64.wrap x10 - 1))).bind fun r28 =>
 (xj g3 r28.2 (IntKind.i64.wrap (IntKind.i64.wrap x12 - 1))).bind fun r29 =>
 (xj g3 r29.2 (IntKind.i64.wrap (IntKind.i64.wrap x14 - 1))).bind fun r30 =>
 (xj g3 r30.2 (IntKind.i64.wrap (IntKind.i64.wrap x16 - 1))).bind fun r31 =>
 (xj g3 r31.2 (IntKind.i64.wrap (IntKind.i64.wrap x18 - 1))).bind fun r32 =>
 (xj g3 r32.2 (IntKind.i64.wrap (IntKind.i64.wrap x20 - 1))).bind fun r33 =>
 k (IntKind.i64.wrap (i.1 + 1), r33.2)) else
 (xj g3 r1.2 (IntKind.i64.wrap (IntKind.i64.wrap x8 - 1))).bind fun r26 =>
 (xj g3 r26.2 (IntKind.i64.wrap (IntKind.i64.wrap x10 - 1))).bind fun r27 =>
 (xj g3 r27.2 (IntKind.i64.wrap (IntKind.i64.wrap x12 - 1))).bind fun r28 =>
 (xj g3 r28.2 (IntKind.i64.wrap (IntKind.i64.wrap x14 - 1))).bind fun r29 =>
 (xj g3 r29.2 (IntKind.i64.wrap (IntKind.i64.wrap x16 - 1))).bind fun r30 =>
 (xj g3 r30.2 (IntKind.i64.wrap (IntKind.i64.wrap x18 - 1))).bind fun r31 =>
 (xj g3 r31.2 (IntKind.i64.wrap (IntKind.i64.wrap x20 - 1))).bind fun r32 =>
 κ0 (r32.2) (IntKind.i64.wrap (IntKind.i64.wrap y6_0 - 1))) else
 (wE g3 (IntKind.i64.wrap (IntKind.i64.wrap y6_0 - 1))).bind fun r24 =>
 bif r24.cls != a0 then ((xj g3 r1.2 (IntKind.i64.wrap (IntKind.i64.wrap y6_0 - 1))).bind fun r26 =>
 (xj g3 r26.2 (IntKind.i64.wrap (IntKind.i64.wrap x8 - 1))).bind fun r27 =>
 (xj g3 r27.2 (IntKind.i64.wrap (IntKind.i64.wrap x10 - 1))).bind fun r28 =>
 (xj g3 r28.2 (IntKind.i64.wrap (IntKind.i64.wrap x12 - 1))).bind fun r29 =>
 (xj g3 r29.2 (IntKind.i64.wrap (IntKind.i64.wrap x14 - 1))).bind fun r30 =>
 (xj g3 r30.2 (IntKind.i64.wrap (IntKind.i64.wrap x16 - 1))).bind fun r31 =>
 (xj g3 r31.2 (IntKind.i64.wrap (IntKind.i64.wrap x18 - 1))).bind fun r32 =>
 (xj g3 r32.2 (IntKind.i64.wrap (IntKind.i64.wrap x20 - 1))).bind fun r33 =>
 k (IntKind.i64.wrap (i.1 + 1), r33.2)) else
 (xj g3 r1.2 (IntKind.i64.wrap (IntKind.i64.wrap x8 - 1))).bind fun r26 =>
 (xj g3 r26.2 (IntKind.i64.wrap (IntKind.i64.wrap x10 - 1))).bind fun r27 =>
 (xj g3 r27.2 (IntKind.i64.wrap (IntKind.i64.wrap x12 - 1))).bind fun r28 =>
 (xj g3 r28.2 (IntKind.i64.wrap (IntKind.i64.wrap x14 - 1))).bind fun r29 =>
 (xj g3 r29.2 (IntKind.i64.wrap (IntKind.i64.wrap x16 - 1))).bind fun r30 =>
 (xj g3 r30.2 (IntKind.i64.wrap (IntKind.i64.wrap x18 - 1))).bind fun r31 =>
 (xj g3 r31.2 (IntKind.i64.wrap (IntKind.i64.wrap x20 - 1))).bind fun r32 =>
 κ0 (r32.2) (IntKind.i64.wrap (IntKind.i64.wrap y6_0 - 1))) else
 (wE g3 (IntKind.i64.wrap (IntKind.i64.wrap y6_0 - 1))).bind fun r22 =>
 bif r22.cls != a0 then ((xj g3 r1.2 (IntKind.i64.wrap (IntKind.i64.wrap y6_0 - 1))).bind fun r24 =>
 (xj g3 r24.2 (IntKind.i64.wrap (IntKind.i64.wrap x8 - 1))).bind fun r25 =>
 (xj g3 r25.2 (IntKind.i64.wrap (IntKind.i64.wrap x10 - 1))).bind fun r26 =>
 (xj g3 r26.2 (IntKind.i64.wrap (IntKind.i64.wrap x12 - 1))).bind fun r27 =>
 (xj g3 r27.2 (IntKind.i64.wrap (IntKind.i64.wrap x14 - 1))).bind fun r28 =>
 (xj g3 r28.2 (IntKind.i64.wrap (IntKind.i64.wrap x16 - 1))).bind fun r29 =>
 (xj g3 r29.2 (IntKind.i64.wrap (IntKind.i64.wrap x18 - 1))).bind fun r30 =>
 k (IntKind.i64.wrap (i.1 + 1), r30.2)) else
 (xj g3 r1.2 (IntKind.i64.wrap (IntKind.i64.wrap x8 - 1))).bind fun r24 =>
 (xj g3 r24.2 (IntKind.i64.wrap (IntKind.i64.wrap x10 - 1))).bind fun r25 =>
 (xj g3 r25.2 (IntKind.i64.wrap (IntKind.i64.wrap x12 - 1))).bind fun r26 =>
 (xj g3 r26.2 (IntKind.i64.wrap (IntKind.i64.wrap x14 - 1))).bind fun r27 =>
 (xj g3 r27.2 (IntKind.i64.wrap (IntKind.i64.wrap x16 - 1))).bind fun r28 =>
 (xj g3 r28.2 (IntKind.i64.wrap (IntKind.i64.wrap x18 - 1))).bind fun r29 =>
 κ0 (r29.2) (IntKind.i64.wrap (IntKind.i64.wrap y6_0 - 1))) else
 (wE g3 (IntKind.i64.wrap (IntKind.i64.wrap y6_0 - 1))).bind fun r20 =>
 bif r20.cls != a0 then ((xj g3 r1.2 (IntKind.i64.wrap (IntKind.i64.wrap y6_0 - 1))).bind fun r22 =>
 (xj g3 r22.2 (IntKind.i64.wrap (IntKind.i64.wrap x8 - 1))).bind fun r23 =>
 (xj g3 r23.2 (IntKind.i64.wrap (IntKind.i64.wrap x10 - 1))).bind fun r24 =>
 (xj g3 r24.2 (IntKind.i64.wrap (IntKind.i64.wrap x12 - 1))).bind fun r25 =>
 (xj g3 r25.2 (IntKind.i64.wrap (IntKind.i64.wrap x14 - 1))).bind fun r26 =>
 (xj g3 r26.2 (IntKind.i64.wrap (IntKind.i64.wrap x16 - 1))).bind fun r27 =>
 k (IntKind.i64.wrap (i.1 + 1), r27.2)) else
 (xj g3 r1.2 (IntKind.i64.wrap (IntKind.i64.wrap x8 - 1))).bind fun r22 =>
 (xj g3 r22.2 (IntKind.i64.wrap (IntKind.i64.wrap x10 - 1))).bind fun r23 =>
 (xj g3 r23.2 (IntKind.i64.wrap (IntKind.i64.wrap x12 - 1))).bind fun r24 =>
 (xj g3 r24.2 (IntKind.i64.wrap (IntKind.i64.wrap x14 - 1))).bind fun r25 =>
 (xj g3 r25.2 (IntKind.i64.wrap (IntKind.i64.wrap x16 - 1))).bind fun r26 =>
 κ0 (r26.2) (IntKind.i64.wrap (IntKind.i64.wrap y6_0 - 1))) else
 (wE g3 (IntKind.i64.wrap (IntKind.i64.wrap y6_0 - 1))).bind fun r18 =>
 bif r18.cls != a0 then ((xj g3 r1.2 (IntKind.i64.wrap (IntKind.i64.wrap y6_0 - 1))).bind fun r20 =>
 (xj g3 r20.2 (IntKind.i64.wrap (IntKind.i64.wrap x8 - 1))).bind fun r21 =>
 (xj g3 r21.2 (IntKind.i64.wrap (IntKind.i64.wrap x10 - 1))).bind fun r22 =>
 (xj g3 r22.2 (IntKind.i64.wrap (IntKind.i64.wrap x12 - 1))).bind fun r23 =>
 (xj g3 r23.2 (IntKind.i64.wrap (IntKind.i64.wrap x14 - 1))).bind fun r24 =>
 k (IntKind.i64.wrap (i.1 + 1), r24.2)) else
 (xj g3 r1.2 (IntKind.i64.wrap (IntKind.i64.wrap x8 - 1))).bind fun r20 =>
 (xj g3 r20.2 (IntKind.i64.wrap (IntKind.i64.wrap x10 - 1))).bind fun r21 =>
 (xj g3 r21.2 (IntKind.i64.wrap (IntKind.i64.wrap x12 - 1))).bind fun r22 =>
 (xj g3 r22.2 (IntKind.i64.wrap (IntKind.i64.wrap x14 - 1))).bind fun r23 =>
 κ0 (r23.2) (IntKind.i64.wrap (IntKind.i64.wrap y6_0 - 1))) else
 (wE g3 (IntKind.i64.wrap (IntKind.i64.wrap y6_0 - 1))).bind fun r16 =>
 bif r16.cls != a0 then ((xj g3 r1.2 (IntKind.i64.wrap (IntKind.i64.wrap y6_0 - 1))).bind fun r18 =>
 (xj g3 r18.2 (IntKind.i64.wrap (IntKind.i64.wrap x8 - 1))).bind fun r19 =>
 (xj g3 r19.2 (IntKind.i64.wrap (IntKind.i64.wrap x10 - 1))).bind fun r20 =>
 (xj g3 r20.2 (IntKind.i64.wrap (IntKind.i64.wrap x12 - 1))).bind fun r21 =>
 k (IntKind.i64.wrap (i.1 + 1), r21.2)) else
 (xj g3 r1.2 (IntKind.i64.wrap (IntKind.i64.wrap x8 - 1))).bind fun r18 =>
 (xj g3 r18.2 (IntKind.i64.wrap (IntKind.i64.wrap x10 - 1))).bind fun r19 =>
 (xj g3 r19.2 (IntKind.i64.wrap (IntKind.i64.wrap x12 - 1))).bind fun r20 =>
 κ0 (r20.2) (IntKind.i64.wrap (IntKind.i64.wrap y6_0 - 1))) else
 (wE g3 (IntKind.i64.wrap (IntKind.i64.wrap y6_0 - 1))).bind fun r14 =>
 bif r14.cls != a0 then ((xj g3 r1.2 (IntKind.i64.wrap (IntKind.i64.wrap y6_0 - 1))).bind fun r16 =>
 (xj g3 r16.2 (IntKind.i64.wrap (IntKind.i64.wrap x8 - 1))).bind fun r17 =>
 (xj g3 r17.2 (IntKind.i64.wrap (IntKind.i64.wrap x10 - 1))).bind fun r18 =>
 k (IntKind.i64.wrap (i.1 + 1), r18.2)) else
 (xj g3 r1.2 (IntKind.i64.wrap (IntKind.i64.wrap x8 - 1))).bind fun r16 =>
 (xj g3 r16.2 (IntKind.i64.wrap (IntKind.i64.wrap x10 - 1))).bind fun r17 =>
 κ0 (r17.2) (IntKind.i64.wrap (IntKind.i64.wrap y6_0 - 1))) else
 (wE g3 (IntKind.i64.wrap (IntKind.i64.wrap y6_0 - 1))).bind fun r12 =>
 bif r12.cls != a0 then ((xj g3 r1.2 (IntKind.i64.wrap (IntKind.i64.wrap y6_0 - 1))).bind fun r14 =>
 (xj g3 r14.2 (IntKind.i64.wrap (IntKind.i64.wrap x8 - 1))).bind fun r15 =>
 k (IntKind.i64.wrap (i.1 + 1), r15.2)) else
 (xj g3 r1.2 (IntKind.i64.wrap (IntKind.i64.wrap x8 - 1))).bind fun r14 =>
 κ0 (r14.2) (IntKind.i64.wrap (IntKind.i64.wrap y6_0 - 1))) else
 (wE g3 (IntKind.i64.wrap (IntKind.i64.wrap y6_0 - 1))).bind fun r10 =>
 bif r10.cls != a0 then ((xj g3 r1.2 (IntKind.i64.wrap (IntKind.i64.wrap y6_0 - 1))).bind fun r12 =>
 k (IntKind.i64.wrap (i.1 + 1), r12.2)) else
 κ0 (r1.2) (IntKind.i64.wrap (IntKind.i64.wrap y6_0 - 1))) else
 k (IntKind.i64.wrap (i.1 + 1), r1.2))) else
 κ1 (i.2)
def wl {β : Type} (a0 a1 : Int) (g3 : Geo) (a5 : Int) (b6 : Bool) (a7 a2 a4 : Int) (κ0 : Int → Int → T β) (κ1 : Int → T β) : T β := xA xd (qY a0 a1 g3 a5 b6 a7 κ0 κ1) (a2, a4)
theorem xbE {β γ : Type} (a0 a1 : Int) (g3 : Geo) (a5 : Int) (b6 : Bool) (a7 a2 a4 : Int) (κ0 : Int → Int → T β) (κ1 : Int → T β) (κ : β → T γ) : (wl a0 a1 g3 a5 b6 a7 a2 a4 κ0 κ1).bind κ = wl a0 a1 g3 a5 b6 a7 a2 a4 (fun ae1 ae2 => (κ0 ae1 ae2).bind κ) (fun ae1 => (κ1 ae1).bind κ) := by
 unfold wl
 refine xp κ (fun i k => ?_) _ _
 unfold qY
 first | rfl | (simp only [xa, xb, xe, xc, T.bind_assoc, kK])
def xby : Pat := ⟨xr 71 0 [(0, .c (.raw (.ptr 0 0))), (1, .c (.int .i64)), (4, .c (.raw (.ptr 1 0))), (14, .c (.int .i64)), (15, .c (.int .i64))], [some ⟨[.raw (.port), .geo, .int .u64], 150, false, none⟩, some ⟨[.int .i64, .bool, .int .i64], 221, false, none⟩]⟩
def wR : Pat := ⟨xr 71 0 [(4, .c (.raw (.ptr 1 0)))], [some ⟨[.raw (.port), .geo, .int .u64], 150, false, none⟩, some ⟨[.int .i64, .bool, .int .i64], 221, false, none⟩]⟩
def qZ : St → (Ex → St → T R) → Option (T R) := fun st K => match xy xby st with
 | some [.i a0, .i a1, .i a2, .g g3, .i a4, .i a5, .b b6, .i a7] => some (wl a0 a1 g3 a5 b6 a7 a2 a4 (fun ae1 ae2 => K (.ret) (xf wR [.g g3, .i ae1, .i ae2, .b true, .i 0])) (fun ae1 => K (.exit 0) (xf wR [.g g3, .i ae1, .i a5, .b b6, .i a7])))
 | _ => none
theorem xlF : ∀ st K t, qZ st K = some t → xK xd (lf ka7 xd 1 .no [1, 0, 1, 0] Tryz.f226 K) st = t := by
 intro st K t h
 unfold qZ at h
 split at h
 ·rename_i a0 a1 a2 g3 a4 a5 b6 a7 hm
  cases h
  rw [xn hm]
  exact cast (by kernel_rfl) (xB (F := lf ka7 xd 1 .no [1, 0, 1, 0] Tryz.f226 K) (S := fun i => xf xby [.i a0, .i a1, .i (i.1), .g g3, .i (i.2), .i a5, .b b6, .i a7]) (B := qY a0 a1 g3 a5 b6 a7 (fun ae1 ae2 => K (.ret) (xf wR [.g g3, .i ae1, .i ae2, .b true, .i 0])) (fun ae1 => K (.exit 0) (xf wR [.g g3, .i ae1, .i a5, .b b6, .i a7]))) (fun i k => by kernel_rfl) xd (a2, a4))
 ·cases h
def Kn {β : Type} (g : Geo) (o c : Int) (κ : (Fnd × Int) → T β) : T β :=
 wl (c) (g.pages) (g) (0) (false) (0) (0) (o) (fun y0_0 y0_1 =>
 κ (⟨(y0_1), (true), (0)⟩, (y0_0))) (fun y0_0 =>
 κ (⟨(0), (false), (0)⟩, (y0_0)))
def Yf (g : Geo) (o c : Int) : T (Fnd × Int) := Kn g o c .ret
theorem xi0 {β : Type} (g : Geo) (o c : Int) (κ : (Fnd × Int) → T β) : (Yf g o c).bind κ = Kn g o c κ := by
 unfold Yf Kn
 first | rfl | (simp only [xa, xb, xe, xc, T.bind_assoc, xbE])
def jg {β : Type} (a0 : Int) (g2 : Geo) (κ0 : Int → T β) (i : Int × Int) (k : Int × Int → T β) : T β :=
 bif decide (i.1 < a0) then ((isT g2 i.1 0).bind fun r1 =>
 bif !r1 then (k (IntKind.i64.wrap (i.1 + 1), i.2)) else
 .op (.load (atF g2 9 i.1)) fun x3 =>
 yn (i.1) (g2) (i.1) (x3) (fun y4_0 =>
 bif y4_0 != 0 then (.op (.load (atF g2 10 (IntKind.i64.wrap (IntKind.i64.wrap y4_0 - 1)))) fun x6 =>
 bif x6 !=   (0 :     POp.Ans       (POp.load         (atF           g2           10 (IntKind.i64.wrap (IntKind.i64.wrap y4_0 - 1))))) then (.op (.load (atF g2 10 (IntKind.i64.wrap (IntKind.i64.wrap x6 - 1)))) fun x8 =>
 bif x8 !=   (0 :     POp.Ans       (POp.load         (atF           g2           10 (IntKind.i64.wrap (IntKind.i64.wrap x6 - 1))))) then (.op (.load (atF g2 10 (IntKind.i64.wrap (IntKind.i64.wrap x8 - 1)))) fun x10 =>
 bif x10 !=   (0 :     POp.Ans       (POp.load         (atF           g2           10 (IntKind.i64.wrap (IntKind.i64.wrap x8 - 1))))) then (.op (.load (atF g2 10 (IntKind.i64.wrap (IntKind.i64.wrap x10 - 1)))) fun x12 =>
 bif x12 !=   (0 :     POp.Ans       (POp.load         (atF           g2           10 (IntKind.i64.wrap (IntKind.i64.wrap x10 - 1))))) then (.op (.load (atF g2 10 (IntKind.i64.wrap (IntKind.i64.wrap x12 - 1)))) fun x14 =>
 bif x14 !=   (0 :     POp.Ans       (POp.load         (atF           g2           10 (IntKind.i64.wrap (IntKind.i64.wrap x12 - 1))))) then (.op (.load (atF g2 10 (IntKind.i64.wrap (IntKind.i64.wrap x14 - 1)))) fun x16 =>
 bif x16 !=   (0 :     POp.Ans       (POp.load         (atF           g2           10 (IntKind.i64.wrap (IntKind.i64.wrap x14 - 1))))) then (.op (.load (atF g2 10 (IntKind.i64.wrap (IntKind.i64.wrap x16 - 1)))) fun x18 =>
 bif x18 !=   (0 :     POp.Ans       (POp.load         (atF           g2           10 (IntKind.i64.wrap (IntKind.i64.wrap x16 - 1))))) then (.op (.load (atF g2 10 (IntKind.i64.wrap (IntKind.i64.wrap x18 - 1)))) fun x20 =>
 bif x20 !=   (0 :     POp.Ans       (POp.load         (atF           g2           10 (IntKind.i64.wrap (IntKind.i64.wrap x18 - 1))))) then ((xj g2 i.2 (IntKind.i64.wrap (IntKind.i64.wrap y4_0 - 1))).bind fun r22 =>
 (xj g2 r22.2 (IntKind.i64.wrap (IntKind.i64.wrap x6 - 1))).bind fun r23 =>
 (xj g2 r23.2 (IntKind.i64.wrap (IntKind.i64.wrap x8 - 1))).bind fun r24 =>
 (xj g2 r24.2 (IntKind.i64.wrap (IntKind.i64.wrap x10 - 1))).bind fun r25 =>
 (xj g2 r25.2 (IntKind.i64.wrap (IntKind.i64.wrap x12 - 1))).bind fun r26 =>
 (xj g2 r26.2 (IntKind.i64.wrap (IntKind.i64.wrap x14 - 1))).bind fun r27 =>
 (xj g2 r27.2 (IntKind.i64.wrap (IntKind.i64.wrap x16 - 1))).bind fun r28 =>
 (xj g2 r28.2 (IntKind.i64.wrap (IntKind.i64.wrap x18 - 1))).bind fun r29 =>
 k (IntKind.i64.wrap (i.1 + 1), r29.2)) else
 (xj g2 i.2 (IntKind.i64.wrap (IntKind.i64.wrap y4_0 - 1))).bind fun r22 =>
 (xj g2 r22.2 (IntKind.i64.wrap (IntKind.i64.wrap x6 - 1))).bind fun r23 =>
 (xj g2 r23.2 (IntKind.i64.wrap (IntKind.i64.wrap x8 - 1))).bind fun r24 =>
 (xj g2 r24.2 (IntKind.i64.wrap (IntKind.i64.wrap x10 - 1))).bind fun r25 =>
 (xj g2 r25.2 (IntKind.i64.wrap (IntKind.i64.wrap x12 - 1))).bind fun r26 =>
 (xj g2 r26.2 (IntKind.i64.wrap (IntKind.i64.wrap x14 - 1))).bind fun r27 =>
 (xj g2 r27.2 (IntKind.i64.wrap (IntKind.i64.wrap x16 - 1))).bind fun r28 =>
 (xj g2 r28.2 (IntKind.i64.wrap (IntKind.i64.wrap x18 - 1))).bind fun r29 =>
 k (IntKind.i64.wrap (i.1 + 1), r29.2)) else
 (xj g2 i.2 (IntKind.i64.wrap (IntKind.i64.wrap y4_0 - 1))).bind fun r20 =>
 (xj g2 r20.2 (IntKind.i64.wrap (IntKind.i64.wrap x6 - 1))).bind fun r21 =>
 (xj g2 r21.2 (IntKind.i64.wrap (IntKind.i64.wrap x8 - 1))).bind fun r22 =>
 (xj g2 r22.2 (IntKind.i64.wrap (IntKind.i64.wrap x10 - 1))).bind fun r23 =>
 (xj g2 r23.2 (IntKind.i64.wrap (IntKind.i64.wrap x12 - 1))).bind fun r24 =>
 (xj g2 r24.2 (IntKind.i64.wrap (IntKind.i64.wrap x14 - 1))).bind fun r25 =>
 (xj g2 r25.2 (IntKind.i64.wrap (IntKind.i64.wrap x16 - 1))).bind fun r26 =>
 k (IntKind.i64.wrap (i.1 + 1), r26.2)) else
 (xj g2 i.2 (IntKind.i64.wrap (IntKind.i64.wrap y4_0 - 1))).bind fun r18 =>
 (xj g2 r18.2 (IntKind.i64.wrap (IntKind.i64.wrap x6 - 1))).bind fun r19 =>
 (xj g2 r19.2 (IntKind.i64.wrap (IntKind.i64.wrap x8 - 1))).bind fun r20 =>
 (xj g2 r20.2 (IntKind.i64.wrap (IntKind.i64.wrap x10 - 1))).bind fun r21 =>
 (xj g2 r21.2 (IntKind.i64.wrap (IntKind.i64.wrap x12 - 1))).bind fun r22 =>
 (xj g2 r22.2 (IntKind.i64.wrap (IntKind.i64.wrap x14 - 1))).bind fun r23 =>
 k (IntKind.i64.wrap (i.1 + 1), r23.2)) else
 (xj g2 i.2 (IntKind.i64.wrap (IntKind.i64.wrap y4_0 - 1))).bind fun r16 =>
 (xj g2 r16.2 (IntKind.i64.wrap (IntKind.i64.wrap x6 - 1))).bind fun r17 =>
 (xj g2 r17.2 (IntKind.i64.wrap (IntKind.i64.wrap x8 - 1))).bind fun r18 =>
 (xj g2 r18.2 (IntKind.i64.wrap (IntKind.i64.wrap x10 - 1))).bind fun r19 =>
 (xj g2 r19.2 (IntKind.i64.wrap (IntKind.i64.wrap x12 - 1))).bind fun r20 =>
 k (IntKind.i64.wrap (i.1 + 1), r20.2)) else
 (xj g2 i.2 (IntKind.i64.wrap (IntKind.i64.wrap y4_0 - 1))).bind fun r14 =>
 (xj g2 r14.2 (IntKind.i64.wrap (IntKind.i64.wrap x6 - 1))).bind fun r15 =>
 (xj g2 r15.2 (IntKind.i64.wrap (IntKind.i64.wrap x8 - 1))).bind fun r16 =>
 (xj g2 r16.2 (IntKind.i64.wrap (IntKind.i64.wrap x10 - 1))).bind fun r17 =>
 k (IntKind.i64.wrap (i.1 + 1), r17.2)) else
 (xj g2 i.2 (IntKind.i64.wrap (IntKind.i64.wrap y4_0 - 1))).bind fun r12 =>
 (xj g2 r12.2 (IntKind.i64.wrap (IntKind.i64.wrap x6 - 1))).bind fun r13 =>
 (xj g2 r13.2 (IntKind.i64.wrap (IntKind.i64.wrap x8 - 1))).bind fun r14 =>
 k (IntKind.i64.wrap (i.1 + 1), r14.2)) else
 (xj g2 i.2 (IntKind.i64.wrap (IntKind.i64.wrap y4_0 - 1))).bind fun r10 =>
 (xj g2 r10.2 (IntKind.i64.wrap (IntKind.i64.wrap x6 - 1))).bind fun r11 =>
 k (IntKind.i64.wrap (i.1 + 1), r11.2)) else
 (xj g2 i.2 (IntKind.i64.wrap (IntKind.i64.wrap y4_0 - 1))).bind fun r8 =>
 k (IntKind.i64.wrap (i.1 + 1), r8.2)) else
 k (IntKind.i64.wrap (i.1 + 1), i.2))) else
 κ0 (i.2)
def vH {β : Type} (a0 : Int) (g2 : Geo) (a1 a3 : Int) (κ0 : Int → T β) : T β := xA xd (jg a0 g2 κ0) (a1, a3)
theorem xaP {β γ : Type} (a0 : Int) (g2 : Geo) (a1 a3 : Int) (κ0 : Int → T β) (κ : β → T γ) : (vH a0 g2 a1 a3 κ0).bind κ = vH a0 g2 a1 a3 (fun ae1 => (κ0 ae1).bind κ) := by
 unfold vH
 refine xp κ (fun i k => ?_) _ _
 unfold jg
 first | rfl | (simp only [xa, xb, xe, xc, T.bind_assoc, kK])
def Ko : Pat := ⟨xr 33 0 [(0, .c (.raw (.ptr 0 0))), (9, .c (.int .i64)), (10, .c (.int .i64))], [some ⟨[.raw (.port), .geo, .int .u64], 150, false, none⟩]⟩
def YF : Pat := ⟨xr 33 0 [], [some ⟨[.raw (.port), .geo, .int .u64], 150, false, none⟩]⟩
def jh : St → (Ex → St → T R) → Option (T R) := fun st K => match xy Ko st with
 | some [.i a0, .i a1, .g g2, .i a3] => some (vH a0 g2 a1 a3 (fun ae1 => K (.exit 0) (xf YF [.g g2, .i ae1])))
 | _ => none
theorem xi1 : ∀ st K t, jh st K = some t → xK xd (lf ka7 xd 1 .no [1, 0] Tryz.f242 K) st = t := by
 intro st K t h
 unfold jh at h
 split at h
 ·rename_i a0 a1 g2 a3 hm
  cases h
  rw [xn hm]
  exact cast (by kernel_rfl) (xB (F := lf ka7 xd 1 .no [1, 0] Tryz.f242 K) (S := fun i => xf Ko [.i a0, .i (i.1), .g g2, .i (i.2)]) (B := jg a0 g2 (fun ae1 => K (.exit 0) (xf YF [.g g2, .i ae1]))) (fun i k => by kernel_rfl) xd (a1, a3))
 ·cases h
def Yg {β : Type} (g : Geo) (o : Int) (κ : (Unit × Int) → T β) : T β :=
 vH (g.pages) (g) (0) (o) (fun y0_0 =>
 κ ((), (y0_0)))
def qb (g : Geo) (o : Int) : T (Unit × Int) := Yg g o .ret
theorem xfq {β : Type} (g : Geo) (o : Int) (κ : (Unit × Int) → T β) : (qb g o).bind κ = Yg g o κ := by
 unfold qb Yg
 first | rfl | (simp only [xa, xb, xe, xc, T.bind_assoc, xaP])
def ji {β : Type} (a0 : Int) (g2 : Geo) (κ0 : Int → T β) (i : Int × Int) (k : Int × Int → T β) : T β :=
 bif decide (i.1 < a0) then (.op (.load (atF g2 8 i.1)) fun x1 =>
 bif decide (ofW IntKind.i64 x1 8 3 > 0) then (bif decide   ((bif decide (ofW IntKind.i64 x1 8 3 > 0) then       IntKind.i64.wrap (ofW IntKind.i64 x1 8 3 - 1)     else (0 : Int)) <     4) then (bif decide (0 ≤ (btOf x1).cls ∧ (btOf x1).cls < 4) then ((xbr   { map := ofW IntKind.u8 x1 0 8, has := decide (ofW IntKind.i64 x1 8 3 > 0),     cls :=       bif decide (ofW IntKind.i64 x1 8 3 > 0) then         IntKind.i64.wrap (ofW IntKind.i64 x1 8 3 - 1)       else (0 : Int),     ver := ofW IntKind.u32 x1 32 32 }   (bif       (bif decide (ofW IntKind.i64 x1 8 3 > 0) then           IntKind.i64.wrap (ofW IntKind.i64 x1 8 3 - 1)         else (0 : Int)) ==         0 then     8   else     bif         (bif decide (ofW IntKind.i64 x1 8 3 > 0) then             IntKind.i64.wrap (ofW IntKind.i64 x1 8 3 - 1)           else (0 : Int)) ==           0 + 1 then       4     else       bif           (bif decide (ofW IntKind.i64 x1 8 3 > 0) then               IntKind.i64.wrap (ofW IntKind.i64 x1 8 3 - 1)             else (0 : Int)) ==             0 + 1 + 1 then         2       else (2 : Int))).bind fun r5 =>
 bif r5 then ((kL g2 i.1).bind fun r7 =>
 bif r7 then ((yF g2 i.2 1).bind fun r9 =>
 k (IntKind.i64.wrap (i.1 + 1), r9.2)) else
 k (IntKind.i64.wrap (i.1 + 1), i.2)) else
 k (IntKind.i64.wrap (i.1 + 1), i.2)) else
 .fail) else
 k (IntKind.i64.wrap (i.1 + 1), i.2)) else
 k (IntKind.i64.wrap (i.1 + 1), i.2)) else
 κ0 (i.2)
def vI {β : Type} (a0 : Int) (g2 : Geo) (a1 a3 : Int) (κ0 : Int → T β) : T β := xA xd (ji a0 g2 κ0) (a1, a3)
theorem xaQ {β γ : Type} (a0 : Int) (g2 : Geo) (a1 a3 : Int) (κ0 : Int → T β) (κ : β → T γ) : (vI a0 g2 a1 a3 κ0).bind κ = vI a0 g2 a1 a3 (fun ae1 => (κ0 ae1).bind κ) := by
 unfold vI
 refine xp κ (fun i k => ?_) _ _
 unfold ji
 first | rfl | (simp only [xa, xb, xe, xc, T.bind_assoc])
def Kp : Pat := ⟨xr 57 0 [(0, .c (.raw (.ptr 0 0))), (8, .c (.int .i64)), (9, .c (.int .i64))], [some ⟨[.raw (.port), .geo, .int .u64], 150, false, none⟩]⟩
def YG : Pat := ⟨xr 57 0 [], [some ⟨[.raw (.port), .geo, .int .u64], 150, false, none⟩]⟩
def jj : St → (Ex → St → T R) → Option (T R) := fun st K => match xy Kp st with
 | some [.i a0, .i a1, .g g2, .i a3] => some (vI a0 g2 a1 a3 (fun ae1 => K (.exit 0) (xf YG [.g g2, .i ae1])))
 | _ => none
theorem xi2 : ∀ st K t, jj st K = some t → xK xd (lf ka7 xd 1 .no [1, 0] Tryz.f243 K) st = t := by
 intro st K t h
 unfold jj at h
 split at h
 ·rename_i a0 a1 g2 a3 hm
  cases h
  rw [xn hm]
  exact cast (by kernel_rfl) (xB (F := lf ka7 xd 1 .no [1, 0] Tryz.f243 K) (S := fun i => xf Kp [.i a0, .i (i.1), .g g2, .i (i.2)]) (B := ji a0 g2 (fun ae1 => K (.exit 0) (xf YG [.g g2, .i ae1]))) (fun i k => by kernel_rfl) xd (a1, a3))
 ·cases h
def Yh {β : Type} (g : Geo) (o : Int) (κ : (Unit × Int) → T β) : T β :=
 vI (g.pages) (g) (0) (o) (fun y0_0 =>
 κ ((), (y0_0)))
def qc (g : Geo) (o : Int) : T (Unit × Int) := Yh g o .ret
theorem xfr {β : Type} (g : Geo) (o : Int) (κ : (Unit × Int) → T β) : (qc g o).bind κ = Yh g o κ := by
 unfold qc Yh
 first | rfl | (simp only [xa, xb, xe, xc, T.bind_assoc, xaQ])
def Za {β : Type} (g : Geo) (o : Int) (κ : (Unit × Int) → T β) : T β :=
 (tryT g).bind fun r0 =>
 bif r0 then ((vz g).bind fun r2 =>
 (yF g o r2).bind fun r3 =>
 (ZW g).bind fun r4 =>
 κ ((), (r3.2))) else
 κ ((), (o))
def qd (g : Geo) (o : Int) : T (Unit × Int) := Za g o .ret
theorem xex {β : Type} (g : Geo) (o : Int) (κ : (Unit × Int) → T β) : (qd g o).bind κ = Za g o κ := by
 unfold qd Za
 first | rfl | (simp only [xa, xb, xe, xc, T.bind_assoc])
def xi3 {β : Type} (g : Geo) (o k a : Int) (κ : (Fnd × Int) → T β) : T β :=
 (tryT g).bind fun r0 =>
 bif !r0 then (κ (⟨(0), (false), (5)⟩, (o))) else
 (vz g).bind fun r2 =>
 (yF g o r2).bind fun r3 =>
 (wP g k a).bind fun r4 =>
 (ZW g).bind fun r5 =>
 κ (⟨(IntKind.i64.wrap (r4.1 * 8)), (r4.2), (0)⟩, (r3.2))
def xey (g : Geo) (o k a : Int) : T (Fnd × Int) := xi3 g o k a .ret
theorem xow {β : Type} (g : Geo) (o k a : Int) (κ : (Fnd × Int) → T β) : (xey g o k a).bind κ = xi3 g o k a κ := by
 unfold xey xi3
 first | rfl | (simp only [xa, xb, xe, xc, T.bind_assoc])
def Zb {β : Type} (a0 a1 a4 a5 a6 : Int) (g7 : Geo) (κ0 : Int → T β) (i : Int × Bool × Int) (k : Int × Bool × Int → T β) : T β :=
 bif i.2.1 then ((xj g7 i.2.2 (IntKind.i64.wrap (IntKind.i64.wrap i.1 - 1))).bind fun r1 =>
 (qI g7 a0 a1).bind fun r2 =>
 k (r2.1, r2.2, r1.2)) else
 κ0 (i.2.2)
def wm {β : Type} (a0 a1 a4 a5 a6 : Int) (g7 : Geo) (a2 : Int) (b3 : Bool) (a8 : Int) (κ0 : Int → T β) : T β := xA xd (Zb a0 a1 a4 a5 a6 g7 κ0) (a2, b3, a8)
theorem xbF {β γ : Type} (a0 a1 a4 a5 a6 : Int) (g7 : Geo) (a2 : Int) (b3 : Bool) (a8 : Int) (κ0 : Int → T β) (κ : β → T γ) : (wm a0 a1 a4 a5 a6 g7 a2 b3 a8 κ0).bind κ = wm a0 a1 a4 a5 a6 g7 a2 b3 a8 (fun ae5 => (κ0 ae5).bind κ) := by
 unfold wm
 refine xp κ (fun i k => ?_) _ _
 unfold Zb
 first | rfl | (simp only [xa, xb, xe, xc, T.bind_assoc])
def xbz : Pat := ⟨xr 52 0 [(0, .c (.raw (.ptr 0 0))), (2, .c (.int .i64)), (3, .c (.int .i64)), (4, .c (.int .u64)), (5, .c (.bool)), (10, .c (.int .i64)), (11, .c (.int .i64)), (14, .c (.int .i64))], [some ⟨[.raw (.port), .geo, .int .u64], 150, false, none⟩]⟩
def wS : Pat := ⟨xr 52 0 [(0, .c (.raw (.ptr 0 0))), (2, .c (.int .i64)), (10, .c (.int .i64)), (11, .c (.int .i64)), (14, .c (.int .i64))], [some ⟨[.raw (.port), .geo, .int .u64], 150, false, none⟩]⟩
def vn : St → (Ex → St → T R) → Option (T R) := fun st K => match xy xbz st with
 | some [.i a0, .i a1, .i a2, .b b3, .i a4, .i a5, .i a6, .g g7, .i a8] => some (wm a0 a1 a4 a5 a6 g7 a2 b3 a8 (fun ae5 => K (.exit 4) (xf wS [.i a0, .i a4, .i a5, .i a6, .g g7, .i ae5])))
 | _ => none
theorem xlG : ∀ st K t, vn st K = some t → xK xd (lf ka7 xd 1 .no [1, 0, 0, 1, 1, 0, 0, 1, 1, 0, 0, 1, 1, 0, 0, 1, 1, 0] Tryz.f240 K) st = t := by
 intro st K t h
 unfold vn at h
 split at h
 ·rename_i a0 a1 a2 b3 a4 a5 a6 g7 a8 hm
  cases h
  rw [xn hm]
  exact cast (by kernel_rfl) (xB (F := lf ka7 xd 1 .no [1, 0, 0, 1, 1, 0, 0, 1, 1, 0, 0, 1, 1, 0, 0, 1, 1, 0] Tryz.f240 K) (S := fun i => xf xbz [.i a0, .i a1, .i (i.1), .b (i.2.1), .i a4, .i a5, .i a6, .g g7, .i (i.2.2)]) (B := Zb a0 a1 a4 a5 a6 g7 (fun ae5 => K (.exit 4) (xf wS [.i a0, .i a4, .i a5, .i a6, .g g7, .i ae5]))) (fun i k => by kernel_rfl) xd (a2, b3, a8))
 ·cases h
def Zc {β : Type} (a0 a1 a2 : Int) (g4 : Geo) (κ0 : Int → T β) (i : Int × Int) (k : Int × Int → T β) : T β :=
 bif decide (i.1 < 4) then ((qI g4 a0 i.1).bind fun r1 =>
 wm (a0) (i.1) (a1) (a2) (i.1) (g4) (r1.1) (r1.2) (i.2) (fun y2_0 =>
 k (IntKind.i64.wrap (i.1 + 1), y2_0))) else
 κ0 (i.2)
def vD {β : Type} (a0 a1 a2 : Int) (g4 : Geo) (a3 a5 : Int) (κ0 : Int → T β) : T β := xA xd (Zc a0 a1 a2 g4 κ0) (a3, a5)
theorem xbG {β γ : Type} (a0 a1 a2 : Int) (g4 : Geo) (a3 a5 : Int) (κ0 : Int → T β) (κ : β → T γ) : (vD a0 a1 a2 g4 a3 a5 κ0).bind κ = vD a0 a1 a2 g4 a3 a5 (fun ae3 => (κ0 ae3).bind κ) := by
 unfold vD
 refine xp κ (fun i k => ?_) _ _
 unfold Zc
 first | rfl | (simp only [xa, xb, xe, xc, T.bind_assoc, xbF])
def wT : Pat := ⟨xr 52 0 [(0, .c (.raw (.ptr 0 0))), (10, .c (.int .i64)), (11, .c (.int .i64))], [some ⟨[.raw (.port), .geo, .int .u64], 150, false, none⟩]⟩
def wn : St → (Ex → St → T R) → Option (T R) := fun st K => match xy wS st with
 | some [.i a0, .i a1, .i a2, .i a3, .g g4, .i a5] => some (vD a0 a1 a2 g4 a3 a5 (fun ae3 => K (.exit 2) (xf wT [.i a1, .i a2, .g g4, .i ae3])))
 | _ => none
theorem xlH : ∀ st K t, wn st K = some t → xK xd (lf ka7 xd 1 (lsAt vn .no [1, 1, 0, 0, 1, 1, 0]) [1, 0, 0, 1, 1, 0, 0, 1, 1, 0] Tryz.f240 K) st = t := by
 intro st K t h
 unfold wn at h
 split at h
 ·rename_i a0 a1 a2 a3 g4 a5 hm
  cases h
  rw [xn hm]
  exact cast (by kernel_rfl) (xB (F := lf ka7 xd 1 (lsAt vn .no [1, 1, 0, 0, 1, 1, 0]) [1, 0, 0, 1, 1, 0, 0, 1, 1, 0] Tryz.f240 K) (S := fun i => xf wS [.i a0, .i a1, .i a2, .i (i.1), .g g4, .i (i.2)]) (B := Zc a0 a1 a2 g4 (fun ae3 => K (.exit 2) (xf wT [.i a1, .i a2, .g g4, .i ae3]))) (fun i k => by kernel_rfl) xd (a3, a5))
 ·cases h
def Zd {β : Type} (a0 : Int) (g2 : Geo) (κ0 : Int → T β) (i : Int × Int) (k : Int × Int → T β) : T β :=
 bif decide (i.1 < a0) then (vD (i.1) (a0) (i.1) (g2) (0) (i.2) (fun y1_0 =>
 k (IntKind.i64.wrap (i.1 + 1), y1_0))) else
 κ0 (i.2)
def wo {β : Type} (a0 : Int) (g2 : Geo) (a1 a3 : Int) (κ0 : Int → T β) : T β := xA xd (Zd a0 g2 κ0) (a1, a3)
theorem xbH {β γ : Type} (a0 : Int) (g2 : Geo) (a1 a3 : Int) (κ0 : Int → T β) (κ : β → T γ) : (wo a0 g2 a1 a3 κ0).bind κ = wo a0 g2 a1 a3 (fun ae1 => (κ0 ae1).bind κ) := by
 unfold wo
 refine xp κ (fun i k => ?_) _ _
 unfold Zd
 first | rfl | (simp only [xa, xb, xe, xc, T.bind_assoc, xbG])
def Kq : Pat := ⟨xr 52 0 [], [some ⟨[.raw (.port), .geo, .int .u64], 150, false, none⟩]⟩
def Ze : St → (Ex → St → T R) → Option (T R) := fun st K => match xy wT st with
 | some [.i a0, .i a1, .g g2, .i a3] => some (wo a0 g2 a1 a3 (fun ae1 => K (.exit 0) (xf Kq [.g g2, .i ae1])))
 | _ => none
theorem xlI : ∀ st K t, Ze st K = some t → xK xd (lf ka7 xd 1 (lsAt wn (lsAt vn .no [1, 1, 0, 0, 1, 1, 0]) [1, 1, 0, 0, 1, 1, 0]) [1, 0] Tryz.f240 K) st = t := by
 intro st K t h
 unfold Ze at h
 split at h
 ·rename_i a0 a1 g2 a3 hm
  cases h
  rw [xn hm]
  exact cast (by kernel_rfl) (xB (F := lf ka7 xd 1 (lsAt wn (lsAt vn .no [1, 1, 0, 0, 1, 1, 0]) [1, 1, 0, 0, 1, 1, 0]) [1, 0] Tryz.f240 K) (S := fun i => xf wT [.i a0, .i (i.1), .g g2, .i (i.2)]) (B := Zd a0 g2 (fun ae1 => K (.exit 0) (xf Kq [.g g2, .i ae1]))) (fun i k => by kernel_rfl) xd (a1, a3))
 ·cases h
def Kr {β : Type} (g : Geo) (o : Int) (κ : (Unit × Int) → T β) : T β :=
 wo (g.threads) (g) (0) (o) (fun y0_0 =>
 κ ((), (y0_0)))
def Yi (g : Geo) (o : Int) : T (Unit × Int) := Kr g o .ret
theorem xi4 {β : Type} (g : Geo) (o : Int) (κ : (Unit × Int) → T β) : (Yi g o).bind κ = Kr g o κ := by
 unfold Yi Kr
 first | rfl | (simp only [xa, xb, xe, xc, T.bind_assoc, xbH])
def Ks : Sm := fun args H => match args, H with
 | [.c .port, .agg gc], [] => (match xu gc with
   | some g => some (mkS (Unit) (xaO g) fun r => some (.tup [], []))
   | _ => none)
 | _, _ => none
theorem xlJ : Good Tryz.prog (xt ka7) xd 0 (lsAt Yc .no [1, 1, 0, 1, 0]) (Tryz.f126.body.getD .skip) (xv Tryz.f126.results.toList) := xH (xl (by kernel_rfl)) xE xou
variable {σ : Type} {I : Port Tryz.prog σ}
theorem xez (hl : SoundL I ka7) : SoundF I 126 Ks := by
 refine sq hl xd Tryz.func126 fun args H t ht => ?_
 unfold Ks at ht
 split at ht
 ·rename_i gc
  split at ht
  ·rename_i g hg
   obtain rfl := xh hg
   cases ht
   refine (xG (P := Tryz.prog) (n := xd) (x := (lsAt Yc .no [1, 1, 0, 1, 0])) (fn := Tryz.f126) (H := []) (c := Tryz.f126.body.getD .skip) (xl (by kernel_rfl)) xlJ).symm.trans ?_
   refine Eq.trans ?_ (xlC g _).symm
   kernel_rfl
  ·cases ht
 ·cases ht
def xox : Sm := fun args H => match args, H with
 | [.c .port, .agg gc], [] => (match xu gc with
   | some g => some (mkS (Int) (acqT g) fun r => some (.c (.int .i64 r), []))
   | _ => none)
 | _, _ => none
theorem xrJ : Good Tryz.prog (xt ka7) xd 0 (lsAt xcl .no [1, 1, 0]) (Tryz.f267.body.getD .skip) (xv Tryz.f267.results.toList) := xH (xl (by kernel_rfl)) xE xts
theorem xtt (hl : SoundL I ka7) : SoundF I 267 xox := by
 refine sq hl xd Tryz.func267 fun args H t ht => ?_
 unfold xox at ht
 split at ht
 ·rename_i gc
  split at ht
  ·rename_i g hg
   obtain rfl := xh hg
   cases ht
   refine (xG (P := Tryz.prog) (n := xd) (x := (lsAt xcl .no [1, 1, 0])) (fn := Tryz.f267) (H := []) (c := Tryz.f267.body.getD .skip) (xl (by kernel_rfl)) xrJ).symm.trans ?_
   refine Eq.trans ?_ (xrH g _).symm
   kernel_rfl
  ·cases ht
 ·cases ht
def xi5 : Sm := fun args H => match args, H with
 | [.c .port, .agg gc, .c (.int .i64 s), .c (.int .i64 a)], [] => (match xu gc with
   | some g => some (mkS (Ref) (xbx g s a) fun r => some (.agg r.cells, []))
   | _ => none)
 | _, _ => none
theorem xoy : Good Tryz.prog (xt ka7) xd 0 (lsAt Km .no [1, 1, 1, 0]) (Tryz.f285.body.getD .skip) (xv Tryz.f285.results.toList) := xH (xl (by kernel_rfl)) xE xrI
theorem xrK (hl : SoundL I ka7) : SoundF I 285 xi5 := by
 refine sq hl xd Tryz.func285 fun args H t ht => ?_
 unfold xi5 at ht
 split at ht
 ·rename_i gc s a
  split at ht
  ·rename_i g hg
   obtain rfl := xh hg
   cases ht
   refine (xG (P := Tryz.prog) (n := xd) (x := (lsAt Km .no [1, 1, 1, 0])) (fn := Tryz.f285) (H := []) (c := Tryz.f285.body.getD .skip) (xl (by kernel_rfl)) xoy).symm.trans ?_
   refine Eq.trans ?_ (xov g s a _).symm
   kernel_rfl
  ·cases ht
 ·cases ht
def xeA : Sm := fun args H => match args, H with
 | [.c .port, .agg gc, .c (.int .i64 s)], [] => (match xu gc with
   | some g => some (mkS (Unit) (Wy g s) fun r => some (.tup [], []))
   | _ => none)
 | _, _ => none
theorem xoz (hl : SoundL I ka7) : SoundF I 287 xeA := by
 refine sq hl 1 Tryz.func287 fun args H t ht => ?_
 unfold xeA at ht
 split at ht
 ·rename_i gc s
  split at ht
  ·rename_i g hg
   obtain rfl := xh hg
   cases ht
   refine Eq.trans ?_ (xlE g s _).symm
   kernel_rfl
  ·cases ht
 ·cases ht
def xaR : Sm := fun args H => match args, H with
 | [.c (.ptr 0 0), .c (.int .i64 c)], [some ⟨.port :: gc, 150, false, none⟩] => (match hdOf gc with
   | some (g, o) => some (mkS ((Fnd × Int)) (Yf g o c) fun r => some (.agg r.1.cells, [some ⟨.port :: (g.cells ++ [.int .u64 r.2]), 150, false, none⟩]))
   | _ => none)
 | _, _ => none
theorem xi6 : Good Tryz.prog (xt ka7) xd 1 (lsAt qZ .no [1, 0, 1, 0]) (Tryz.f226.body.getD .skip) (xv Tryz.f226.results.toList) := xH (xl (by kernel_rfl)) xE xlF
theorem xlK (hl : SoundL I ka7) : SoundF I 226 xaR := by
 refine sq hl xd Tryz.func226 fun args H t ht => ?_
 unfold xaR at ht
 split at ht
 ·rename_i c gc
  split at ht
  ·rename_i g o hg
   obtain rfl := yy hg
   cases ht
   refine (xG (P := Tryz.prog) (n := xd) (x := (lsAt qZ .no [1, 0, 1, 0])) (fn := Tryz.f226) (H := [some ⟨.port :: (g.cells ++ [.int .u64 o]), 150, false, none⟩]) (c := Tryz.f226.body.getD .skip) (xl (by kernel_rfl)) xi6).symm.trans ?_
   refine Eq.trans ?_ (xi0 g o c _).symm
   kernel_rfl
  ·cases ht
 ·cases ht
def Wz : Sm := fun args H => match args, H with
 | [.c (.ptr 0 0)], [some ⟨.port :: gc, 150, false, none⟩] => (match hdOf gc with
   | some (g, o) => some (mkS ((Unit × Int)) (qb g o) fun r => some (.tup [], [some ⟨.port :: (g.cells ++ [.int .u64 r.2]), 150, false, none⟩]))
   | _ => none)
 | _, _ => none
theorem xfs : Good Tryz.prog (xt ka7) xd 1 (lsAt jh .no [1, 0]) (Tryz.f242.body.getD .skip) (xv Tryz.f242.results.toList) := xH (xl (by kernel_rfl)) xE xi1
theorem xi7 (hl : SoundL I ka7) : SoundF I 242 Wz := by
 refine sq hl xd Tryz.func242 fun args H t ht => ?_
 unfold Wz at ht
 split at ht
 ·rename_i gc
  split at ht
  ·rename_i g o hg
   obtain rfl := yy hg
   cases ht
   refine (xG (P := Tryz.prog) (n := xd) (x := (lsAt jh .no [1, 0])) (fn := Tryz.f242) (H := [some ⟨.port :: (g.cells ++ [.int .u64 o]), 150, false, none⟩]) (c := Tryz.f242.body.getD .skip) (xl (by kernel_rfl)) xfs).symm.trans ?_
   refine Eq.trans ?_ (xfq g o _).symm
   kernel_rfl
  ·cases ht
 ·cases ht
def WA : Sm := fun args H => match args, H with
 | [.c (.ptr 0 0)], [some ⟨.port :: gc, 150, false, none⟩] => (match hdOf gc with
   | some (g, o) => some (mkS ((Unit × Int)) (qc g o) fun r => some (.tup [], [some ⟨.port :: (g.cells ++ [.int .u64 r.2]), 150, false, none⟩]))
   | _ => none)
 | _, _ => none
theorem xft : Good Tryz.prog (xt ka7) xd 1 (lsAt jj .no [1, 0]) (Tryz.f243.body.getD .skip) (xv Tryz.f243.results.toList) := xH (xl (by kernel_rfl)) xE xi2
theorem xi8 (hl : SoundL I ka7) : SoundF I 243 WA := by
 refine sq hl xd Tryz.func243 fun args H t ht => ?_
 unfold WA at ht
 split at ht
 ·rename_i gc
  split at ht
  ·rename_i g o hg
   obtain rfl := yy hg
   cases ht
   refine (xG (P := Tryz.prog) (n := xd) (x := (lsAt jj .no [1, 0])) (fn := Tryz.f243) (H := [some ⟨.port :: (g.cells ++ [.int .u64 o]), 150, false, none⟩]) (c := Tryz.f243.body.getD .skip) (xl (by kernel_rfl)) xft).symm.trans ?_
   refine Eq.trans ?_ (xfr g o _).symm
   kernel_rfl
  ·cases ht
 ·cases ht
def Xa : Sm := fun args H => match args, H with
 | [.c (.ptr 0 0)], [some ⟨.port :: gc, 150, false, none⟩] => (match hdOf gc with
   | some (g, o) => some (mkS ((Unit × Int)) (qd g o) fun r => some (.tup [], [some ⟨.port :: (g.cells ++ [.int .u64 r.2]), 150, false, none⟩]))
   | _ => none)
 | _, _ => none
theorem xfu (hl : SoundL I ka7) : SoundF I 87 Xa := by
 refine sq hl 1 Tryz.func87 fun args H t ht => ?_
 unfold Xa at ht
 split at ht
 ·rename_i gc
  split at ht
  ·rename_i g o hg
   obtain rfl := yy hg
   cases ht
   refine Eq.trans ?_ (xex g o _).symm
   kernel_rfl
  ·cases ht
 ·cases ht
def xi9 : Sm := fun args H => match args, H with
 | [.c (.ptr 0 0), .c (.int .i64 k), .c (.int .i64 a)], [some ⟨.port :: gc, 150, false, none⟩] => (match hdOf gc with
   | some (g, o) => some (mkS ((Fnd × Int)) (xey g o k a) fun r => some (.agg r.1.cells, [some ⟨.port :: (g.cells ++ [.int .u64 r.2]), 150, false, none⟩]))
   | _ => none)
 | _, _ => none
theorem xrL (hl : SoundL I ka7) : SoundF I 162 xi9 := by
 refine sq hl 1 Tryz.func162 fun args H t ht => ?_
 unfold xi9 at ht
 split at ht
 ·rename_i k a gc
  split at ht
  ·rename_i g o hg
   obtain rfl := yy hg
   cases ht
   refine Eq.trans ?_ (xow g o k a _).symm
   kernel_rfl
  ·cases ht
 ·cases ht
def xaS : Sm := fun args H => match args, H with
 | [.c (.ptr 0 0)], [some ⟨.port :: gc, 150, false, none⟩] => (match hdOf gc with
   | some (g, o) => some (mkS ((Unit × Int)) (Yi g o) fun r => some (.tup [], [some ⟨.port :: (g.cells ++ [.int .u64 r.2]), 150, false, none⟩]))
   | _ => none)
 | _, _ => none
theorem xja : Good Tryz.prog (xt ka7) xd 1 (lsAt Ze (lsAt wn (lsAt vn .no [1, 1, 0, 0, 1, 1, 0]) [1, 1, 0, 0, 1, 1, 0]) [1, 0]) (Tryz.f240.body.getD .skip) (xv Tryz.f240.results.toList) := xH (xl (by kernel_rfl)) (Vg (p := [1, 0]) (q := [1, 1, 0, 0, 1, 1, 0]) (xl (fn := Tryz.f240) (by kernel_rfl)) (Vg (p := [1, 0, 0, 1, 1, 0, 0, 1, 1, 0]) (q := [1, 1, 0, 0, 1, 1, 0]) (xl (fn := Tryz.f240) (by kernel_rfl)) xE xlG (by kernel_rfl)) xlH (by kernel_rfl)) xlI
theorem xlL (hl : SoundL I ka7) : SoundF I 240 xaS := by
 refine sq hl xd Tryz.func240 fun args H t ht => ?_
 unfold xaS at ht
 split at ht
 ·rename_i gc
  split at ht
  ·rename_i g o hg
   obtain rfl := yy hg
   cases ht
   refine (xG (P := Tryz.prog) (n := xd) (x := (lsAt Ze (lsAt wn (lsAt vn .no [1, 1, 0, 0, 1, 1, 0]) [1, 1, 0, 0, 1, 1, 0]) [1, 0])) (fn := Tryz.f240) (H := [some ⟨.port :: (g.cells ++ [.int .u64 o]), 150, false, none⟩]) (c := Tryz.f240.body.getD .skip) (xl (by kernel_rfl)) xja).symm.trans ?_
   refine Eq.trans ?_ (xi4 g o _).symm
   kernel_rfl
  ·cases ht
 ·cases ht
def ka8 : List (Nat × Sm) := (126, Ks) :: (267, xox) :: (285, xi5) :: (287, xeA) :: (226, xaR) :: (242, Wz) :: (243, WA) :: (87, Xa) :: (162, xi9) :: (240, xaS) :: ka7
theorem xpJ : SoundL I ka8 := (.cons (xez Zl) (.cons (xtt Zl) (.cons (xrK Zl) (.cons (xoz Zl) (.cons (xlK Zl) (.cons (xi7 Zl) (.cons (xi8 Zl) (.cons (xfu Zl) (.cons (xrL Zl) (.cons (xlL Zl) Zl))))))))))
end Go.Proofs.YtaegelbaghaooaaGreat.Lx
