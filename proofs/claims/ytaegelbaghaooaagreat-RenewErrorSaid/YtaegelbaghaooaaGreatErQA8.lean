/- Summaries: pool, central, tally. (trees printed by program, wip/auto.py) -/
import Derived.Test.YtaegelbaghaooaaGreatErQA7
import Derived.WalkKit
set_option linter.all false
open Go.IntKind (i64 u64 u32 u8)
namespace Go.Proofs.YtaegelbaghaooaaGreat.Lx
open Go
set_option maxRecDepth 1000000
def Yg {β : Type} (g1 : Geo) (κ0 : Unit -> T β) (i : Int) (k : Int -> T β) : T β :=
 bif decide (i <= kE g1) then (bif i == kE g1 then (.op (.store (atF g1 17 (inF (i64.wrap (i - 1)) 0 1)) (0)) fun _ =>
 k (i64.wrap (i + 1))) else
 .op (.store (atF g1 17 (inF (i64.wrap (i - 1)) 0 1)) (Ref.word { idx := i64.wrap (i + 1), mark := false, ver := 0 })) fun _ =>
 k (i64.wrap (i + 1))) else
 κ0 ()
def kr {β : Type} (g1 : Geo) (a0 : Int) (κ0 : Unit -> T β) : T β := xz xd (Yg g1 κ0) a0
theorem xeH {β γ : Type} (g1 : Geo) (a0 : Int) (κ0 : Unit -> T β) (κ : β -> T γ) : (kr g1 a0 κ0).bind κ = kr g1 a0 (fun u => (κ0 u).bind κ) := by
 unfold kr
 refine xn κ (fun i k => ?_) _ _
 unfold Yg
 first | rfl | (simp only [xa, xb, xe, xc, T.bind_assoc])
def xeI : Pat := ⟨xu 42 0 [(0, .c (.raw (.port))), (3, .c (.raw (.ptr 0 0))), (4, .c (.int .i64))], [some ⟨[.geo], 24, false, none⟩]⟩
def xbr : Pat := ⟨xu 42 0 [(0, .c (.raw (.port))), (3, .c (.raw (.ptr 0 0)))], [some ⟨[.geo], 24, false, none⟩]⟩
def Yh : St -> (Ex -> St -> T R) -> Option (T R) := fun st K => match xx xeI st with
 | some [.i a0, .g g1] => some (kr g1 a0 (fun _ => K (.exit 0) (xf xbr [.g g1])))
 | _ => none
theorem xoR : ∀ st K t, Yh st K = some t -> xF xd (lf ka7 xd 0 .no [1, 1, 0, 1, 0] Tryz.f126 K) st = t := by
 intro st K t h
 unfold Yh at h
 split at h
 ·rename_i a0 g1 hm
  cases h
  rw [xp hm]
  exact cast (by kernel_rfl) (xy (F := lf ka7 xd 0 .no [1, 1, 0, 1, 0] Tryz.f126 K) (S := fun i => xf xeI [.i i, .g g1]) (B := Yg g1 (fun _ => K (.exit 0) (xf xbr [.g g1]))) (fun i k => by kernel_rfl) xd a0)
 ·cases h
def xcl {β : Type} (g : Geo) (κ : Unit -> T β) : T β :=
 (wR g).bind fun r0 =>
 bif r0 then (κ ()) else
 kr (g) (1) (fun y2_0 =>
 .op (.store (atF g 4 0) (1)) fun _ =>
 κ ())
def xaS (g : Geo) : T Unit := xcl g .ret
theorem xlZ {β : Type} (g : Geo) (κ : Unit -> T β) : (xaS g).bind κ = xcl g κ := by
 unfold xaS xcl
 first | rfl | (simp only [xa, xb, xe, xc, T.bind_assoc, xeH])
def xcm {β : Type} (a0 : Int) (g1 : Geo) (κ0 : Unit -> T β) (κ1 : Int -> T β) (i : Unit) (k : Unit -> T β) : T β :=
 .op (.load (atF g1 4 0)) fun x0 =>
 bif ofW i64 x0 0 24 == 0 then (κ0 ()) else
 .op (.load (atF g1 17   (inF (i64.wrap (ofW i64 x0 0 24 - 1)) 0 1))) fun x2 =>
 .op (.cas (atF g1 4 0) x0 (Ref.word   { idx := ofW i64 x2 0 24, mark := false,     ver := u32.wrap (ofW u32 x0 32 32 + 1) })) fun b3 =>
 bif b3 then (κ1 (ofW i64 x0 0 24)) else
 k ()
def Yi {β : Type} (a0 : Int) (g1 : Geo)  (κ0 : Unit -> T β) (κ1 : Int -> T β) : T β := xz xd (xcm a0 g1 κ0 κ1) ()
theorem xi2 {β γ : Type} (a0 : Int) (g1 : Geo)  (κ0 : Unit -> T β) (κ1 : Int -> T β) (κ : β -> T γ) : (Yi a0 g1  κ0 κ1).bind κ = Yi a0 g1  (fun u => (κ0 u).bind κ) (fun ae0 => (κ1 ae0).bind κ) := by
 unfold Yi
 refine xn κ (fun i k => ?_) _ _
 unfold xcm
 first | rfl | (simp only [xa, xb, xe, xc, T.bind_assoc])
def xl0 : Pat := ⟨xu 52 0 [(0, .c (.raw (.port))), (3, .c (.raw (.ptr 0 0))), (4, .c (.int .i64))], [some ⟨[.geo], 24, false, none⟩]⟩
def Yj : Pat := ⟨xu 52 0 [(4, .c (.int .i64))], []⟩
def xcn : St -> (Ex -> St -> T R) -> Option (T R) := fun st K => match xx xl0 st with
 | some [.i a0, .g g1] => some (Yi a0 g1  (fun _ => K (.ret) (xf Yj [.i 0])) (fun ae0 => K (.ret) (xf Yj [.i ae0])))
 | _ => none
theorem xtk : ∀ st K t, xcn st K = some t -> xF xd (lf ka7 xd 0 .no [1, 1, 0] Tryz.f267 K) st = t := by
 intro st K t h
 unfold xcn at h
 split at h
 ·rename_i a0 g1 hm
  cases h
  rw [xp hm]
  exact cast (by kernel_rfl) (xy (F := lf ka7 xd 0 .no [1, 1, 0] Tryz.f267 K) (S := fun i => xf xl0 [.i a0, .g g1]) (B := xcm a0 g1 (fun _ => K (.ret) (xf Yj [.i 0])) (fun ae0 => K (.ret) (xf Yj [.i ae0]))) (fun i k => by kernel_rfl) xd ())
 ·cases h
def xpJ {β : Type} (g : Geo) (κ : Int -> T β) : T β :=
 (wR g).bind fun r0 =>
 bif r0 then (κ (0)) else
 Yi (0) (g) (fun y2_0 =>
 κ (0)) (fun y2_0 =>
 κ y2_0)
def acqT (g : Geo) : T Int := xpJ g .ret
theorem xrI {β : Type} (g : Geo) (κ : Int -> T β) : (acqT g).bind κ = xpJ g κ := by
 unfold acqT xpJ
 first | rfl | (simp only [xa, xb, xe, xc, T.bind_assoc, xi2])
def Kl {β : Type} (a0 a1 : Int) (g3 : Geo) (a4 : Int) (b5 : Bool) (a6 : Int) (κ0 : Int -> Bool -> Int -> T β) (i : Int) (k : Int -> T β) : T β :=
 .op (.self ) fun x0 =>
 .op (.store (atF g3 14 (inF x0 a0 2)) (u64.wrap (ofW i64 i 0 24))) fun _ =>
 .op (.load a1) fun x2 =>
 bif x2 == i then (κ0 (ofW i64 i 0 24) (ofW i64 i 24 1 == 1) (ofW u32 i 32 32)) else
 k x2
def qd {β : Type} (a0 a1 : Int) (g3 : Geo) (a4 : Int) (b5 : Bool) (a6 a2 : Int) (κ0 : Int -> Bool -> Int -> T β) : T β := xz xd (Kl a0 a1 g3 a4 b5 a6 κ0) a2
theorem xfo {β γ : Type} (a0 a1 : Int) (g3 : Geo) (a4 : Int) (b5 : Bool) (a6 a2 : Int) (κ0 : Int -> Bool -> Int -> T β) (κ : β -> T γ) : (qd a0 a1 g3 a4 b5 a6 a2 κ0).bind κ = qd a0 a1 g3 a4 b5 a6 a2 (fun ae0 be1 ae2 => (κ0 ae0 be1 ae2).bind κ) := by
 unfold qd
 refine xn κ (fun i k => ?_) _ _
 unfold Kl
 first | rfl | (simp only [xa, xb, xe, xc, T.bind_assoc])
def xgJ : Pat := ⟨xu 62 0 [(0, .c (.raw (.port))), (2, .c (.int .i64)), (3, .c (.int .i64)), (5, .c (.raw (.ptr 0 0))), (8, .c (.raw (.ptr 1 0))), (9, .c (.int .u64))], [some ⟨[.geo], 24, false, none⟩, some ⟨[.int .i64, .bool, .int .u32], 162, false, none⟩]⟩
def xeJ : Pat := ⟨xu 62 0 [(8, .c (.raw (.ptr 1 0)))], [none, some ⟨[.int .i64, .bool, .int .u32], 162, false, none⟩]⟩
def Km : St -> (Ex -> St -> T R) -> Option (T R) := fun st K => match xx xgJ st with
 | some [.i a0, .i a1, .i a2, .g g3, .i a4, .b b5, .i a6] => some (qd a0 a1 g3 a4 b5 a6 a2 (fun ae0 be1 ae2 => K (.ret) (xf xeJ [.i ae0, .b be1, .i ae2])))
 | _ => none
theorem xrJ : ∀ st K t, Km st K = some t -> xF xd (lf ka7 xd 0 .no [1, 1, 1, 0] Tryz.f285 K) st = t := by
 intro st K t h
 unfold Km at h
 split at h
 ·rename_i a0 a1 a2 g3 a4 b5 a6 hm
  cases h
  rw [xp hm]
  exact cast (by kernel_rfl) (xy (F := lf ka7 xd 0 .no [1, 1, 1, 0] Tryz.f285 K) (S := fun i => xf xgJ [.i a0, .i a1, .i i, .g g3, .i a4, .b b5, .i a6]) (B := Kl a0 a1 g3 a4 b5 a6 (fun ae0 be1 ae2 => K (.ret) (xf xeJ [.i ae0, .b be1, .i ae2]))) (fun i k => by kernel_rfl) xd a2)
 ·cases h
def xi3 {β : Type} (g : Geo) (s a : Int) (κ : Ref -> T β) : T β :=
 .op (.self ) fun x0 =>
 (qU g (atF g 14 (inF x0 s 2))).bind fun r1 =>
 bif r1 then (κ ⟨(0), (false), (0)⟩) else
 bif decide (a < 0) then (κ ⟨(0), (false), (0)⟩) else
 bif decide (a >= g.b19) then (κ ⟨(0), (false), (0)⟩) else
 .op (.load (a)) fun x5 =>
 qd (s) (a) (g) (0) (false) (0) x5 (fun y6_0 y6_1 y6_2 =>
 κ ⟨(y6_0), y6_1, (y6_2)⟩)
def xbs (g : Geo) (s a : Int) : T Ref := xi3 g s a .ret
theorem xoS {β : Type} (g : Geo) (s a : Int) (κ : Ref -> T β) : (xbs g s a).bind κ = xi3 g s a κ := by
 unfold xbs xi3
 first | rfl | (simp only [xa, xb, xe, xc, T.bind_assoc, xfo])
def xco {β : Type} (g : Geo) (s : Int) (κ : Unit -> T β) : T β :=
 .op (.self ) fun x0 =>
 (qU g (atF g 14 (inF x0 s 2))).bind fun r1 =>
 bif !r1 then (.op (.self ) fun x3 =>
 .op (.store (atF g 14 (inF x3 s 2)) (0)) fun _ =>
 κ ()) else
 κ ()
def WC (g : Geo) (s : Int) : T Unit := xco g s .ret
theorem xl1 {β : Type} (g : Geo) (s : Int) (κ : Unit -> T β) : (WC g s).bind κ = xco g s κ := by
 unfold WC xco
 first | rfl | (simp only [xa, xb, xe, xc, T.bind_assoc])
def qX {β : Type} (a0 a1 : Int) (g3 : Geo) (a5 : Int) (b6 : Bool) (a7 : Int) (κ0 : Int -> Int -> T β) (κ1 : Int -> T β) (i : Int × Int) (k : Int × Int -> T β) : T β :=
 bif decide (i.1 < a1) then ((hofT g3 i.2 i.1 a0).bind fun r1 =>
 bif !r1.1 then (k (i64.wrap (i.1 + 1), r1.2)) else
 (isT g3 i.1 0).bind fun r3 =>
 bif !r3 then (k (i64.wrap (i.1 + 1), r1.2)) else
 .op (.load (atF g3 9 i.1)) fun x5 =>
 ym (i.1) g3 (i.1) x5 (fun y6_0 =>
 bif y6_0 != 0 then (.op (.load (atF g3 10 (i64.wrap (i64.wrap y6_0 - 1)))) fun x8 =>
 bif x8 !=   (0 :     POp.Ans       (POp.load         (atF           {             pages :=               g3.pages,             threads :=               g3.threads,             b0 :=               g3.b0,             b1 :=               g3.b1,             b2 :=               g3.b2,             b3 :=               g3.b3,             b4 :=               g3.b4,             b5 :=               g3.b5,             b6 :=               g3.b6,             b7 :=               g3.b7,             b8 :=               g3.b8,             b9 :=               g3.b9,             b10 :=               g3.b10,             b11 :=               g3.b11,             b12 :=               g3.b12,             b13 :=               g3.b13,             b14 :=               g3.b14,             b15 :=               g3.b15,             b16 :=               g3.b16,             b17 :=               g3.b17,             b18 :=               g3.b18,             b19 :=               g3.b19 }           10 (i64.wrap (i64.wrap y6_0 - 1))))) then (.op (.load (atF g3 10 (i64.wrap (i64.wrap x8 - 1)))) fun x10 =>
 bif x10 !=   (0 :     POp.Ans       (POp.load         (atF           {             pages :=               g3.pages,             threads :=               g3.threads,             b0 :=               g3.b0,             b1 :=               g3.b1,             b2 :=               g3.b2,             b3 :=               g3.b3,             b4 :=               g3.b4,             b5 :=               g3.b5,             b6 :=               g3.b6,             b7 :=               g3.b7,             b8 :=               g3.b8,             b9 :=               g3.b9,             b10 :=               g3.b10,             b11 :=               g3.b11,             b12 :=               g3.b12,             b13 :=               g3.b13,             b14 :=               g3.b14,             b15 :=               g3.b15,             b16 :=               g3.b16,             b17 :=               g3.b17,             b18 :=               g3.b18,             b19 :=               g3.b19 }           10 (i64.wrap (i64.wrap x8 - 1))))) then (.op (.load (atF g3 10 (i64.wrap (i64.wrap x10 - 1)))) fun x12 =>
 bif x12 !=   (0 :     POp.Ans       (POp.load         (atF           {             pages :=               g3.pages,             threads :=               g3.threads,             b0 :=               g3.b0,             b1 :=               g3.b1,             b2 :=               g3.b2,             b3 :=               g3.b3,             b4 :=               g3.b4,             b5 :=               g3.b5,             b6 :=               g3.b6,             b7 :=               g3.b7,             b8 :=               g3.b8,             b9 :=               g3.b9,             b10 :=               g3.b10,             b11 :=               g3.b11,             b12 :=               g3.b12,             b13 :=               g3.b13,             b14 :=               g3.b14,             b15 :=               g3.b15,             b16 :=               g3.b16,             b17 :=               g3.b17,             b18 :=               g3.b18,             b19 :=               g3.b19 }           10 (i64.wrap (i64.wrap x10 - 1))))) then (.op (.load (atF g3 10 (i64.wrap (i64.wrap x12 - 1)))) fun x14 =>
 bif x14 !=   (0 :     POp.Ans       (POp.load         (atF           {             pages :=               g3.pages,             threads :=               g3.threads,             b0 :=               g3.b0,             b1 :=               g3.b1,             b2 :=               g3.b2,             b3 :=               g3.b3,             b4 :=               g3.b4,             b5 :=               g3.b5,             b6 :=               g3.b6,             b7 :=               g3.b7,             b8 :=               g3.b8,             b9 :=               g3.b9,             b10 :=               g3.b10,             b11 :=               g3.b11,             b12 :=               g3.b12,             b13 :=               g3.b13,             b14 :=               g3.b14,             b15 :=               g3.b15,             b16 :=               g3.b16,             b17 :=               g3.b17,             b18 :=               g3.b18,             b19 :=               g3.b19 }           10 (i64.wrap (i64.wrap x12 - 1))))) then (.op (.load (atF g3 10 (i64.wrap (i64.wrap x14 - 1)))) fun x16 =>
 bif x16 !=   (0 :     POp.Ans       (POp.load         (atF           {             pages :=               g3.pages,             threads :=               g3.threads,             b0 :=               g3.b0,             b1 :=               g3.b1,             b2 :=               g3.b2,             b3 :=               g3.b3,             b4 :=               g3.b4,             b5 :=               g3.b5,             b6 :=               g3.b6,             b7 :=               g3.b7,             b8 :=               g3.b8,             b9 :=               g3.b9,             b10 :=               g3.b10,             b11 :=               g3.b11,             b12 :=               g3.b12,             b13 :=               g3.b13,             b14 :=               g3.b14,             b15 :=               g3.b15,             b16 :=               g3.b16,             b17 :=               g3.b17,             b18 :=               g3.b18,             b19 :=               g3.b19 }           10 (i64.wrap (i64.wrap x14 - 1))))) then (.op (.load (atF g3 10 (i64.wrap (i64.wrap x16 - 1)))) fun x18 =>
 bif x18 !=   (0 :     POp.Ans       (POp.load         (atF           {             pages :=               g3.pages,             threads :=               g3.threads,             b0 :=               g3.b0,             b1 :=               g3.b1,             b2 :=               g3.b2,             b3 :=               g3.b3,             b4 :=               g3.b4,             b5 :=               g3.b5,             b6 :=               g3.b6,             b7 :=               g3.b7,             b8 :=               g3.b8,             b9 :=               g3.b9,             b10 :=               g3.b10,             b11 :=               g3.b11,             b12 :=               g3.b12,             b13 :=               g3.b13,             b14 :=               g3.b14,             b15 :=               g3.b15,             b16 :=               g3.b16,             b17 :=               g3.b17,             b18 :=               g3.b18,             b19 :=               g3.b19 }           10 (i64.wrap (i64.wrap x16 - 1))))) then (.op (.load (atF g3 10 (i64.wrap (i64.wrap x18 - 1)))) fun x20 =>
 bif x20 !=   (0 :     POp.Ans       (POp.load         (atF           {             pages :=               g3.pages,             threads :=               g3.threads,             b0 :=               g3.b0,             b1 :=               g3.b1,             b2 :=               g3.b2,             b3 :=               g3.b3,             b4 :=               g3.b4,             b5 :=               g3.b5,             b6 :=               g3.b6,             b7 :=               g3.b7,             b8 :=               g3.b8,             b9 :=               g3.b9,             b10 :=               g3.b10,             b11 :=               g3.b11,             b12 :=               g3.b12,             b13 :=               g3.b13,             b14 :=               g3.b14,             b15 :=               g3.b15,             b16 :=               g3.b16,             b17 :=               g3.b17,             b18 :=               g3.b18,             b19 :=               g3.b19 }           10 (i64.wrap (i64.wrap x18 - 1))))) then (.op (.load (atF g3 10 (i64.wrap (i64.wrap x20 - 1)))) fun x22 =>
 bif x22 !=   (0 :     POp.Ans       (POp.load         (atF           {             pages :=               g3.pages,             threads :=               g3.threads,             b0 :=               g3.b0,             b1 :=               g3.b1,             b2 :=               g3.b2,             b3 :=               g3.b3,             b4 :=               g3.b4,             b5 :=               g3.b5,             b6 :=               g3.b6,             b7 :=               g3.b7,             b8 :=               g3.b8,             b9 :=               g3.b9,             b10 :=               g3.b10,             b11 :=               g3.b11,             b12 :=               g3.b12,             b13 :=               g3.b13,             b14 :=               g3.b14,             b15 :=               g3.b15,             b16 :=               g3.b16,             b17 :=               g3.b17,             b18 :=               g3.b18,             b19 :=               g3.b19 }           10 (i64.wrap (i64.wrap x20 - 1))))) then ((wx g3 (i64.wrap (i64.wrap y6_0 - 1))).bind fun r24 =>
 bif r24.cls != a0 then ((xl g3 r1.2 (i64.wrap (i64.wrap y6_0 - 1))).bind fun r26 =>
 (xl g3 r26.2 (i64.wrap (i64.wrap x8 - 1))).bind fun r27 =>
 (xl g3 r27.2 (i64.wrap (i64.wrap x10 - 1))).bind fun r28 =>
 (xl g3 r28.2 (i64.wrap (i64.wrap x12 - 1))).bind fun r29 =>
 (xl g3 r29.2 (i64.wrap (i64.wrap x14 - 1))).bind fun r30 =>
 (xl g3 r30.2 (i64.wrap (i64.wrap x16 - 1))).bind fun r31 =>
 (xl g3 r31.2 (i64.wrap (i64.wrap x18 - 1))).bind fun r32 =>
 (xl g3 r32.2 (i64.wrap (i64.wrap x20 - 1))).bind fun r33 =>
 k (i64.wrap (i.1 + 1), r33.2)) else
 (xl g3 r1.2 (i64.wrap (i64.wrap x8 - 1))).bind fun r26 =>
 (xl g3 r26.2 (i64.wrap (i64.wrap x10 - 1))).bind fun r27 =>
 (xl g3 r27.2 (i64.wrap (i64.wrap x12 - 1))).bind fun r28 =>
 (xl g3 r28.2 (i64.wrap (i64.wrap x14 - 1))).bind fun r29 =>
 (xl g3 r29.2 (i64.wrap (i64.wrap x16 - 1))).bind fun r30 =>
 (xl g3 r30.2 (i64.wrap (i64.wrap x18 - 1))).bind fun r31 =>
 (xl g3 r31.2 (i64.wrap (i64.wrap x20 - 1))).bind fun r32 =>
 κ0 (r32.2) (i64.wrap (i64.wrap y6_0 - 1))) else
 (wx g3 (i64.wrap (i64.wrap y6_0 - 1))).bind fun r24 =>
 bif r24.cls != a0 then ((xl g3 r1.2 (i64.wrap (i64.wrap y6_0 - 1))).bind fun r26 =>
 (xl g3 r26.2 (i64.wrap (i64.wrap x8 - 1))).bind fun r27 =>
 (xl g3 r27.2 (i64.wrap (i64.wrap x10 - 1))).bind fun r28 =>
 (xl g3 r28.2 (i64.wrap (i64.wrap x12 - 1))).bind fun r29 =>
 (xl g3 r29.2 (i64.wrap (i64.wrap x14 - 1))).bind fun r30 =>
 (xl g3 r30.2 (i64.wrap (i64.wrap x16 - 1))).bind fun r31 =>
 (xl g3 r31.2 (i64.wrap (i64.wrap x18 - 1))).bind fun r32 =>
 (xl g3 r32.2 (i64.wrap (i64.wrap x20 - 1))).bind fun r33 =>
 k (i64.wrap (i.1 + 1), r33.2)) else
 (xl g3 r1.2 (i64.wrap (i64.wrap x8 - 1))).bind fun r26 =>
 (xl g3 r26.2 (i64.wrap (i64.wrap x10 - 1))).bind fun r27 =>
 (xl g3 r27.2 (i64.wrap (i64.wrap x12 - 1))).bind fun r28 =>
 (xl g3 r28.2 (i64.wrap (i64.wrap x14 - 1))).bind fun r29 =>
 (xl g3 r29.2 (i64.wrap (i64.wrap x16 - 1))).bind fun r30 =>
 (xl g3 r30.2 (i64.wrap (i64.wrap x18 - 1))).bind fun r31 =>
 (xl g3 r31.2 (i64.wrap (i64.wrap x20 - 1))).bind fun r32 =>
 κ0 (r32.2) (i64.wrap (i64.wrap y6_0 - 1))) else
 (wx g3 (i64.wrap (i64.wrap y6_0 - 1))).bind fun r22 =>
 bif r22.cls != a0 then ((xl g3 r1.2 (i64.wrap (i64.wrap y6_0 - 1))).bind fun r24 =>
 (xl g3 r24.2 (i64.wrap (i64.wrap x8 - 1))).bind fun r25 =>
 (xl g3 r25.2 (i64.wrap (i64.wrap x10 - 1))).bind fun r26 =>
 (xl g3 r26.2 (i64.wrap (i64.wrap x12 - 1))).bind fun r27 =>
 (xl g3 r27.2 (i64.wrap (i64.wrap x14 - 1))).bind fun r28 =>
 (xl g3 r28.2 (i64.wrap (i64.wrap x16 - 1))).bind fun r29 =>
 (xl g3 r29.2 (i64.wrap (i64.wrap x18 - 1))).bind fun r30 =>
 k (i64.wrap (i.1 + 1), r30.2)) else
 (xl g3 r1.2 (i64.wrap (i64.wrap x8 - 1))).bind fun r24 =>
 (xl g3 r24.2 (i64.wrap (i64.wrap x10 - 1))).bind fun r25 =>
 (xl g3 r25.2 (i64.wrap (i64.wrap x12 - 1))).bind fun r26 =>
 (xl g3 r26.2 (i64.wrap (i64.wrap x14 - 1))).bind fun r27 =>
 (xl g3 r27.2 (i64.wrap (i64.wrap x16 - 1))).bind fun r28 =>
 (xl g3 r28.2 (i64.wrap (i64.wrap x18 - 1))).bind fun r29 =>
 κ0 (r29.2) (i64.wrap (i64.wrap y6_0 - 1))) else
 (wx g3 (i64.wrap (i64.wrap y6_0 - 1))).bind fun r20 =>
 bif r20.cls != a0 then ((xl g3 r1.2 (i64.wrap (i64.wrap y6_0 - 1))).bind fun r22 =>
 (xl g3 r22.2 (i64.wrap (i64.wrap x8 - 1))).bind fun r23 =>
 (xl g3 r23.2 (i64.wrap (i64.wrap x10 - 1))).bind fun r24 =>
 (xl g3 r24.2 (i64.wrap (i64.wrap x12 - 1))).bind fun r25 =>
 (xl g3 r25.2 (i64.wrap (i64.wrap x14 - 1))).bind fun r26 =>
 (xl g3 r26.2 (i64.wrap (i64.wrap x16 - 1))).bind fun r27 =>
 k (i64.wrap (i.1 + 1), r27.2)) else
 (xl g3 r1.2 (i64.wrap (i64.wrap x8 - 1))).bind fun r22 =>
 (xl g3 r22.2 (i64.wrap (i64.wrap x10 - 1))).bind fun r23 =>
 (xl g3 r23.2 (i64.wrap (i64.wrap x12 - 1))).bind fun r24 =>
 (xl g3 r24.2 (i64.wrap (i64.wrap x14 - 1))).bind fun r25 =>
 (xl g3 r25.2 (i64.wrap (i64.wrap x16 - 1))).bind fun r26 =>
 κ0 (r26.2) (i64.wrap (i64.wrap y6_0 - 1))) else
 (wx g3 (i64.wrap (i64.wrap y6_0 - 1))).bind fun r18 =>
 bif r18.cls != a0 then ((xl g3 r1.2 (i64.wrap (i64.wrap y6_0 - 1))).bind fun r20 =>
 (xl g3 r20.2 (i64.wrap (i64.wrap x8 - 1))).bind fun r21 =>
 (xl g3 r21.2 (i64.wrap (i64.wrap x10 - 1))).bind fun r22 =>
 (xl g3 r22.2 (i64.wrap (i64.wrap x12 - 1))).bind fun r23 =>
 (xl g3 r23.2 (i64.wrap (i64.wrap x14 - 1))).bind fun r24 =>
 k (i64.wrap (i.1 + 1), r24.2)) else
 (xl g3 r1.2 (i64.wrap (i64.wrap x8 - 1))).bind fun r20 =>
 (xl g3 r20.2 (i64.wrap (i64.wrap x10 - 1))).bind fun r21 =>
 (xl g3 r21.2 (i64.wrap (i64.wrap x12 - 1))).bind fun r22 =>
 (xl g3 r22.2 (i64.wrap (i64.wrap x14 - 1))).bind fun r23 =>
 κ0 (r23.2) (i64.wrap (i64.wrap y6_0 - 1))) else
 (wx g3 (i64.wrap (i64.wrap y6_0 - 1))).bind fun r16 =>
 bif r16.cls != a0 then ((xl g3 r1.2 (i64.wrap (i64.wrap y6_0 - 1))).bind fun r18 =>
 (xl g3 r18.2 (i64.wrap (i64.wrap x8 - 1))).bind fun r19 =>
 (xl g3 r19.2 (i64.wrap (i64.wrap x10 - 1))).bind fun r20 =>
 (xl g3 r20.2 (i64.wrap (i64.wrap x12 - 1))).bind fun r21 =>
 k (i64.wrap (i.1 + 1), r21.2)) else
 (xl g3 r1.2 (i64.wrap (i64.wrap x8 - 1))).bind fun r18 =>
 (xl g3 r18.2 (i64.wrap (i64.wrap x10 - 1))).bind fun r19 =>
 (xl g3 r19.2 (i64.wrap (i64.wrap x12 - 1))).bind fun r20 =>
 κ0 (r20.2) (i64.wrap (i64.wrap y6_0 - 1))) else
 (wx g3 (i64.wrap (i64.wrap y6_0 - 1))).bind fun r14 =>
 bif r14.cls != a0 then ((xl g3 r1.2 (i64.wrap (i64.wrap y6_0 - 1))).bind fun r16 =>
 (xl g3 r16.2 (i64.wrap (i64.wrap x8 - 1))).bind fun r17 =>
 (xl g3 r17.2 (i64.wrap (i64.wrap x10 - 1))).bind fun r18 =>
 k (i64.wrap (i.1 + 1), r18.2)) else
 (xl g3 r1.2 (i64.wrap (i64.wrap x8 - 1))).bind fun r16 =>
 (xl g3 r16.2 (i64.wrap (i64.wrap x10 - 1))).bind fun r17 =>
 κ0 (r17.2) (i64.wrap (i64.wrap y6_0 - 1))) else
 (wx g3 (i64.wrap (i64.wrap y6_0 - 1))).bind fun r12 =>
 bif r12.cls != a0 then ((xl g3 r1.2 (i64.wrap (i64.wrap y6_0 - 1))).bind fun r14 =>
 (xl g3 r14.2 (i64.wrap (i64.wrap x8 - 1))).bind fun r15 =>
 k (i64.wrap (i.1 + 1), r15.2)) else
 (xl g3 r1.2 (i64.wrap (i64.wrap x8 - 1))).bind fun r14 =>
 κ0 (r14.2) (i64.wrap (i64.wrap y6_0 - 1))) else
 (wx g3 (i64.wrap (i64.wrap y6_0 - 1))).bind fun r10 =>
 bif r10.cls != a0 then ((xl g3 r1.2 (i64.wrap (i64.wrap y6_0 - 1))).bind fun r12 =>
 k (i64.wrap (i.1 + 1), r12.2)) else
 κ0 (r1.2) (i64.wrap (i64.wrap y6_0 - 1))) else
 k (i64.wrap (i.1 + 1), r1.2))) else
 κ1 (i.2)
def wh {β : Type} (a0 a1 : Int) (g3 : Geo) (a5 : Int) (b6 : Bool) (a7 a2 a4 : Int) (κ0 : Int -> Int -> T β) (κ1 : Int -> T β) : T β := xz xd (qX a0 a1 g3 a5 b6 a7 κ0 κ1) (a2, a4)
theorem xbA {β γ : Type} (a0 a1 : Int) (g3 : Geo) (a5 : Int) (b6 : Bool) (a7 a2 a4 : Int) (κ0 : Int -> Int -> T β) (κ1 : Int -> T β) (κ : β -> T γ) : (wh a0 a1 g3 a5 b6 a7 a2 a4 κ0 κ1).bind κ = wh a0 a1 g3 a5 b6 a7 a2 a4 (fun ae1 ae2 => (κ0 ae1 ae2).bind κ) (fun ae1 => (κ1 ae1).bind κ) := by
 unfold wh
 refine xn κ (fun i k => ?_) _ _
 unfold qX
 first | rfl | (simp only [xa, xb, xe, xc, T.bind_assoc, kK])
def xbt : Pat := ⟨xu 71 0 [(0, .c (.raw (.ptr 0 0))), (1, .c (.int .i64)), (4, .c (.raw (.ptr 1 0))), (14, .c (.int .i64)), (15, .c (.int .i64))], [some ⟨[.raw (.port), .geo, .int .u64], 150, false, none⟩, some ⟨[.int .i64, .bool, .int .i64], 221, false, none⟩]⟩
def wS : Pat := ⟨xu 71 0 [(4, .c (.raw (.ptr 1 0)))], [some ⟨[.raw (.port), .geo, .int .u64], 150, false, none⟩, some ⟨[.int .i64, .bool, .int .i64], 221, false, none⟩]⟩
def qY : St -> (Ex -> St -> T R) -> Option (T R) := fun st K => match xx xbt st with
 | some [.i a0, .i a1, .i a2, .g g3, .i a4, .i a5, .b b6, .i a7] => some (wh a0 a1 g3 a5 b6 a7 a2 a4 (fun ae1 ae2 => K (.ret) (xf wS [.g g3, .i ae1, .i ae2, .b true, .i 0])) (fun ae1 => K (.exit 0) (xf wS [.g g3, .i ae1, .i a5, .b b6, .i a7])))
 | _ => none
theorem xl2 : ∀ st K t, qY st K = some t -> xF xd (lf ka7 xd 1 .no [1, 0, 1, 0] Tryz.f226 K) st = t := by
 intro st K t h
 unfold qY at h
 split at h
 ·rename_i a0 a1 a2 g3 a4 a5 b6 a7 hm
  cases h
  rw [xp hm]
  exact cast (by kernel_rfl) (xy (F := lf ka7 xd 1 .no [1, 0, 1, 0] Tryz.f226 K) (S := fun i => xf xbt [.i a0, .i a1, .i (i.1), .g g3, .i (i.2), .i a5, .b b6, .i a7]) (B := qX a0 a1 g3 a5 b6 a7 (fun ae1 ae2 => K (.ret) (xf wS [.g g3, .i ae1, .i ae2, .b true, .i 0])) (fun ae1 => K (.exit 0) (xf wS [.g g3, .i ae1, .i a5, .b b6, .i a7]))) (fun i k => by kernel_rfl) xd (a2, a4))
 ·cases h
def Kn {β : Type} (g : Geo) (o c : Int) (κ : (Fnd × Int) -> T β) : T β :=
 wh (c) (g.pages) (g) (0) (false) (0) (0) (o) (fun y0_0 y0_1 =>
 κ (⟨(y0_1), (true), (0)⟩, y0_0)) (fun y0_0 =>
 κ (⟨(0), (false), (0)⟩, y0_0))
def Yk (g : Geo) (o c : Int) : T (Fnd × Int) := Kn g o c .ret
theorem xi4 {β : Type} (g : Geo) (o c : Int) (κ : (Fnd × Int) -> T β) : (Yk g o c).bind κ = Kn g o c κ := by
 unfold Yk Kn
 first | rfl | (simp only [xa, xb, xe, xc, T.bind_assoc, xbA])
def jk {β : Type} (a0 : Int) (g2 : Geo) (κ0 : Int -> T β) (i : Int × Int) (k : Int × Int -> T β) : T β :=
 bif decide (i.1 < a0) then ((isT g2 i.1 0).bind fun r1 =>
 bif !r1 then (k (i64.wrap (i.1 + 1), i.2)) else
 .op (.load (atF g2 9 i.1)) fun x3 =>
 ym (i.1) g2 (i.1) x3 (fun y4_0 =>
 bif y4_0 != 0 then (.op (.load (atF g2 10 (i64.wrap (i64.wrap y4_0 - 1)))) fun x6 =>
 bif x6 !=   (0 :     POp.Ans       (POp.load         (atF           g2           10 (i64.wrap (i64.wrap y4_0 - 1))))) then (.op (.load (atF g2 10 (i64.wrap (i64.wrap x6 - 1)))) fun x8 =>
 bif x8 !=   (0 :     POp.Ans       (POp.load         (atF           g2           10 (i64.wrap (i64.wrap x6 - 1))))) then (.op (.load (atF g2 10 (i64.wrap (i64.wrap x8 - 1)))) fun x10 =>
 bif x10 !=   (0 :     POp.Ans       (POp.load         (atF           g2           10 (i64.wrap (i64.wrap x8 - 1))))) then (.op (.load (atF g2 10 (i64.wrap (i64.wrap x10 - 1)))) fun x12 =>
 bif x12 !=   (0 :     POp.Ans       (POp.load         (atF           g2           10 (i64.wrap (i64.wrap x10 - 1))))) then (.op (.load (atF g2 10 (i64.wrap (i64.wrap x12 - 1)))) fun x14 =>
 bif x14 !=   (0 :     POp.Ans       (POp.load         (atF           g2           10 (i64.wrap (i64.wrap x12 - 1))))) then (.op (.load (atF g2 10 (i64.wrap (i64.wrap x14 - 1)))) fun x16 =>
 bif x16 !=   (0 :     POp.Ans       (POp.load         (atF           g2           10 (i64.wrap (i64.wrap x14 - 1))))) then (.op (.load (atF g2 10 (i64.wrap (i64.wrap x16 - 1)))) fun x18 =>
 bif x18 !=   (0 :     POp.Ans       (POp.load         (atF           g2           10 (i64.wrap (i64.wrap x16 - 1))))) then (.op (.load (atF g2 10 (i64.wrap (i64.wrap x18 - 1)))) fun x20 =>
 bif x20 !=   (0 :     POp.Ans       (POp.load         (atF           g2           10 (i64.wrap (i64.wrap x18 - 1))))) then ((xl g2 i.2 (i64.wrap (i64.wrap y4_0 - 1))).bind fun r22 =>
 (xl g2 r22.2 (i64.wrap (i64.wrap x6 - 1))).bind fun r23 =>
 (xl g2 r23.2 (i64.wrap (i64.wrap x8 - 1))).bind fun r24 =>
 (xl g2 r24.2 (i64.wrap (i64.wrap x10 - 1))).bind fun r25 =>
 (xl g2 r25.2 (i64.wrap (i64.wrap x12 - 1))).bind fun r26 =>
 (xl g2 r26.2 (i64.wrap (i64.wrap x14 - 1))).bind fun r27 =>
 (xl g2 r27.2 (i64.wrap (i64.wrap x16 - 1))).bind fun r28 =>
 (xl g2 r28.2 (i64.wrap (i64.wrap x18 - 1))).bind fun r29 =>
 k (i64.wrap (i.1 + 1), r29.2)) else
 (xl g2 i.2 (i64.wrap (i64.wrap y4_0 - 1))).bind fun r22 =>
 (xl g2 r22.2 (i64.wrap (i64.wrap x6 - 1))).bind fun r23 =>
 (xl g2 r23.2 (i64.wrap (i64.wrap x8 - 1))).bind fun r24 =>
 (xl g2 r24.2 (i64.wrap (i64.wrap x10 - 1))).bind fun r25 =>
 (xl g2 r25.2 (i64.wrap (i64.wrap x12 - 1))).bind fun r26 =>
 (xl g2 r26.2 (i64.wrap (i64.wrap x14 - 1))).bind fun r27 =>
 (xl g2 r27.2 (i64.wrap (i64.wrap x16 - 1))).bind fun r28 =>
 (xl g2 r28.2 (i64.wrap (i64.wrap x18 - 1))).bind fun r29 =>
 k (i64.wrap (i.1 + 1), r29.2)) else
 (xl g2 i.2 (i64.wrap (i64.wrap y4_0 - 1))).bind fun r20 =>
 (xl g2 r20.2 (i64.wrap (i64.wrap x6 - 1))).bind fun r21 =>
 (xl g2 r21.2 (i64.wrap (i64.wrap x8 - 1))).bind fun r22 =>
 (xl g2 r22.2 (i64.wrap (i64.wrap x10 - 1))).bind fun r23 =>
 (xl g2 r23.2 (i64.wrap (i64.wrap x12 - 1))).bind fun r24 =>
 (xl g2 r24.2 (i64.wrap (i64.wrap x14 - 1))).bind fun r25 =>
 (xl g2 r25.2 (i64.wrap (i64.wrap x16 - 1))).bind fun r26 =>
 k (i64.wrap (i.1 + 1), r26.2)) else
 (xl g2 i.2 (i64.wrap (i64.wrap y4_0 - 1))).bind fun r18 =>
 (xl g2 r18.2 (i64.wrap (i64.wrap x6 - 1))).bind fun r19 =>
 (xl g2 r19.2 (i64.wrap (i64.wrap x8 - 1))).bind fun r20 =>
 (xl g2 r20.2 (i64.wrap (i64.wrap x10 - 1))).bind fun r21 =>
 (xl g2 r21.2 (i64.wrap (i64.wrap x12 - 1))).bind fun r22 =>
 (xl g2 r22.2 (i64.wrap (i64.wrap x14 - 1))).bind fun r23 =>
 k (i64.wrap (i.1 + 1), r23.2)) else
 (xl g2 i.2 (i64.wrap (i64.wrap y4_0 - 1))).bind fun r16 =>
 (xl g2 r16.2 (i64.wrap (i64.wrap x6 - 1))).bind fun r17 =>
 (xl g2 r17.2 (i64.wrap (i64.wrap x8 - 1))).bind fun r18 =>
 (xl g2 r18.2 (i64.wrap (i64.wrap x10 - 1))).bind fun r19 =>
 (xl g2 r19.2 (i64.wrap (i64.wrap x12 - 1))).bind fun r20 =>
 k (i64.wrap (i.1 + 1), r20.2)) else
 (xl g2 i.2 (i64.wrap (i64.wrap y4_0 - 1))).bind fun r14 =>
 (xl g2 r14.2 (i64.wrap (i64.wrap x6 - 1))).bind fun r15 =>
 (xl g2 r15.2 (i64.wrap (i64.wrap x8 - 1))).bind fun r16 =>
 (xl g2 r16.2 (i64.wrap (i64.wrap x10 - 1))).bind fun r17 =>
 k (i64.wrap (i.1 + 1), r17.2)) else
 (xl g2 i.2 (i64.wrap (i64.wrap y4_0 - 1))).bind fun r12 =>
 (xl g2 r12.2 (i64.wrap (i64.wrap x6 - 1))).bind fun r13 =>
 (xl g2 r13.2 (i64.wrap (i64.wrap x8 - 1))).bind fun r14 =>
 k (i64.wrap (i.1 + 1), r14.2)) else
 (xl g2 i.2 (i64.wrap (i64.wrap y4_0 - 1))).bind fun r10 =>
 (xl g2 r10.2 (i64.wrap (i64.wrap x6 - 1))).bind fun r11 =>
 k (i64.wrap (i.1 + 1), r11.2)) else
 (xl g2 i.2 (i64.wrap (i64.wrap y4_0 - 1))).bind fun r8 =>
 k (i64.wrap (i.1 + 1), r8.2)) else
 k (i64.wrap (i.1 + 1), i.2))) else
 κ0 (i.2)
def vE {β : Type} (a0 : Int) (g2 : Geo) (a1 a3 : Int) (κ0 : Int -> T β) : T β := xz xd (jk a0 g2 κ0) (a1, a3)
theorem xaT {β γ : Type} (a0 : Int) (g2 : Geo) (a1 a3 : Int) (κ0 : Int -> T β) (κ : β -> T γ) : (vE a0 g2 a1 a3 κ0).bind κ = vE a0 g2 a1 a3 (fun ae1 => (κ0 ae1).bind κ) := by
 unfold vE
 refine xn κ (fun i k => ?_) _ _
 unfold jk
 first | rfl | (simp only [xa, xb, xe, xc, T.bind_assoc, kK])
def Ko : Pat := ⟨xu 33 0 [(0, .c (.raw (.ptr 0 0))), (9, .c (.int .i64)), (10, .c (.int .i64))], [some ⟨[.raw (.port), .geo, .int .u64], 150, false, none⟩]⟩
def YD : Pat := ⟨xu 33 0 [], [some ⟨[.raw (.port), .geo, .int .u64], 150, false, none⟩]⟩
def jl : St -> (Ex -> St -> T R) -> Option (T R) := fun st K => match xx Ko st with
 | some [.i a0, .i a1, .g g2, .i a3] => some (vE a0 g2 a1 a3 (fun ae1 => K (.exit 0) (xf YD [.g g2, .i ae1])))
 | _ => none
theorem xi5 : ∀ st K t, jl st K = some t -> xF xd (lf ka7 xd 1 .no [1, 0] Tryz.f242 K) st = t := by
 intro st K t h
 unfold jl at h
 split at h
 ·rename_i a0 a1 g2 a3 hm
  cases h
  rw [xp hm]
  exact cast (by kernel_rfl) (xy (F := lf ka7 xd 1 .no [1, 0] Tryz.f242 K) (S := fun i => xf Ko [.i a0, .i (i.1), .g g2, .i (i.2)]) (B := jk a0 g2 (fun ae1 => K (.exit 0) (xf YD [.g g2, .i ae1]))) (fun i k => by kernel_rfl) xd (a1, a3))
 ·cases h
def Yl {β : Type} (g : Geo) (o : Int) (κ : (Unit × Int) -> T β) : T β :=
 vE (g.pages) (g) (0) (o) (fun y0_0 =>
 κ ((), y0_0))
def qe (g : Geo) (o : Int) : T (Unit × Int) := Yl g o .ret
theorem xfp {β : Type} (g : Geo) (o : Int) (κ : (Unit × Int) -> T β) : (qe g o).bind κ = Yl g o κ := by
 unfold qe Yl
 first | rfl | (simp only [xa, xb, xe, xc, T.bind_assoc, xaT])
def jm {β : Type} (a0 : Int) (g2 : Geo) (κ0 : Int -> T β) (i : Int × Int) (k : Int × Int -> T β) : T β :=
 bif decide (i.1 < a0) then (.op (.load (atF g2 8 i.1)) fun x1 =>
 bif decide (ofW i64 x1 8 3 > 0) then (bif decide   ((bif decide (ofW i64 x1 8 3 > 0) then       i64.wrap (ofW i64 x1 8 3 - 1)     else (0 : Int)) <     4) then (bif decide (0 <= (btOf x1).cls /\ (btOf x1).cls < 4) then ((xbk   { map := ofW u8 x1 0 8, has := decide (ofW i64 x1 8 3 > 0),     cls :=       bif decide (ofW i64 x1 8 3 > 0) then         i64.wrap (ofW i64 x1 8 3 - 1)       else (0 : Int),     ver := ofW u32 x1 32 32 }   (bif       (bif decide (ofW i64 x1 8 3 > 0) then           i64.wrap (ofW i64 x1 8 3 - 1)         else (0 : Int)) ==         0 then     8   else     bif         (bif decide (ofW i64 x1 8 3 > 0) then             i64.wrap (ofW i64 x1 8 3 - 1)           else (0 : Int)) ==           0 + 1 then       4     else       bif           (bif decide (ofW i64 x1 8 3 > 0) then               i64.wrap (ofW i64 x1 8 3 - 1)             else (0 : Int)) ==             0 + 1 + 1 then         2       else (2 : Int))).bind fun r5 =>
 bif r5 then ((kL g2 i.1).bind fun r7 =>
 bif r7 then ((yJ g2 i.2 1).bind fun r9 =>
 k (i64.wrap (i.1 + 1), r9.2)) else
 k (i64.wrap (i.1 + 1), i.2)) else
 k (i64.wrap (i.1 + 1), i.2)) else
 .fail) else
 k (i64.wrap (i.1 + 1), i.2)) else
 k (i64.wrap (i.1 + 1), i.2)) else
 κ0 (i.2)
def vF {β : Type} (a0 : Int) (g2 : Geo) (a1 a3 : Int) (κ0 : Int -> T β) : T β := xz xd (jm a0 g2 κ0) (a1, a3)
theorem xaU {β γ : Type} (a0 : Int) (g2 : Geo) (a1 a3 : Int) (κ0 : Int -> T β) (κ : β -> T γ) : (vF a0 g2 a1 a3 κ0).bind κ = vF a0 g2 a1 a3 (fun ae1 => (κ0 ae1).bind κ) := by
 unfold vF
 refine xn κ (fun i k => ?_) _ _
 unfold jm
 first | rfl | (simp only [xa, xb, xe, xc, T.bind_assoc])
def Kp : Pat := ⟨xu 57 0 [(0, .c (.raw (.ptr 0 0))), (8, .c (.int .i64)), (9, .c (.int .i64))], [some ⟨[.raw (.port), .geo, .int .u64], 150, false, none⟩]⟩
def YE : Pat := ⟨xu 57 0 [], [some ⟨[.raw (.port), .geo, .int .u64], 150, false, none⟩]⟩
def jn : St -> (Ex -> St -> T R) -> Option (T R) := fun st K => match xx Kp st with
 | some [.i a0, .i a1, .g g2, .i a3] => some (vF a0 g2 a1 a3 (fun ae1 => K (.exit 0) (xf YE [.g g2, .i ae1])))
 | _ => none
theorem xi6 : ∀ st K t, jn st K = some t -> xF xd (lf ka7 xd 1 .no [1, 0] Tryz.f243 K) st = t := by
 intro st K t h
 unfold jn at h
 split at h
 ·rename_i a0 a1 g2 a3 hm
  cases h
  rw [xp hm]
  exact cast (by kernel_rfl) (xy (F := lf ka7 xd 1 .no [1, 0] Tryz.f243 K) (S := fun i => xf Kp [.i a0, .i (i.1), .g g2, .i (i.2)]) (B := jm a0 g2 (fun ae1 => K (.exit 0) (xf YE [.g g2, .i ae1]))) (fun i k => by kernel_rfl) xd (a1, a3))
 ·cases h
def Ym {β : Type} (g : Geo) (o : Int) (κ : (Unit × Int) -> T β) : T β :=
 vF (g.pages) (g) (0) (o) (fun y0_0 =>
 κ ((), y0_0))
def qf (g : Geo) (o : Int) : T (Unit × Int) := Ym g o .ret
theorem xfq {β : Type} (g : Geo) (o : Int) (κ : (Unit × Int) -> T β) : (qf g o).bind κ = Ym g o κ := by
 unfold qf Ym
 first | rfl | (simp only [xa, xb, xe, xc, T.bind_assoc, xaU])
def qZ {β : Type} (g : Geo) (o : Int) (κ : (Unit × Int) -> T β) : T β :=
 (tryT g).bind fun r0 =>
 bif r0 then ((vq g).bind fun r2 =>
 (yJ g o r2).bind fun r3 =>
 (ZW g).bind fun r4 =>
 κ ((), (r3.2))) else
 κ ((), (o))
def qg (g : Geo) (o : Int) : T (Unit × Int) := qZ g o .ret
theorem xeK {β : Type} (g : Geo) (o : Int) (κ : (Unit × Int) -> T β) : (qg g o).bind κ = qZ g o κ := by
 unfold qg qZ
 first | rfl | (simp only [xa, xb, xe, xc, T.bind_assoc])
def xi7 {β : Type} (g : Geo) (o k a : Int) (κ : (Fnd × Int) -> T β) : T β :=
 (tryT g).bind fun r0 =>
 bif !r0 then (κ (⟨(0), (false), (5)⟩, (o))) else
 (vq g).bind fun r2 =>
 (yJ g o r2).bind fun r3 =>
 (wQ g k a).bind fun r4 =>
 (ZW g).bind fun r5 =>
 κ (⟨(i64.wrap (r4.1 * 8)), (r4.2), (0)⟩, (r3.2))
def xeL (g : Geo) (o k a : Int) : T (Fnd × Int) := xi7 g o k a .ret
theorem xoT {β : Type} (g : Geo) (o k a : Int) (κ : (Fnd × Int) -> T β) : (xeL g o k a).bind κ = xi7 g o k a κ := by
 unfold xeL xi7
 first | rfl | (simp only [xa, xb, xe, xc, T.bind_assoc])
def Za {β : Type} (a0 a1 a4 a5 a6 : Int) (g7 : Geo) (κ0 : Int -> T β) (i : Int × Bool × Int) (k : Int × Bool × Int -> T β) : T β :=
 bif i.2.1 then ((xl g7 i.2.2 (i64.wrap (i64.wrap i.1 - 1))).bind fun r1 =>
 (qO g7 a0 a1).bind fun r2 =>
 k (r2.1, r2.2, r1.2)) else
 κ0 (i.2.2)
def wi {β : Type} (a0 a1 a4 a5 a6 : Int) (g7 : Geo) (a2 : Int) (b3 : Bool) (a8 : Int) (κ0 : Int -> T β) : T β := xz xd (Za a0 a1 a4 a5 a6 g7 κ0) (a2, b3, a8)
theorem xbB {β γ : Type} (a0 a1 a4 a5 a6 : Int) (g7 : Geo) (a2 : Int) (b3 : Bool) (a8 : Int) (κ0 : Int -> T β) (κ : β -> T γ) : (wi a0 a1 a4 a5 a6 g7 a2 b3 a8 κ0).bind κ = wi a0 a1 a4 a5 a6 g7 a2 b3 a8 (fun ae5 => (κ0 ae5).bind κ) := by
 unfold wi
 refine xn κ (fun i k => ?_) _ _
 unfold Za
 first | rfl | (simp only [xa, xb, xe, xc, T.bind_assoc])
def xbu : Pat := ⟨xu 52 0 [(0, .c (.raw (.ptr 0 0))), (2, .c (.int .i64)), (3, .c (.int .i64)), (4, .c (.int .u64)), (5, .c (.bool)), (10, .c (.int .i64)), (11, .c (.int .i64)), (14, .c (.int .i64))], [some ⟨[.raw (.port), .geo, .int .u64], 150, false, none⟩]⟩
def wT : Pat := ⟨xu 52 0 [(0, .c (.raw (.ptr 0 0))), (2, .c (.int .i64)), (10, .c (.int .i64)), (11, .c (.int .i64)), (14, .c (.int .i64))], [some ⟨[.raw (.port), .geo, .int .u64], 150, false, none⟩]⟩
def vi : St -> (Ex -> St -> T R) -> Option (T R) := fun st K => match xx xbu st with
 | some [.i a0, .i a1, .i a2, .b b3, .i a4, .i a5, .i a6, .g g7, .i a8] => some (wi a0 a1 a4 a5 a6 g7 a2 b3 a8 (fun ae5 => K (.exit 4) (xf wT [.i a0, .i a4, .i a5, .i a6, .g g7, .i ae5])))
 | _ => none
theorem xl3 : ∀ st K t, vi st K = some t -> xF xd (lf ka7 xd 1 .no [1, 0, 0, 1, 1, 0, 0, 1, 1, 0, 0, 1, 1, 0, 0, 1, 1, 0] Tryz.f240 K) st = t := by
 intro st K t h
 unfold vi at h
 split at h
 ·rename_i a0 a1 a2 b3 a4 a5 a6 g7 a8 hm
  cases h
  rw [xp hm]
  exact cast (by kernel_rfl) (xy (F := lf ka7 xd 1 .no [1, 0, 0, 1, 1, 0, 0, 1, 1, 0, 0, 1, 1, 0, 0, 1, 1, 0] Tryz.f240 K) (S := fun i => xf xbu [.i a0, .i a1, .i (i.1), .b (i.2.1), .i a4, .i a5, .i a6, .g g7, .i (i.2.2)]) (B := Za a0 a1 a4 a5 a6 g7 (fun ae5 => K (.exit 4) (xf wT [.i a0, .i a4, .i a5, .i a6, .g g7, .i ae5]))) (fun i k => by kernel_rfl) xd (a2, b3, a8))
 ·cases h
def Zb {β : Type} (a0 a1 a2 : Int) (g4 : Geo) (κ0 : Int -> T β) (i : Int × Int) (k : Int × Int -> T β) : T β :=
 bif decide (i.1 < 4) then ((qO g4 a0 i.1).bind fun r1 =>
 wi a0 (i.1) a1 a2 (i.1) g4 (r1.1) (r1.2) (i.2) (fun y2_0 =>
 k (i64.wrap (i.1 + 1), y2_0))) else
 κ0 (i.2)
def vw {β : Type} (a0 a1 a2 : Int) (g4 : Geo) (a3 a5 : Int) (κ0 : Int -> T β) : T β := xz xd (Zb a0 a1 a2 g4 κ0) (a3, a5)
theorem xbC {β γ : Type} (a0 a1 a2 : Int) (g4 : Geo) (a3 a5 : Int) (κ0 : Int -> T β) (κ : β -> T γ) : (vw a0 a1 a2 g4 a3 a5 κ0).bind κ = vw a0 a1 a2 g4 a3 a5 (fun ae3 => (κ0 ae3).bind κ) := by
 unfold vw
 refine xn κ (fun i k => ?_) _ _
 unfold Zb
 first | rfl | (simp only [xa, xb, xe, xc, T.bind_assoc, xbB])
def wU : Pat := ⟨xu 52 0 [(0, .c (.raw (.ptr 0 0))), (10, .c (.int .i64)), (11, .c (.int .i64))], [some ⟨[.raw (.port), .geo, .int .u64], 150, false, none⟩]⟩
def wj : St -> (Ex -> St -> T R) -> Option (T R) := fun st K => match xx wT st with
 | some [.i a0, .i a1, .i a2, .i a3, .g g4, .i a5] => some (vw a0 a1 a2 g4 a3 a5 (fun ae3 => K (.exit 2) (xf wU [.i a1, .i a2, .g g4, .i ae3])))
 | _ => none
theorem xl4 : ∀ st K t, wj st K = some t -> xF xd (lf ka7 xd 1 (lsAt vi .no [1, 1, 0, 0, 1, 1, 0]) [1, 0, 0, 1, 1, 0, 0, 1, 1, 0] Tryz.f240 K) st = t := by
 intro st K t h
 unfold wj at h
 split at h
 ·rename_i a0 a1 a2 a3 g4 a5 hm
  cases h
  rw [xp hm]
  exact cast (by kernel_rfl) (xy (F := lf ka7 xd 1 (lsAt vi .no [1, 1, 0, 0, 1, 1, 0]) [1, 0, 0, 1, 1, 0, 0, 1, 1, 0] Tryz.f240 K) (S := fun i => xf wT [.i a0, .i a1, .i a2, .i (i.1), .g g4, .i (i.2)]) (B := Zb a0 a1 a2 g4 (fun ae3 => K (.exit 2) (xf wU [.i a1, .i a2, .g g4, .i ae3]))) (fun i k => by kernel_rfl) xd (a3, a5))
 ·cases h
def Zc {β : Type} (a0 : Int) (g2 : Geo) (κ0 : Int -> T β) (i : Int × Int) (k : Int × Int -> T β) : T β :=
 bif decide (i.1 < a0) then (vw (i.1) a0 (i.1) g2 (0) (i.2) (fun y1_0 =>
 k (i64.wrap (i.1 + 1), y1_0))) else
 κ0 (i.2)
def wk {β : Type} (a0 : Int) (g2 : Geo) (a1 a3 : Int) (κ0 : Int -> T β) : T β := xz xd (Zc a0 g2 κ0) (a1, a3)
theorem xbD {β γ : Type} (a0 : Int) (g2 : Geo) (a1 a3 : Int) (κ0 : Int -> T β) (κ : β -> T γ) : (wk a0 g2 a1 a3 κ0).bind κ = wk a0 g2 a1 a3 (fun ae1 => (κ0 ae1).bind κ) := by
 unfold wk
 refine xn κ (fun i k => ?_) _ _
 unfold Zc
 first | rfl | (simp only [xa, xb, xe, xc, T.bind_assoc, xbC])
def Kq : Pat := ⟨xu 52 0 [], [some ⟨[.raw (.port), .geo, .int .u64], 150, false, none⟩]⟩
def Zd : St -> (Ex -> St -> T R) -> Option (T R) := fun st K => match xx wU st with
 | some [.i a0, .i a1, .g g2, .i a3] => some (wk a0 g2 a1 a3 (fun ae1 => K (.exit 0) (xf Kq [.g g2, .i ae1])))
 | _ => none
theorem xl5 : ∀ st K t, Zd st K = some t -> xF xd (lf ka7 xd 1 (lsAt wj (lsAt vi .no [1, 1, 0, 0, 1, 1, 0]) [1, 1, 0, 0, 1, 1, 0]) [1, 0] Tryz.f240 K) st = t := by
 intro st K t h
 unfold Zd at h
 split at h
 ·rename_i a0 a1 g2 a3 hm
  cases h
  rw [xp hm]
  exact cast (by kernel_rfl) (xy (F := lf ka7 xd 1 (lsAt wj (lsAt vi .no [1, 1, 0, 0, 1, 1, 0]) [1, 1, 0, 0, 1, 1, 0]) [1, 0] Tryz.f240 K) (S := fun i => xf wU [.i a0, .i (i.1), .g g2, .i (i.2)]) (B := Zc a0 g2 (fun ae1 => K (.exit 0) (xf Kq [.g g2, .i ae1]))) (fun i k => by kernel_rfl) xd (a1, a3))
 ·cases h
def Kr {β : Type} (g : Geo) (o : Int) (κ : (Unit × Int) -> T β) : T β :=
 wk (g.threads) (g) (0) (o) (fun y0_0 =>
 κ ((), y0_0))
def Yn (g : Geo) (o : Int) : T (Unit × Int) := Kr g o .ret
theorem xi8 {β : Type} (g : Geo) (o : Int) (κ : (Unit × Int) -> T β) : (Yn g o).bind κ = Kr g o κ := by
 unfold Yn Kr
 first | rfl | (simp only [xa, xb, xe, xc, T.bind_assoc, xbD])
def Ks : Sm := fun args H => match args, H with
 | [.c .port, .agg gc], [] => (match xr gc with
   | some g => some (mkS (Unit) (xaS g) fun r => some (.tup [], []))
   | _ => none)
 | _, _ => none
theorem xl6 : Good Tryz.prog (xw ka7) xd 0 (lsAt Yh .no [1, 1, 0, 1, 0]) (Tryz.f126.body.getD .skip) (xC Tryz.f126.results.toList) := xL (xo (by kernel_rfl)) xK xoR
variable {σ : Type} {I : Port Tryz.prog σ}
theorem xeM (hl : SoundL I ka7) : SoundF I 126 Ks := by
 refine sq hl xd Tryz.func126 fun args H t ht => ?_
 unfold Ks at ht
 split at ht
 ·rename_i gc
  split at ht
  ·rename_i g hg
   obtain rfl := xi hg
   cases ht
   refine (xP (P := Tryz.prog) (n := xd) (x := (lsAt Yh .no [1, 1, 0, 1, 0])) (fn := Tryz.f126) (H := []) (c := Tryz.f126.body.getD .skip) (xo (by kernel_rfl)) xl6).symm.trans ?_
   refine Eq.trans ?_ (xlZ g _).symm
   kernel_rfl
  ·cases ht
 ·cases ht
def xoU : Sm := fun args H => match args, H with
 | [.c .port, .agg gc], [] => (match xr gc with
   | some g => some (mkS (Int) (acqT g) fun r => some (.c (.int .i64 r), []))
   | _ => none)
 | _, _ => none
theorem xrK : Good Tryz.prog (xw ka7) xd 0 (lsAt xcn .no [1, 1, 0]) (Tryz.f267.body.getD .skip) (xC Tryz.f267.results.toList) := xL (xo (by kernel_rfl)) xK xtk
theorem xtl (hl : SoundL I ka7) : SoundF I 267 xoU := by
 refine sq hl xd Tryz.func267 fun args H t ht => ?_
 unfold xoU at ht
 split at ht
 ·rename_i gc
  split at ht
  ·rename_i g hg
   obtain rfl := xi hg
   cases ht
   refine (xP (P := Tryz.prog) (n := xd) (x := (lsAt xcn .no [1, 1, 0])) (fn := Tryz.f267) (H := []) (c := Tryz.f267.body.getD .skip) (xo (by kernel_rfl)) xrK).symm.trans ?_
   refine Eq.trans ?_ (xrI g _).symm
   kernel_rfl
  ·cases ht
 ·cases ht
def xi9 : Sm := fun args H => match args, H with
 | [.c .port, .agg gc, .c (.int .i64 s), .c (.int .i64 a)], [] => (match xr gc with
   | some g => some (mkS (Ref) (xbs g s a) fun r => some (.agg r.cells, []))
   | _ => none)
 | _, _ => none
theorem xoV : Good Tryz.prog (xw ka7) xd 0 (lsAt Km .no [1, 1, 1, 0]) (Tryz.f285.body.getD .skip) (xC Tryz.f285.results.toList) := xL (xo (by kernel_rfl)) xK xrJ
theorem xrL (hl : SoundL I ka7) : SoundF I 285 xi9 := by
 refine sq hl xd Tryz.func285 fun args H t ht => ?_
 unfold xi9 at ht
 split at ht
 ·rename_i gc s a
  split at ht
  ·rename_i g hg
   obtain rfl := xi hg
   cases ht
   refine (xP (P := Tryz.prog) (n := xd) (x := (lsAt Km .no [1, 1, 1, 0])) (fn := Tryz.f285) (H := []) (c := Tryz.f285.body.getD .skip) (xo (by kernel_rfl)) xoV).symm.trans ?_
   refine Eq.trans ?_ (xoS g s a _).symm
   kernel_rfl
  ·cases ht
 ·cases ht
def xeN : Sm := fun args H => match args, H with
 | [.c .port, .agg gc, .c (.int .i64 s)], [] => (match xr gc with
   | some g => some (mkS (Unit) (WC g s) fun r => some (.tup [], []))
   | _ => none)
 | _, _ => none
theorem xoW (hl : SoundL I ka7) : SoundF I 287 xeN := by
 refine sq hl 1 Tryz.func287 fun args H t ht => ?_
 unfold xeN at ht
 split at ht
 ·rename_i gc s
  split at ht
  ·rename_i g hg
   obtain rfl := xi hg
   cases ht
   refine Eq.trans ?_ (xl1 g s _).symm
   kernel_rfl
  ·cases ht
 ·cases ht
def xaV : Sm := fun args H => match args, H with
 | [.c (.ptr 0 0), .c (.int .i64 c)], [some ⟨.port :: gc, 150, false, none⟩] => (match hdOf gc with
   | some (g, o) => some (mkS ((Fnd × Int)) (Yk g o c) fun r => some (.agg r.1.cells, [some ⟨.port :: (g.cells ++ [.int .u64 r.2]), 150, false, none⟩]))
   | _ => none)
 | _, _ => none
theorem xja : Good Tryz.prog (xw ka7) xd 1 (lsAt qY .no [1, 0, 1, 0]) (Tryz.f226.body.getD .skip) (xC Tryz.f226.results.toList) := xL (xo (by kernel_rfl)) xK xl2
theorem xl7 (hl : SoundL I ka7) : SoundF I 226 xaV := by
 refine sq hl xd Tryz.func226 fun args H t ht => ?_
 unfold xaV at ht
 split at ht
 ·rename_i c gc
  split at ht
  ·rename_i g o hg
   obtain rfl := yz hg
   cases ht
   refine (xP (P := Tryz.prog) (n := xd) (x := (lsAt qY .no [1, 0, 1, 0])) (fn := Tryz.f226) (H := [some ⟨.port :: (g.cells ++ [.int .u64 o]), 150, false, none⟩]) (c := Tryz.f226.body.getD .skip) (xo (by kernel_rfl)) xja).symm.trans ?_
   refine Eq.trans ?_ (xi4 g o c _).symm
   kernel_rfl
  ·cases ht
 ·cases ht
def WD : Sm := fun args H => match args, H with
 | [.c (.ptr 0 0)], [some ⟨.port :: gc, 150, false, none⟩] => (match hdOf gc with
   | some (g, o) => some (mkS ((Unit × Int)) (qe g o) fun r => some (.tup [], [some ⟨.port :: (g.cells ++ [.int .u64 r.2]), 150, false, none⟩]))
   | _ => none)
 | _, _ => none
theorem xfr : Good Tryz.prog (xw ka7) xd 1 (lsAt jl .no [1, 0]) (Tryz.f242.body.getD .skip) (xC Tryz.f242.results.toList) := xL (xo (by kernel_rfl)) xK xi5
theorem xjb (hl : SoundL I ka7) : SoundF I 242 WD := by
 refine sq hl xd Tryz.func242 fun args H t ht => ?_
 unfold WD at ht
 split at ht
 ·rename_i gc
  split at ht
  ·rename_i g o hg
   obtain rfl := yz hg
   cases ht
   refine (xP (P := Tryz.prog) (n := xd) (x := (lsAt jl .no [1, 0])) (fn := Tryz.f242) (H := [some ⟨.port :: (g.cells ++ [.int .u64 o]), 150, false, none⟩]) (c := Tryz.f242.body.getD .skip) (xo (by kernel_rfl)) xfr).symm.trans ?_
   refine Eq.trans ?_ (xfp g o _).symm
   kernel_rfl
  ·cases ht
 ·cases ht
def WE : Sm := fun args H => match args, H with
 | [.c (.ptr 0 0)], [some ⟨.port :: gc, 150, false, none⟩] => (match hdOf gc with
   | some (g, o) => some (mkS ((Unit × Int)) (qf g o) fun r => some (.tup [], [some ⟨.port :: (g.cells ++ [.int .u64 r.2]), 150, false, none⟩]))
   | _ => none)
 | _, _ => none
theorem xfs : Good Tryz.prog (xw ka7) xd 1 (lsAt jn .no [1, 0]) (Tryz.f243.body.getD .skip) (xC Tryz.f243.results.toList) := xL (xo (by kernel_rfl)) xK xi6
theorem xjc (hl : SoundL I ka7) : SoundF I 243 WE := by
 refine sq hl xd Tryz.func243 fun args H t ht => ?_
 unfold WE at ht
 split at ht
 ·rename_i gc
  split at ht
  ·rename_i g o hg
   obtain rfl := yz hg
   cases ht
   refine (xP (P := Tryz.prog) (n := xd) (x := (lsAt jn .no [1, 0])) (fn := Tryz.f243) (H := [some ⟨.port :: (g.cells ++ [.int .u64 o]), 150, false, none⟩]) (c := Tryz.f243.body.getD .skip) (xo (by kernel_rfl)) xfs).symm.trans ?_
   refine Eq.trans ?_ (xfq g o _).symm
   kernel_rfl
  ·cases ht
 ·cases ht
def Xa : Sm := fun args H => match args, H with
 | [.c (.ptr 0 0)], [some ⟨.port :: gc, 150, false, none⟩] => (match hdOf gc with
   | some (g, o) => some (mkS ((Unit × Int)) (qg g o) fun r => some (.tup [], [some ⟨.port :: (g.cells ++ [.int .u64 r.2]), 150, false, none⟩]))
   | _ => none)
 | _, _ => none
theorem xft (hl : SoundL I ka7) : SoundF I 87 Xa := by
 refine sq hl 1 Tryz.func87 fun args H t ht => ?_
 unfold Xa at ht
 split at ht
 ·rename_i gc
  split at ht
  ·rename_i g o hg
   obtain rfl := yz hg
   cases ht
   refine Eq.trans ?_ (xeK g o _).symm
   kernel_rfl
  ·cases ht
 ·cases ht
def xjd : Sm := fun args H => match args, H with
 | [.c (.ptr 0 0), .c (.int .i64 k), .c (.int .i64 a)], [some ⟨.port :: gc, 150, false, none⟩] => (match hdOf gc with
   | some (g, o) => some (mkS ((Fnd × Int)) (xeL g o k a) fun r => some (.agg r.1.cells, [some ⟨.port :: (g.cells ++ [.int .u64 r.2]), 150, false, none⟩]))
   | _ => none)
 | _, _ => none
theorem xrM (hl : SoundL I ka7) : SoundF I 162 xjd := by
 refine sq hl 1 Tryz.func162 fun args H t ht => ?_
 unfold xjd at ht
 split at ht
 ·rename_i k a gc
  split at ht
  ·rename_i g o hg
   obtain rfl := yz hg
   cases ht
   refine Eq.trans ?_ (xoT g o k a _).symm
   kernel_rfl
  ·cases ht
 ·cases ht
def xaW : Sm := fun args H => match args, H with
 | [.c (.ptr 0 0)], [some ⟨.port :: gc, 150, false, none⟩] => (match hdOf gc with
   | some (g, o) => some (mkS ((Unit × Int)) (Yn g o) fun r => some (.tup [], [some ⟨.port :: (g.cells ++ [.int .u64 r.2]), 150, false, none⟩]))
   | _ => none)
 | _, _ => none
theorem xje : Good Tryz.prog (xw ka7) xd 1 (lsAt Zd (lsAt wj (lsAt vi .no [1, 1, 0, 0, 1, 1, 0]) [1, 1, 0, 0, 1, 1, 0]) [1, 0]) (Tryz.f240.body.getD .skip) (xC Tryz.f240.results.toList) := xL (xo (by kernel_rfl)) (vu (p := [1, 0]) (q := [1, 1, 0, 0, 1, 1, 0]) (xo (fn := Tryz.f240) (by kernel_rfl)) (vu (p := [1, 0, 0, 1, 1, 0, 0, 1, 1, 0]) (q := [1, 1, 0, 0, 1, 1, 0]) (xo (fn := Tryz.f240) (by kernel_rfl)) xK xl3 (by kernel_rfl)) xl4 (by kernel_rfl)) xl5
theorem xl8 (hl : SoundL I ka7) : SoundF I 240 xaW := by
 refine sq hl xd Tryz.func240 fun args H t ht => ?_
 unfold xaW at ht
 split at ht
 ·rename_i gc
  split at ht
  ·rename_i g o hg
   obtain rfl := yz hg
   cases ht
   refine (xP (P := Tryz.prog) (n := xd) (x := (lsAt Zd (lsAt wj (lsAt vi .no [1, 1, 0, 0, 1, 1, 0]) [1, 1, 0, 0, 1, 1, 0]) [1, 0])) (fn := Tryz.f240) (H := [some ⟨.port :: (g.cells ++ [.int .u64 o]), 150, false, none⟩]) (c := Tryz.f240.body.getD .skip) (xo (by kernel_rfl)) xje).symm.trans ?_
   refine Eq.trans ?_ (xi8 g o _).symm
   kernel_rfl
  ·cases ht
 ·cases ht
def ka8 : List (Nat × Sm) := (126, Ks) :: (267, xoU) :: (285, xi9) :: (287, xeN) :: (226, xaV) :: (242, WD) :: (243, WE) :: (87, Xa) :: (162, xjd) :: (240, xaW) :: ka7
theorem s_ka8 : SoundL I ka8 := (.cons (xeM Zm) (.cons (xtl Zm) (.cons (xrL Zm) (.cons (xoW Zm) (.cons (xl7 Zm) (.cons (xjb Zm) (.cons (xjc Zm) (.cons (xft Zm) (.cons (xrM Zm) (.cons (xl8 Zm) Zm))))))))))
end Go.Proofs.YtaegelbaghaooaaGreat.Lx
