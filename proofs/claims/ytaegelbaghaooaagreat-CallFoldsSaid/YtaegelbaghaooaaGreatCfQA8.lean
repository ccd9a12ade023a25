/- Part. -/
import Derived.Test.YtaegelbaghaooaaGreatCfQA7
set_option linter.all false
open Go.IntKind (i64 u64 u32 u8)
namespace Go.Proofs.YtaegelbaghaooaaGreat.Lx
open Go
set_option maxRecDepth 1000000
def YN {β : Type} (g1 : Geo) (κ0 : Unit -> T β) (i : Int) (k : Int -> T β) : T β :=
 bif decide (i <= qR g1) then (bif i == qR g1 then (.op (.store (atF g1 17 (inF (i64.wrap (i - 1)) 0 1)) (0)) fun _ =>
 k (i64.wrap (i + 1))) else
 .op (.store (atF g1 17 (inF (i64.wrap (i - 1)) 0 1)) (Ref.word { idx := i64.wrap (i + 1), mark := false, ver := 0 })) fun _ =>
 k (i64.wrap (i + 1))) else
 κ0 ()
def ky {β : Type} (g1 : Geo) (a0 : Int) (κ0 : Unit -> T β) : T β := xr xa (YN g1 κ0) a0
theorem xf2 {β γ : Type} (g1 : Geo) (a0 : Int) (κ0 : Unit -> T β) (κ : β -> T γ) : (ky g1 a0 κ0).bind κ = ky g1 a0 (fun u => (κ0 u).bind κ) := by
 unfold ky
 refine xj κ (fun i k => ?_) _ _
 unfold YN
 first | rfl | simp only [bz]
def xf3 : Pat := ⟨xm 42 0 [(0, .c (.raw (.port))), (3, .c (.raw (.ptr 0 0))), (4, .c (.int .i64))], [some ⟨[.geo], 24, false, none⟩]⟩
def xcy : Pat := ⟨xm 42 0 [(0, .c (.raw (.port))), (3, .c (.raw (.ptr 0 0)))], [some ⟨[.geo], 24, false, none⟩]⟩
def YO : LF := fun st K => match xt xf3 st with
 | some [.i a0, .g g1] => some (ky g1 a0 (fun _ => K (.exit 0) (xc xcy [.g g1])))
 | _ => none
theorem xro : ∀ st K t, YO st K = some t -> xz xa (lf ka7 xa 0 .no [1, 1, 0, 1, 0] Tryz.f126 K) st = t := by
 intro st K t h
 unfold YO at h
 split at h
 ·rename_i a0 g1 hm
  cases h
  rw [xk hm]
  exact cast (by kernel_rfl) (xv (F := lf ka7 xa 0 .no [1, 1, 0, 1, 0] Tryz.f126 K) (S := fun i => xc xf3 [.i i, .g g1]) (B := YN g1 (fun _ => K (.exit 0) (xc xcy [.g g1]))) (fun i k => by kernel_rfl) xa a0)
 ·cases h
def xdD {β : Type} (g : Geo) (κ : Unit -> T β) : T β :=
 (wM g).bind fun r0 =>
 bif r0 then (κ ()) else
 ky (g) (1) (fun y2_0 =>
 .op (.store (atF g 4 0) (1)) fun _ =>
 κ ())
def Xs (g : Geo) : T Unit := xdD g .ret
theorem xoe {β : Type} (g : Geo) (κ : Unit -> T β) : (Xs g).bind κ = xdD g κ := by
 unfold Xs xdD
 first | rfl | simp only [bz, xf2]
def xdE {β : Type} (a0 : Int) (g1 : Geo) (κ0 : Unit -> T β) (κ1 : Int -> T β) (i : Unit) (k : Unit -> T β) : T β :=
 .op (.load (atF g1 4 0)) fun x0 =>
 bif ofW i64 x0 0 24 == 0 then (κ0 ()) else
 .op (.load (atF g1 17   (inF (i64.wrap (ofW i64 x0 0 24 - 1)) 0 1))) fun x2 =>
 .op (.cas (atF g1 4 0) x0 (Ref.word   { idx := ofW i64 x2 0 24, mark := false,     ver := u32.wrap (ofW u32 x0 32 32 + 1) })) fun b3 =>
 bif b3 then (κ1 (ofW i64 x0 0 24)) else
 k ()
def YP {β : Type} (a0 : Int) (g1 : Geo)  (κ0 : Unit -> T β) (κ1 : Int -> T β) : T β := xr xa (xdE a0 g1 κ0 κ1) ()
theorem xkR {β γ : Type} (a0 : Int) (g1 : Geo)  (κ0 : Unit -> T β) (κ1 : Int -> T β) (κ : β -> T γ) : (YP a0 g1  κ0 κ1).bind κ = YP a0 g1  (fun u => (κ0 u).bind κ) (fun ae0 => (κ1 ae0).bind κ) := by
 unfold YP
 refine xj κ (fun i k => ?_) _ _
 unfold xdE
 first | rfl | simp only [bz]
def xof : Pat := ⟨xm 52 0 [(0, .c (.raw (.port))), (3, .c (.raw (.ptr 0 0))), (4, .c (.int .i64))], [some ⟨[.geo], 24, false, none⟩]⟩
def YQ : Pat := ⟨xm 52 0 [(4, .c (.int .i64))], []⟩
def xdF : LF := fun st K => match xt xof st with
 | some [.i a0, .g g1] => some (YP a0 g1  (fun _ => K (.ret) (xc YQ [.i 0])) (fun ae0 => K (.ret) (xc YQ [.i ae0])))
 | _ => none
theorem xwv : ∀ st K t, xdF st K = some t -> xz xa (lf ka7 xa 0 .no [1, 1, 0] Tryz.f267 K) st = t := by
 intro st K t h
 unfold xdF at h
 split at h
 ·rename_i a0 g1 hm
  cases h
  rw [xk hm]
  exact cast (by kernel_rfl) (xv (F := lf ka7 xa 0 .no [1, 1, 0] Tryz.f267 K) (S := fun i => xc xof [.i a0, .g g1]) (B := xdE a0 g1 (fun _ => K (.ret) (xc YQ [.i 0])) (fun ae0 => K (.ret) (xc YQ [.i ae0]))) (fun i k => by kernel_rfl) xa ())
 ·cases h
def xsv {β : Type} (g : Geo) (κ : Int -> T β) : T β :=
 (wM g).bind fun r0 =>
 bif r0 then (κ (0)) else
 YP (0) (g) (fun y2_0 =>
 κ (0)) (fun y2_0 =>
 κ y2_0)
def acqT (g : Geo) : T Int := xsv g .ret
theorem xuE {β : Type} (g : Geo) (κ : Int -> T β) : (acqT g).bind κ = xsv g κ := by
 unfold acqT xsv
 first | rfl | simp only [bz, xkR]
def xam {β : Type} (a0 : Int) (g1 : Geo) (κ0 : Unit -> T β) (i : Unit) (k : Unit -> T β) : T β :=
 .op (.load (atF g1 4 0)) fun x0 =>
 .op (.store (atF g1 17 (inF (i64.wrap (a0 - 1)) 0 1)) (Ref.word { idx := ofW i64 x0 0 24, mark := false, ver := 0 })) fun _ =>
 .op (.cas (atF g1 4 0) x0 (Ref.word   { idx := a0, mark := false, ver := u32.wrap (ofW u32 x0 32 32 + 1) })) fun b2 =>
 bif b2 then (κ0 ()) else
 k ()
def qk {β : Type} (a0 : Int) (g1 : Geo)  (κ0 : Unit -> T β) : T β := xr xa (xam a0 g1 κ0) ()
theorem xgN {β γ : Type} (a0 : Int) (g1 : Geo)  (κ0 : Unit -> T β) (κ : β -> T γ) : (qk a0 g1  κ0).bind κ = qk a0 g1  (fun u => (κ0 u).bind κ) := by
 unfold qk
 refine xj κ (fun i k => ?_) _ _
 unfold xam
 first | rfl | simp only [bz]
def xio : Pat := ⟨xm 50 0 [(0, .c (.raw (.port))), (2, .c (.int .i64)), (4, .c (.raw (.ptr 0 0)))], [some ⟨[.geo], 24, false, none⟩]⟩
def xf4 : Pat := ⟨xm 50 0 [], []⟩
def xan : LF := fun st K => match xt xio st with
 | some [.i a0, .g g1] => some (qk a0 g1  (fun _ => K (.ret) (xc xf4 [])))
 | _ => none
theorem xuF : ∀ st K t, xan st K = some t -> xz xa (lf ka7 xa 0 .no [1, 1, 0] Tryz.f284 K) st = t := by
 intro st K t h
 unfold xan at h
 split at h
 ·rename_i a0 g1 hm
  cases h
  rw [xk hm]
  exact cast (by kernel_rfl) (xv (F := lf ka7 xa 0 .no [1, 1, 0] Tryz.f284 K) (S := fun i => xc xio [.i a0, .g g1]) (B := xam a0 g1 (fun _ => K (.ret) (xc xf4 []))) (fun i k => by kernel_rfl) xa ())
 ·cases h
def xkS {β : Type} (g : Geo) (n : Int) (κ : Unit -> T β) : T β :=
 (wO g (atF g 17 (inF (i64.wrap (n - 1)) 0 1))).bind fun r0 =>
 bif r0 then (κ ()) else
 qk (n) (g) (fun y2_0 =>
 κ ())
def xip (g : Geo) (n : Int) : T Unit := xkS g n .ret
theorem xrp {β : Type} (g : Geo) (n : Int) (κ : Unit -> T β) : (xip g n).bind κ = xkS g n κ := by
 unfold xip xkS
 first | rfl | simp only [bz, xgN]
def xao {β : Type} (a0 a1 : Int) (g3 : Geo) (a4 : Int) (b5 : Bool) (a6 : Int) (κ0 : Int -> Bool -> Int -> T β) (i : Int) (k : Int -> T β) : T β :=
 .op (.self ) fun x0 =>
 .op (.store (atF g3 14 (inF x0 a0 2)) (u64.wrap (ofW i64 i 0 24))) fun _ =>
 .op (.load a1) fun x2 =>
 bif x2 == i then (κ0 (ofW i64 i 0 24) (ofW i64 i 24 1 == 1) (ofW u32 i 32 32)) else
 k x2
def ql {β : Type} (a0 a1 : Int) (g3 : Geo) (a4 : Int) (b5 : Bool) (a6 a2 : Int) (κ0 : Int -> Bool -> Int -> T β) : T β := xr xa (xao a0 a1 g3 a4 b5 a6 κ0) a2
theorem xgO {β γ : Type} (a0 a1 : Int) (g3 : Geo) (a4 : Int) (b5 : Bool) (a6 a2 : Int) (κ0 : Int -> Bool -> Int -> T β) (κ : β -> T γ) : (ql a0 a1 g3 a4 b5 a6 a2 κ0).bind κ = ql a0 a1 g3 a4 b5 a6 a2 (fun ae0 be1 ae2 => (κ0 ae0 be1 ae2).bind κ) := by
 unfold ql
 refine xj κ (fun i k => ?_) _ _
 unfold xao
 first | rfl | simp only [bz]
def xiq : Pat := ⟨xm 62 0 [(0, .c (.raw (.port))), (2, .c (.int .i64)), (3, .c (.int .i64)), (5, .c (.raw (.ptr 0 0))), (8, .c (.raw (.ptr 1 0))), (9, .c (.int .u64))], [some ⟨[.geo], 24, false, none⟩, some ⟨[.int .i64, .bool, .int .u32], 162, false, none⟩]⟩
def xf5 : Pat := ⟨xm 62 0 [(8, .c (.raw (.ptr 1 0)))], [none, some ⟨[.int .i64, .bool, .int .u32], 162, false, none⟩]⟩
def xap : LF := fun st K => match xt xiq st with
 | some [.i a0, .i a1, .i a2, .g g3, .i a4, .b b5, .i a6] => some (ql a0 a1 g3 a4 b5 a6 a2 (fun ae0 be1 ae2 => K (.ret) (xc xf5 [.i ae0, .b be1, .i ae2])))
 | _ => none
theorem xuG : ∀ st K t, xap st K = some t -> xz xa (lf ka7 xa 0 .no [1, 1, 1, 0] Tryz.f285 K) st = t := by
 intro st K t h
 unfold xap at h
 split at h
 ·rename_i a0 a1 a2 g3 a4 b5 a6 hm
  cases h
  rw [xk hm]
  exact cast (by kernel_rfl) (xv (F := lf ka7 xa 0 .no [1, 1, 1, 0] Tryz.f285 K) (S := fun i => xc xiq [.i a0, .i a1, .i i, .g g3, .i a4, .b b5, .i a6]) (B := xao a0 a1 g3 a4 b5 a6 (fun ae0 be1 ae2 => K (.ret) (xc xf5 [.i ae0, .b be1, .i ae2]))) (fun i k => by kernel_rfl) xa a2)
 ·cases h
def xkT {β : Type} (g : Geo) (s a : Int) (κ : Ref -> T β) : T β :=
 .op (.self ) fun x0 =>
 (wO g (atF g 14 (inF x0 s 2))).bind fun r1 =>
 bif r1 then (κ ⟨(0), (false), (0)⟩) else
 bif decide (a < 0) then (κ ⟨(0), (false), (0)⟩) else
 bif decide (a >= g.b19) then (κ ⟨(0), (false), (0)⟩) else
 .op (.load (a)) fun x5 =>
 ql (s) (a) (g) (0) (false) (0) x5 (fun y6_0 y6_1 y6_2 =>
 κ ⟨(y6_0), y6_1, (y6_2)⟩)
def xcz (g : Geo) (s a : Int) : T Ref := xkT g s a .ret
theorem xrq {β : Type} (g : Geo) (s a : Int) (κ : Ref -> T β) : (xcz g s a).bind κ = xkT g s a κ := by
 unfold xcz xkT
 first | rfl | simp only [bz, xgO]
def xdG {β : Type} (g : Geo) (s : Int) (κ : Unit -> T β) : T β :=
 .op (.self ) fun x0 =>
 (wO g (atF g 14 (inF x0 s 2))).bind fun r1 =>
 bif !r1 then (.op (.self ) fun x3 =>
 .op (.store (atF g 14 (inF x3 s 2)) (0)) fun _ =>
 κ ()) else
 κ ()
def Vm (g : Geo) (s : Int) : T Unit := xdG g s .ret
theorem xog {β : Type} (g : Geo) (s : Int) (κ : Unit -> T β) : (Vm g s).bind κ = xdG g s κ := by
 unfold Vm xdG
 first | rfl | simp only [bz]
def Zm {β : Type} (a0 a1 : Int) (g3 : Geo) (a5 : Int) (b6 : Bool) (a7 : Int) (κ0 : Int -> Int -> T β) (κ1 : Int -> T β) (i : Int × Int) (k : Int × Int -> T β) : T β :=
 bif decide (i.1 < a1) then ((hofT g3 i.2 i.1 a0).bind fun r1 =>
 bif !r1.1 then (k (i64.wrap (i.1 + 1), r1.2)) else
 (isT g3 i.1 0).bind fun r3 =>
 bif !r3 then (k (i64.wrap (i.1 + 1), r1.2)) else
 .op (.load (atF g3 9 i.1)) fun x5 =>
 yh (i.1) g3 (i.1) x5 (fun y6_0 =>
 bif y6_0 != 0 then (.op (.load (atF g3 10 (i64.wrap (i64.wrap y6_0 - 1)))) fun x8 =>
 bif x8 !=   (0 :     POp.Ans       (POp.load         (atF           {             pages :=               g3.pages,             threads :=               g3.threads,             b0 :=               g3.b0,             b1 :=               g3.b1,             b2 :=               g3.b2,             b3 :=               g3.b3,             b4 :=               g3.b4,             b5 :=               g3.b5,             b6 :=               g3.b6,             b7 :=               g3.b7,             b8 :=               g3.b8,             b9 :=               g3.b9,             b10 :=               g3.b10,             b11 :=               g3.b11,             b12 :=               g3.b12,             b13 :=               g3.b13,             b14 :=               g3.b14,             b15 :=               g3.b15,             b16 :=               g3.b16,             b17 :=               g3.b17,             b18 :=               g3.b18,             b19 :=               g3.b19 }           10 (i64.wrap (i64.wrap y6_0 - 1))))) then (.op (.load (atF g3 10 (i64.wrap (i64.wrap x8 - 1)))) fun x10 =>
 bif x10 !=   (0 :     POp.Ans       (POp.load         (atF           {             pages :=               g3.pages,             threads :=               g3.threads,             b0 :=               g3.b0,             b1 :=               g3.b1,             b2 :=               g3.b2,             b3 :=               g3.b3,             b4 :=               g3.b4,             b5 :=               g3.b5,             b6 :=               g3.b6,             b7 :=               g3.b7,             b8 :=               g3.b8,             b9 :=               g3.b9,             b10 :=               g3.b10,             b11 :=               g3.b11,             b12 :=               g3.b12,             b13 :=               g3.b13,             b14 :=               g3.b14,             b15 :=               g3.b15,             b16 :=               g3.b16,             b17 :=               g3.b17,             b18 :=               g3.b18,             b19 :=               g3.b19 }           10 (i64.wrap (i64.wrap x8 - 1))))) then (.op (.load (atF g3 10 (i64.wrap (i64.wrap x10 - 1)))) fun x12 =>
 bif x12 !=   (0 :     POp.Ans       (POp.load         (atF           {             pages :=               g3.pages,             threads :=               g3.threads,             b0 :=               g3.b0,             b1 :=               g3.b1,             b2 :=               g3.b2,             b3 :=               g3.b3,             b4 :=               g3.b4,             b5 :=               g3.b5,             b6 :=               g3.b6,             b7 :=               g3.b7,             b8 :=               g3.b8,             b9 :=               g3.b9,             b10 :=               g3.b10,             b11 :=               g3.b11,             b12 :=               g3.b12,             b13 :=               g3.b13,             b14 :=               g3.b14,             b15 :=               g3.b15,             b16 :=               g3.b16,             b17 :=               g3.b17,             b18 :=               g3.b18,             b19 :=               g3.b19 }           10 (i64.wrap (i64.wrap x10 - 1))))) then (.op (.load (atF g3 10 (i64.wrap (i64.wrap x12 - 1)))) fun x14 =>
 bif x14 !=   (0 :     POp.Ans       (POp.load         (atF           {             pages :=               g3.pages,             threads :=               g3.threads,             b0 :=               g3.b0,             b1 :=               g3.b1,             b2 :=               g3.b2,             b3 :=               g3.b3,             b4 :=               g3.b4,             b5 :=               g3.b5,             b6 :=               g3.b6,             b7 :=               g3.b7,             b8 :=               g3.b8,             b9 :=               g3.b9,             b10 :=               g3.b10,             b11 :=               g3.b11,             b12 :=               g3.b12,             b13 :=               g3.b13,             b14 :=               g3.b14,             b15 :=               g3.b15,             b16 :=               g3.b16,             b17 :=               g3.b17,             b18 :=               g3.b18,             b19 :=               g3.b19 }           10 (i64.wrap (i64.wrap x12 - 1))))) then (.op (.load (atF g3 10 (i64.wrap (i64.wrap x14 - 1)))) fun x16 =>
 bif x16 !=   (0 :     POp.Ans       (POp.load         (atF           {             pages :=               g3.pages,             threads :=               g3.threads,             b0 :=               g3.b0,             b1 :=               g3.b1,             b2 :=               g3.b2,             b3 :=               g3.b3,             b4 :=               g3.b4,             b5 :=               g3.b5,             b6 :=               g3.b6,             b7 :=               g3.b7,             b8 :=               g3.b8,             b9 :=               g3.b9,             b10 :=               g3.b10,             b11 :=               g3.b11,             b12 :=               g3.b12,             b13 :=               g3.b13,             b14 :=               g3.b14,             b15 :=               g3.b15,             b16 :=               g3.b16,             b17 :=               g3.b17,             b18 :=               g3.b18,             b19 :=               g3.b19 }           10 (i64.wrap (i64.wrap x14 - 1))))) then (.op (.load (atF g3 10 (i64.wrap (i64.wrap x16 - 1)))) fun x18 =>
 bif x18 !=   (0 :     POp.Ans       (POp.load         (atF           {             pages :=               g3.pages,             threads :=               g3.threads,             b0 :=               g3.b0,             b1 :=               g3.b1,             b2 :=               g3.b2,             b3 :=               g3.b3,             b4 :=               g3.b4,             b5 :=               g3.b5,             b6 :=               g3.b6,             b7 :=               g3.b7,             b8 :=               g3.b8,             b9 :=               g3.b9,             b10 :=               g3.b10,             b11 :=               g3.b11,             b12 :=               g3.b12,             b13 :=               g3.b13,             b14 :=               g3.b14,             b15 :=               g3.b15,             b16 :=               g3.b16,             b17 :=               g3.b17,             b18 :=               g3.b18,             b19 :=               g3.b19 }           10 (i64.wrap (i64.wrap x16 - 1))))) then (.op (.load (atF g3 10 (i64.wrap (i64.wrap x18 - 1)))) fun x20 =>
 bif x20 !=   (0 :     POp.Ans       (POp.load         (atF           {             pages :=               g3.pages,             threads :=               g3.threads,             b0 :=               g3.b0,             b1 :=               g3.b1,             b2 :=               g3.b2,             b3 :=               g3.b3,             b4 :=               g3.b4,             b5 :=               g3.b5,             b6 :=               g3.b6,             b7 :=               g3.b7,             b8 :=               g3.b8,             b9 :=               g3.b9,             b10 :=               g3.b10,             b11 :=               g3.b11,             b12 :=               g3.b12,             b13 :=               g3.b13,             b14 :=               g3.b14,             b15 :=               g3.b15,             b16 :=               g3.b16,             b17 :=               g3.b17,             b18 :=               g3.b18,             b19 :=               g3.b19 }           10 (i64.wrap (i64.wrap x18 - 1))))) then (.op (.load (atF g3 10 (i64.wrap (i64.wrap x20 - 1)))) fun x22 =>
 bif x22 !=   (0 :     POp.Ans       (POp.load         (atF           {             pages :=               g3.pages,             threads :=               g3.threads,             b0 :=               g3.b0,             b1 :=               g3.b1,             b2 :=               g3.b2,             b3 :=               g3.b3,             b4 :=               g3.b4,             b5 :=               g3.b5,             b6 :=               g3.b6,             b7 :=               g3.b7,             b8 :=               g3.b8,             b9 :=               g3.b9,             b10 :=               g3.b10,             b11 :=               g3.b11,             b12 :=               g3.b12,             b13 :=               g3.b13,             b14 :=               g3.b14,             b15 :=               g3.b15,             b16 :=               g3.b16,             b17 :=               g3.b17,             b18 :=               g3.b18,             b19 :=               g3.b19 }           10 (i64.wrap (i64.wrap x20 - 1))))) then ((vQ g3 (i64.wrap (i64.wrap y6_0 - 1))).bind fun r24 =>
 bif r24.cls != a0 then ((xf g3 r1.2 (i64.wrap (i64.wrap y6_0 - 1))).bind fun r26 =>
 (xf g3 r26.2 (i64.wrap (i64.wrap x8 - 1))).bind fun r27 =>
 (xf g3 r27.2 (i64.wrap (i64.wrap x10 - 1))).bind fun r28 =>
 (xf g3 r28.2 (i64.wrap (i64.wrap x12 - 1))).bind fun r29 =>
 (xf g3 r29.2 (i64.wrap (i64.wrap x14 - 1))).bind fun r30 =>
 (xf g3 r30.2 (i64.wrap (i64.wrap x16 - 1))).bind fun r31 =>
 (xf g3 r31.2 (i64.wrap (i64.wrap x18 - 1))).bind fun r32 =>
 (xf g3 r32.2 (i64.wrap (i64.wrap x20 - 1))).bind fun r33 =>
 k (i64.wrap (i.1 + 1), r33.2)) else
 (xf g3 r1.2 (i64.wrap (i64.wrap x8 - 1))).bind fun r26 =>
 (xf g3 r26.2 (i64.wrap (i64.wrap x10 - 1))).bind fun r27 =>
 (xf g3 r27.2 (i64.wrap (i64.wrap x12 - 1))).bind fun r28 =>
 (xf g3 r28.2 (i64.wrap (i64.wrap x14 - 1))).bind fun r29 =>
 (xf g3 r29.2 (i64.wrap (i64.wrap x16 - 1))).bind fun r30 =>
 (xf g3 r30.2 (i64.wrap (i64.wrap x18 - 1))).bind fun r31 =>
 (xf g3 r31.2 (i64.wrap (i64.wrap x20 - 1))).bind fun r32 =>
 κ0 (r32.2) (i64.wrap (i64.wrap y6_0 - 1))) else
 (vQ g3 (i64.wrap (i64.wrap y6_0 - 1))).bind fun r24 =>
 bif r24.cls != a0 then ((xf g3 r1.2 (i64.wrap (i64.wrap y6_0 - 1))).bind fun r26 =>
 (xf g3 r26.2 (i64.wrap (i64.wrap x8 - 1))).bind fun r27 =>
 (xf g3 r27.2 (i64.wrap (i64.wrap x10 - 1))).bind fun r28 =>
 (xf g3 r28.2 (i64.wrap (i64.wrap x12 - 1))).bind fun r29 =>
 (xf g3 r29.2 (i64.wrap (i64.wrap x14 - 1))).bind fun r30 =>
 (xf g3 r30.2 (i64.wrap (i64.wrap x16 - 1))).bind fun r31 =>
 (xf g3 r31.2 (i64.wrap (i64.wrap x18 - 1))).bind fun r32 =>
 (xf g3 r32.2 (i64.wrap (i64.wrap x20 - 1))).bind fun r33 =>
 k (i64.wrap (i.1 + 1), r33.2)) else
 (xf g3 r1.2 (i64.wrap (i64.wrap x8 - 1))).bind fun r26 =>
 (xf g3 r26.2 (i64.wrap (i64.wrap x10 - 1))).bind fun r27 =>
 (xf g3 r27.2 (i64.wrap (i64.wrap x12 - 1))).bind fun r28 =>
 (xf g3 r28.2 (i64.wrap (i64.wrap x14 - 1))).bind fun r29 =>
 (xf g3 r29.2 (i64.wrap (i64.wrap x16 - 1))).bind fun r30 =>
 (xf g3 r30.2 (i64.wrap (i64.wrap x18 - 1))).bind fun r31 =>
 (xf g3 r31.2 (i64.wrap (i64.wrap x20 - 1))).bind fun r32 =>
 κ0 (r32.2) (i64.wrap (i64.wrap y6_0 - 1))) else
 (vQ g3 (i64.wrap (i64.wrap y6_0 - 1))).bind fun r22 =>
 bif r22.cls != a0 then ((xf g3 r1.2 (i64.wrap (i64.wrap y6_0 - 1))).bind fun r24 =>
 (xf g3 r24.2 (i64.wrap (i64.wrap x8 - 1))).bind fun r25 =>
 (xf g3 r25.2 (i64.wrap (i64.wrap x10 - 1))).bind fun r26 =>
 (xf g3 r26.2 (i64.wrap (i64.wrap x12 - 1))).bind fun r27 =>
 (xf g3 r27.2 (i64.wrap (i64.wrap x14 - 1))).bind fun r28 =>
 (xf g3 r28.2 (i64.wrap (i64.wrap x16 - 1))).bind fun r29 =>
 (xf g3 r29.2 (i64.wrap (i64.wrap x18 - 1))).bind fun r30 =>
 k (i64.wrap (i.1 + 1), r30.2)) else
 (xf g3 r1.2 (i64.wrap (i64.wrap x8 - 1))).bind fun r24 =>
 (xf g3 r24.2 (i64.wrap (i64.wrap x10 - 1))).bind fun r25 =>
 (xf g3 r25.2 (i64.wrap (i64.wrap x12 - 1))).bind fun r26 =>
 (xf g3 r26.2 (i64.wrap (i64.wrap x14 - 1))).bind fun r27 =>
 (xf g3 r27.2 (i64.wrap (i64.wrap x16 - 1))).bind fun r28 =>
 (xf g3 r28.2 (i64.wrap (i64.wrap x18 - 1))).bind fun r29 =>
 κ0 (r29.2) (i64.wrap (i64.wrap y6_0 - 1))) else
 (vQ g3 (i64.wrap (i64.wrap y6_0 - 1))).bind fun r20 =>
 bif r20.cls != a0 then ((xf g3 r1.2 (i64.wrap (i64.wrap y6_0 - 1))).bind fun r22 =>
 (xf g3 r22.2 (i64.wrap (i64.wrap x8 - 1))).bind fun r23 =>
 (xf g3 r23.2 (i64.wrap (i64.wrap x10 - 1))).bind fun r24 =>
 (xf g3 r24.2 (i64.wrap (i64.wrap x12 - 1))).bind fun r25 =>
 (xf g3 r25.2 (i64.wrap (i64.wrap x14 - 1))).bind fun r26 =>
 (xf g3 r26.2 (i64.wrap (i64.wrap x16 - 1))).bind fun r27 =>
 k (i64.wrap (i.1 + 1), r27.2)) else
 (xf g3 r1.2 (i64.wrap (i64.wrap x8 - 1))).bind fun r22 =>
 (xf g3 r22.2 (i64.wrap (i64.wrap x10 - 1))).bind fun r23 =>
 (xf g3 r23.2 (i64.wrap (i64.wrap x12 - 1))).bind fun r24 =>
 (xf g3 r24.2 (i64.wrap (i64.wrap x14 - 1))).bind fun r25 =>
 (xf g3 r25.2 (i64.wrap (i64.wrap x16 - 1))).bind fun r26 =>
 κ0 (r26.2) (i64.wrap (i64.wrap y6_0 - 1))) else
 (vQ g3 (i64.wrap (i64.wrap y6_0 - 1))).bind fun r18 =>
 bif r18.cls != a0 then ((xf g3 r1.2 (i64.wrap (i64.wrap y6_0 - 1))).bind fun r20 =>
 (xf g3 r20.2 (i64.wrap (i64.wrap x8 - 1))).bind fun r21 =>
 (xf g3 r21.2 (i64.wrap (i64.wrap x10 - 1))).bind fun r22 =>
 (xf g3 r22.2 (i64.wrap (i64.wrap x12 - 1))).bind fun r23 =>
 (xf g3 r23.2 (i64.wrap (i64.wrap x14 - 1))).bind fun r24 =>
 k (i64.wrap (i.1 + 1), r24.2)) else
 (xf g3 r1.2 (i64.wrap (i64.wrap x8 - 1))).bind fun r20 =>
 (xf g3 r20.2 (i64.wrap (i64.wrap x10 - 1))).bind fun r21 =>
 (xf g3 r21.2 (i64.wrap (i64.wrap x12 - 1))).bind fun r22 =>
 (xf g3 r22.2 (i64.wrap (i64.wrap x14 - 1))).bind fun r23 =>
 κ0 (r23.2) (i64.wrap (i64.wrap y6_0 - 1))) else
 (vQ g3 (i64.wrap (i64.wrap y6_0 - 1))).bind fun r16 =>
 bif r16.cls != a0 then ((xf g3 r1.2 (i64.wrap (i64.wrap y6_0 - 1))).bind fun r18 =>
 (xf g3 r18.2 (i64.wrap (i64.wrap x8 - 1))).bind fun r19 =>
 (xf g3 r19.2 (i64.wrap (i64.wrap x10 - 1))).bind fun r20 =>
 (xf g3 r20.2 (i64.wrap (i64.wrap x12 - 1))).bind fun r21 =>
 k (i64.wrap (i.1 + 1), r21.2)) else
 (xf g3 r1.2 (i64.wrap (i64.wrap x8 - 1))).bind fun r18 =>
 (xf g3 r18.2 (i64.wrap (i64.wrap x10 - 1))).bind fun r19 =>
 (xf g3 r19.2 (i64.wrap (i64.wrap x12 - 1))).bind fun r20 =>
 κ0 (r20.2) (i64.wrap (i64.wrap y6_0 - 1))) else
 (vQ g3 (i64.wrap (i64.wrap y6_0 - 1))).bind fun r14 =>
 bif r14.cls != a0 then ((xf g3 r1.2 (i64.wrap (i64.wrap y6_0 - 1))).bind fun r16 =>
 (xf g3 r16.2 (i64.wrap (i64.wrap x8 - 1))).bind fun r17 =>
 (xf g3 r17.2 (i64.wrap (i64.wrap x10 - 1))).bind fun r18 =>
 k (i64.wrap (i.1 + 1), r18.2)) else
 (xf g3 r1.2 (i64.wrap (i64.wrap x8 - 1))).bind fun r16 =>
 (xf g3 r16.2 (i64.wrap (i64.wrap x10 - 1))).bind fun r17 =>
 κ0 (r17.2) (i64.wrap (i64.wrap y6_0 - 1))) else
 (vQ g3 (i64.wrap (i64.wrap y6_0 - 1))).bind fun r12 =>
 bif r12.cls != a0 then ((xf g3 r1.2 (i64.wrap (i64.wrap y6_0 - 1))).bind fun r14 =>
 (xf g3 r14.2 (i64.wrap (i64.wrap x8 - 1))).bind fun r15 =>
 k (i64.wrap (i.1 + 1), r15.2)) else
 (xf g3 r1.2 (i64.wrap (i64.wrap x8 - 1))).bind fun r14 =>
 κ0 (r14.2) (i64.wrap (i64.wrap y6_0 - 1))) else
 (vQ g3 (i64.wrap (i64.wrap y6_0 - 1))).bind fun r10 =>
 bif r10.cls != a0 then ((xf g3 r1.2 (i64.wrap (i64.wrap y6_0 - 1))).bind fun r12 =>
 k (i64.wrap (i.1 + 1), r12.2)) else
 κ0 (r1.2) (i64.wrap (i64.wrap y6_0 - 1))) else
 k (i64.wrap (i.1 + 1), r1.2))) else
 κ1 (i.2)
def wh {β : Type} (a0 a1 : Int) (g3 : Geo) (a5 : Int) (b6 : Bool) (a7 a2 a4 : Int) (κ0 : Int -> Int -> T β) (κ1 : Int -> T β) : T β := xr xa (Zm a0 a1 g3 a5 b6 a7 κ0 κ1) (a2, a4)
theorem xcI {β γ : Type} (a0 a1 : Int) (g3 : Geo) (a5 : Int) (b6 : Bool) (a7 a2 a4 : Int) (κ0 : Int -> Int -> T β) (κ1 : Int -> T β) (κ : β -> T γ) : (wh a0 a1 g3 a5 b6 a7 a2 a4 κ0 κ1).bind κ = wh a0 a1 g3 a5 b6 a7 a2 a4 (fun ae1 ae2 => (κ0 ae1 ae2).bind κ) (fun ae1 => (κ1 ae1).bind κ) := by
 unfold wh
 refine xj κ (fun i k => ?_) _ _
 unfold Zm
 first | rfl | simp only [bz, kQ]
def xcA : Pat := ⟨xm 71 0 [(0, .c (.raw (.ptr 0 0))), (1, .c (.int .i64)), (4, .c (.raw (.ptr 1 0))), (14, .c (.int .i64)), (15, .c (.int .i64))], [some ⟨[.raw (.port), .geo, .int .u64], 150, false, none⟩, some ⟨[.int .i64, .bool, .int .i64], 221, false, none⟩]⟩
def wP : Pat := ⟨xm 71 0 [(4, .c (.raw (.ptr 1 0)))], [some ⟨[.raw (.port), .geo, .int .u64], 150, false, none⟩, some ⟨[.int .i64, .bool, .int .i64], 221, false, none⟩]⟩
def Zn : LF := fun st K => match xt xcA st with
 | some [.i a0, .i a1, .i a2, .g g3, .i a4, .i a5, .b b6, .i a7] => some (wh a0 a1 g3 a5 b6 a7 a2 a4 (fun ae1 ae2 => K (.ret) (xc wP [.g g3, .i ae1, .i ae2, .b true, .i 0])) (fun ae1 => K (.exit 0) (xc wP [.g g3, .i ae1, .i a5, .b b6, .i a7])))
 | _ => none
theorem xoh : ∀ st K t, Zn st K = some t -> xz xa (lf ka7 xa 1 .no [1, 0, 1, 0] Tryz.f226 K) st = t := by
 intro st K t h
 unfold Zn at h
 split at h
 ·rename_i a0 a1 a2 g3 a4 a5 b6 a7 hm
  cases h
  rw [xk hm]
  exact cast (by kernel_rfl) (xv (F := lf ka7 xa 1 .no [1, 0, 1, 0] Tryz.f226 K) (S := fun i => xc xcA [.i a0, .i a1, .i (i.1), .g g3, .i (i.2), .i a5, .b b6, .i a7]) (B := Zm a0 a1 g3 a5 b6 a7 (fun ae1 ae2 => K (.ret) (xc wP [.g g3, .i ae1, .i ae2, .b true, .i 0])) (fun ae1 => K (.exit 0) (xc wP [.g g3, .i ae1, .i a5, .b b6, .i a7]))) (fun i k => by kernel_rfl) xa (a2, a4))
 ·cases h
def xaq {β : Type} (g : Geo) (o c : Int) (κ : (Fnd × Int) -> T β) : T β :=
 wh (c) (g.pages) (g) (0) (false) (0) (0) (o) (fun y0_0 y0_1 =>
 κ (⟨(y0_1), (true), (0)⟩, y0_0)) (fun y0_0 =>
 κ (⟨(0), (false), (0)⟩, y0_0))
def YR (g : Geo) (o c : Int) : T (Fnd × Int) := xaq g o c .ret
theorem xkU {β : Type} (g : Geo) (o c : Int) (κ : (Fnd × Int) -> T β) : (YR g o c).bind κ = xaq g o c κ := by
 unfold YR xaq
 first | rfl | simp only [bz, xcI]
def jr {β : Type} (a0 : Int) (g2 : Geo) (κ0 : Int -> T β) (i : Int × Int) (k : Int × Int -> T β) : T β :=
 bif decide (i.1 < a0) then ((isT g2 i.1 0).bind fun r1 =>
 bif !r1 then (k (i64.wrap (i.1 + 1), i.2)) else
 .op (.load (atF g2 9 i.1)) fun x3 =>
 yh (i.1) g2 (i.1) x3 (fun y4_0 =>
 bif y4_0 != 0 then (.op (.load (atF g2 10 (i64.wrap (i64.wrap y4_0 - 1)))) fun x6 =>
 bif x6 !=   (0 :     POp.Ans       (POp.load         (atF           g2           10 (i64.wrap (i64.wrap y4_0 - 1))))) then (.op (.load (atF g2 10 (i64.wrap (i64.wrap x6 - 1)))) fun x8 =>
 bif x8 !=   (0 :     POp.Ans       (POp.load         (atF           g2           10 (i64.wrap (i64.wrap x6 - 1))))) then (.op (.load (atF g2 10 (i64.wrap (i64.wrap x8 - 1)))) fun x10 =>
 bif x10 !=   (0 :     POp.Ans       (POp.load         (atF           g2           10 (i64.wrap (i64.wrap x8 - 1))))) then (.op (.load (atF g2 10 (i64.wrap (i64.wrap x10 - 1)))) fun x12 =>
 bif x12 !=   (0 :     POp.Ans       (POp.load         (atF           g2           10 (i64.wrap (i64.wrap x10 - 1))))) then (.op (.load (atF g2 10 (i64.wrap (i64.wrap x12 - 1)))) fun x14 =>
 bif x14 !=   (0 :     POp.Ans       (POp.load         (atF           g2           10 (i64.wrap (i64.wrap x12 - 1))))) then (.op (.load (atF g2 10 (i64.wrap (i64.wrap x14 - 1)))) fun x16 =>
 bif x16 !=   (0 :     POp.Ans       (POp.load         (atF           g2           10 (i64.wrap (i64.wrap x14 - 1))))) then (.op (.load (atF g2 10 (i64.wrap (i64.wrap x16 - 1)))) fun x18 =>
 bif x18 !=   (0 :     POp.Ans       (POp.load         (atF           g2           10 (i64.wrap (i64.wrap x16 - 1))))) then (.op (.load (atF g2 10 (i64.wrap (i64.wrap x18 - 1)))) fun x20 =>
 bif x20 !=   (0 :     POp.Ans       (POp.load         (atF           g2           10 (i64.wrap (i64.wrap x18 - 1))))) then ((xf g2 i.2 (i64.wrap (i64.wrap y4_0 - 1))).bind fun r22 =>
 (xf g2 r22.2 (i64.wrap (i64.wrap x6 - 1))).bind fun r23 =>
 (xf g2 r23.2 (i64.wrap (i64.wrap x8 - 1))).bind fun r24 =>
 (xf g2 r24.2 (i64.wrap (i64.wrap x10 - 1))).bind fun r25 =>
 (xf g2 r25.2 (i64.wrap (i64.wrap x12 - 1))).bind fun r26 =>
 (xf g2 r26.2 (i64.wrap (i64.wrap x14 - 1))).bind fun r27 =>
 (xf g2 r27.2 (i64.wrap (i64.wrap x16 - 1))).bind fun r28 =>
 (xf g2 r28.2 (i64.wrap (i64.wrap x18 - 1))).bind fun r29 =>
 k (i64.wrap (i.1 + 1), r29.2)) else
 (xf g2 i.2 (i64.wrap (i64.wrap y4_0 - 1))).bind fun r22 =>
 (xf g2 r22.2 (i64.wrap (i64.wrap x6 - 1))).bind fun r23 =>
 (xf g2 r23.2 (i64.wrap (i64.wrap x8 - 1))).bind fun r24 =>
 (xf g2 r24.2 (i64.wrap (i64.wrap x10 - 1))).bind fun r25 =>
 (xf g2 r25.2 (i64.wrap (i64.wrap x12 - 1))).bind fun r26 =>
 (xf g2 r26.2 (i64.wrap (i64.wrap x14 - 1))).bind fun r27 =>
 (xf g2 r27.2 (i64.wrap (i64.wrap x16 - 1))).bind fun r28 =>
 (xf g2 r28.2 (i64.wrap (i64.wrap x18 - 1))).bind fun r29 =>
 k (i64.wrap (i.1 + 1), r29.2)) else
 (xf g2 i.2 (i64.wrap (i64.wrap y4_0 - 1))).bind fun r20 =>
 (xf g2 r20.2 (i64.wrap (i64.wrap x6 - 1))).bind fun r21 =>
 (xf g2 r21.2 (i64.wrap (i64.wrap x8 - 1))).bind fun r22 =>
 (xf g2 r22.2 (i64.wrap (i64.wrap x10 - 1))).bind fun r23 =>
 (xf g2 r23.2 (i64.wrap (i64.wrap x12 - 1))).bind fun r24 =>
 (xf g2 r24.2 (i64.wrap (i64.wrap x14 - 1))).bind fun r25 =>
 (xf g2 r25.2 (i64.wrap (i64.wrap x16 - 1))).bind fun r26 =>
 k (i64.wrap (i.1 + 1), r26.2)) else
 (xf g2 i.2 (i64.wrap (i64.wrap y4_0 - 1))).bind fun r18 =>
 (xf g2 r18.2 (i64.wrap (i64.wrap x6 - 1))).bind fun r19 =>
 (xf g2 r19.2 (i64.wrap (i64.wrap x8 - 1))).bind fun r20 =>
 (xf g2 r20.2 (i64.wrap (i64.wrap x10 - 1))).bind fun r21 =>
 (xf g2 r21.2 (i64.wrap (i64.wrap x12 - 1))).bind fun r22 =>
 (xf g2 r22.2 (i64.wrap (i64.wrap x14 - 1))).bind fun r23 =>
 k (i64.wrap (i.1 + 1), r23.2)) else
 (xf g2 i.2 (i64.wrap (i64.wrap y4_0 - 1))).bind fun r16 =>
 (xf g2 r16.2 (i64.wrap (i64.wrap x6 - 1))).bind fun r17 =>
 (xf g2 r17.2 (i64.wrap (i64.wrap x8 - 1))).bind fun r18 =>
 (xf g2 r18.2 (i64.wrap (i64.wrap x10 - 1))).bind fun r19 =>
 (xf g2 r19.2 (i64.wrap (i64.wrap x12 - 1))).bind fun r20 =>
 k (i64.wrap (i.1 + 1), r20.2)) else
 (xf g2 i.2 (i64.wrap (i64.wrap y4_0 - 1))).bind fun r14 =>
 (xf g2 r14.2 (i64.wrap (i64.wrap x6 - 1))).bind fun r15 =>
 (xf g2 r15.2 (i64.wrap (i64.wrap x8 - 1))).bind fun r16 =>
 (xf g2 r16.2 (i64.wrap (i64.wrap x10 - 1))).bind fun r17 =>
 k (i64.wrap (i.1 + 1), r17.2)) else
 (xf g2 i.2 (i64.wrap (i64.wrap y4_0 - 1))).bind fun r12 =>
 (xf g2 r12.2 (i64.wrap (i64.wrap x6 - 1))).bind fun r13 =>
 (xf g2 r13.2 (i64.wrap (i64.wrap x8 - 1))).bind fun r14 =>
 k (i64.wrap (i.1 + 1), r14.2)) else
 (xf g2 i.2 (i64.wrap (i64.wrap y4_0 - 1))).bind fun r10 =>
 (xf g2 r10.2 (i64.wrap (i64.wrap x6 - 1))).bind fun r11 =>
 k (i64.wrap (i.1 + 1), r11.2)) else
 (xf g2 i.2 (i64.wrap (i64.wrap y4_0 - 1))).bind fun r8 =>
 k (i64.wrap (i.1 + 1), r8.2)) else
 k (i64.wrap (i.1 + 1), i.2))) else
 κ0 (i.2)
def vv {β : Type} (a0 : Int) (g2 : Geo) (a1 a3 : Int) (κ0 : Int -> T β) : T β := xr xa (jr a0 g2 κ0) (a1, a3)
theorem xbQ {β γ : Type} (a0 : Int) (g2 : Geo) (a1 a3 : Int) (κ0 : Int -> T β) (κ : β -> T γ) : (vv a0 g2 a1 a3 κ0).bind κ = vv a0 g2 a1 a3 (fun ae1 => (κ0 ae1).bind κ) := by
 unfold vv
 refine xj κ (fun i k => ?_) _ _
 unfold jr
 first | rfl | simp only [bz, kQ]
def xar : Pat := ⟨xm 33 0 [(0, .c (.raw (.ptr 0 0))), (9, .c (.int .i64)), (10, .c (.int .i64))], [some ⟨[.raw (.port), .geo, .int .u64], 150, false, none⟩]⟩
def Wl : Pat := ⟨xm 33 0 [], [some ⟨[.raw (.port), .geo, .int .u64], 150, false, none⟩]⟩
def js : LF := fun st K => match xt xar st with
 | some [.i a0, .i a1, .g g2, .i a3] => some (vv a0 g2 a1 a3 (fun ae1 => K (.exit 0) (xc Wl [.g g2, .i ae1])))
 | _ => none
theorem xkV : ∀ st K t, js st K = some t -> xz xa (lf ka7 xa 1 .no [1, 0] Tryz.f242 K) st = t := by
 intro st K t h
 unfold js at h
 split at h
 ·rename_i a0 a1 g2 a3 hm
  cases h
  rw [xk hm]
  exact cast (by kernel_rfl) (xv (F := lf ka7 xa 1 .no [1, 0] Tryz.f242 K) (S := fun i => xc xar [.i a0, .i (i.1), .g g2, .i (i.2)]) (B := jr a0 g2 (fun ae1 => K (.exit 0) (xc Wl [.g g2, .i ae1]))) (fun i k => by kernel_rfl) xa (a1, a3))
 ·cases h
def YS {β : Type} (g : Geo) (o : Int) (κ : (Unit × Int) -> T β) : T β :=
 vv (g.pages) (g) (0) (o) (fun y0_0 =>
 κ ((), y0_0))
def qm (g : Geo) (o : Int) : T (Unit × Int) := YS g o .ret
theorem xgP {β : Type} (g : Geo) (o : Int) (κ : (Unit × Int) -> T β) : (qm g o).bind κ = YS g o κ := by
 unfold qm YS
 first | rfl | simp only [bz, xbQ]
def jt {β : Type} (a0 : Int) (g2 : Geo) (κ0 : Int -> T β) (i : Int × Int) (k : Int × Int -> T β) : T β :=
 bif decide (i.1 < a0) then (.op (.load (atF g2 8 i.1)) fun x1 =>
 bif decide (ofW i64 x1 8 3 > 0) then (bif decide   ((bif decide (ofW i64 x1 8 3 > 0) then       i64.wrap (ofW i64 x1 8 3 - 1)     else (0 : Int)) <     4) then (bif decide (0 <= (btOf x1).cls /\ (btOf x1).cls < 4) then ((xcs   { map := ofW u8 x1 0 8, has := decide (ofW i64 x1 8 3 > 0),     cls :=       bif decide (ofW i64 x1 8 3 > 0) then         i64.wrap (ofW i64 x1 8 3 - 1)       else (0 : Int),     ver := ofW u32 x1 32 32 }   (bif       (bif decide (ofW i64 x1 8 3 > 0) then           i64.wrap (ofW i64 x1 8 3 - 1)         else (0 : Int)) ==         0 then     8   else     bif         (bif decide (ofW i64 x1 8 3 > 0) then             i64.wrap (ofW i64 x1 8 3 - 1)           else (0 : Int)) ==           0 + 1 then       4     else       bif           (bif decide (ofW i64 x1 8 3 > 0) then               i64.wrap (ofW i64 x1 8 3 - 1)             else (0 : Int)) ==             0 + 1 + 1 then         2       else (2 : Int))).bind fun r5 =>
 bif r5 then ((kS g2 i.1).bind fun r7 =>
 bif r7 then ((yC g2 i.2 1).bind fun r9 =>
 k (i64.wrap (i.1 + 1), r9.2)) else
 k (i64.wrap (i.1 + 1), i.2)) else
 k (i64.wrap (i.1 + 1), i.2)) else
 .fail) else
 k (i64.wrap (i.1 + 1), i.2)) else
 k (i64.wrap (i.1 + 1), i.2)) else
 κ0 (i.2)
def vw {β : Type} (a0 : Int) (g2 : Geo) (a1 a3 : Int) (κ0 : Int -> T β) : T β := xr xa (jt a0 g2 κ0) (a1, a3)
theorem xbR {β γ : Type} (a0 : Int) (g2 : Geo) (a1 a3 : Int) (κ0 : Int -> T β) (κ : β -> T γ) : (vw a0 g2 a1 a3 κ0).bind κ = vw a0 g2 a1 a3 (fun ae1 => (κ0 ae1).bind κ) := by
 unfold vw
 refine xj κ (fun i k => ?_) _ _
 unfold jt
 first | rfl | simp only [bz]
def xas : Pat := ⟨xm 57 0 [(0, .c (.raw (.ptr 0 0))), (8, .c (.int .i64)), (9, .c (.int .i64))], [some ⟨[.raw (.port), .geo, .int .u64], 150, false, none⟩]⟩
def Wm : Pat := ⟨xm 57 0 [], [some ⟨[.raw (.port), .geo, .int .u64], 150, false, none⟩]⟩
def ju : LF := fun st K => match xt xas st with
 | some [.i a0, .i a1, .g g2, .i a3] => some (vw a0 g2 a1 a3 (fun ae1 => K (.exit 0) (xc Wm [.g g2, .i ae1])))
 | _ => none
theorem xkW : ∀ st K t, ju st K = some t -> xz xa (lf ka7 xa 1 .no [1, 0] Tryz.f243 K) st = t := by
 intro st K t h
 unfold ju at h
 split at h
 ·rename_i a0 a1 g2 a3 hm
  cases h
  rw [xk hm]
  exact cast (by kernel_rfl) (xv (F := lf ka7 xa 1 .no [1, 0] Tryz.f243 K) (S := fun i => xc xas [.i a0, .i (i.1), .g g2, .i (i.2)]) (B := jt a0 g2 (fun ae1 => K (.exit 0) (xc Wm [.g g2, .i ae1]))) (fun i k => by kernel_rfl) xa (a1, a3))
 ·cases h
def YT {β : Type} (g : Geo) (o : Int) (κ : (Unit × Int) -> T β) : T β :=
 vw (g.pages) (g) (0) (o) (fun y0_0 =>
 κ ((), y0_0))
def qn (g : Geo) (o : Int) : T (Unit × Int) := YT g o .ret
theorem xgQ {β : Type} (g : Geo) (o : Int) (κ : (Unit × Int) -> T β) : (qn g o).bind κ = YT g o κ := by
 unfold qn YT
 first | rfl | simp only [bz, xbR]
def Zo {β : Type} (g : Geo) (o : Int) (κ : (Unit × Int) -> T β) : T β :=
 (tryT g).bind fun r0 =>
 bif r0 then ((vk g).bind fun r2 =>
 (yC g o r2).bind fun r3 =>
 (Xm g).bind fun r4 =>
 κ ((), (r3.2))) else
 κ ((), (o))
def qo (g : Geo) (o : Int) : T (Unit × Int) := Zo g o .ret
theorem xf6 {β : Type} (g : Geo) (o : Int) (κ : (Unit × Int) -> T β) : (qo g o).bind κ = Zo g o κ := by
 unfold qo Zo
 first | rfl | simp only [bz]
def xkX {β : Type} (g : Geo) (o k a : Int) (κ : (Fnd × Int) -> T β) : T β :=
 (tryT g).bind fun r0 =>
 bif !r0 then (κ (⟨(0), (false), (5)⟩, (o))) else
 (vk g).bind fun r2 =>
 (yC g o r2).bind fun r3 =>
 (wL g k a).bind fun r4 =>
 (Xm g).bind fun r5 =>
 κ (⟨(i64.wrap (r4.1 * 8)), (r4.2), (0)⟩, (r3.2))
def xf7 (g : Geo) (o k a : Int) : T (Fnd × Int) := xkX g o k a .ret
theorem xrr {β : Type} (g : Geo) (o k a : Int) (κ : (Fnd × Int) -> T β) : (xf7 g o k a).bind κ = xkX g o k a κ := by
 unfold xf7 xkX
 first | rfl | simp only [bz]
def Zp {β : Type} (a0 a1 a4 a5 a6 : Int) (g7 : Geo) (κ0 : Int -> T β) (i : Int × Bool × Int) (k : Int × Bool × Int -> T β) : T β :=
 bif i.2.1 then ((xf g7 i.2.2 (i64.wrap (i64.wrap i.1 - 1))).bind fun r1 =>
 (Zf g7 a0 a1).bind fun r2 =>
 k (r2.1, r2.2, r1.2)) else
 κ0 (i.2.2)
def wi {β : Type} (a0 a1 a4 a5 a6 : Int) (g7 : Geo) (a2 : Int) (b3 : Bool) (a8 : Int) (κ0 : Int -> T β) : T β := xr xa (Zp a0 a1 a4 a5 a6 g7 κ0) (a2, b3, a8)
theorem xcJ {β γ : Type} (a0 a1 a4 a5 a6 : Int) (g7 : Geo) (a2 : Int) (b3 : Bool) (a8 : Int) (κ0 : Int -> T β) (κ : β -> T γ) : (wi a0 a1 a4 a5 a6 g7 a2 b3 a8 κ0).bind κ = wi a0 a1 a4 a5 a6 g7 a2 b3 a8 (fun ae5 => (κ0 ae5).bind κ) := by
 unfold wi
 refine xj κ (fun i k => ?_) _ _
 unfold Zp
 first | rfl | simp only [bz]
def xcB : Pat := ⟨xm 52 0 [(0, .c (.raw (.ptr 0 0))), (2, .c (.int .i64)), (3, .c (.int .i64)), (4, .c (.int .u64)), (5, .c (.bool)), (10, .c (.int .i64)), (11, .c (.int .i64)), (14, .c (.int .i64))], [some ⟨[.raw (.port), .geo, .int .u64], 150, false, none⟩]⟩
def wQ : Pat := ⟨xm 52 0 [(0, .c (.raw (.ptr 0 0))), (2, .c (.int .i64)), (10, .c (.int .i64)), (11, .c (.int .i64)), (14, .c (.int .i64))], [some ⟨[.raw (.port), .geo, .int .u64], 150, false, none⟩]⟩
def vb : LF := fun st K => match xt xcB st with
 | some [.i a0, .i a1, .i a2, .b b3, .i a4, .i a5, .i a6, .g g7, .i a8] => some (wi a0 a1 a4 a5 a6 g7 a2 b3 a8 (fun ae5 => K (.exit 4) (xc wQ [.i a0, .i a4, .i a5, .i a6, .g g7, .i ae5])))
 | _ => none
theorem xoi : ∀ st K t, vb st K = some t -> xz xa (lf ka7 xa 1 .no [1, 0, 0, 1, 1, 0, 0, 1, 1, 0, 0, 1, 1, 0, 0, 1, 1, 0] Tryz.f240 K) st = t := by
 intro st K t h
 unfold vb at h
 split at h
 ·rename_i a0 a1 a2 b3 a4 a5 a6 g7 a8 hm
  cases h
  rw [xk hm]
  exact cast (by kernel_rfl) (xv (F := lf ka7 xa 1 .no [1, 0, 0, 1, 1, 0, 0, 1, 1, 0, 0, 1, 1, 0, 0, 1, 1, 0] Tryz.f240 K) (S := fun i => xc xcB [.i a0, .i a1, .i (i.1), .b (i.2.1), .i a4, .i a5, .i a6, .g g7, .i (i.2.2)]) (B := Zp a0 a1 a4 a5 a6 g7 (fun ae5 => K (.exit 4) (xc wQ [.i a0, .i a4, .i a5, .i a6, .g g7, .i ae5]))) (fun i k => by kernel_rfl) xa (a2, b3, a8))
 ·cases h
def Zq {β : Type} (a0 a1 a2 : Int) (g4 : Geo) (κ0 : Int -> T β) (i : Int × Int) (k : Int × Int -> T β) : T β :=
 bif decide (i.1 < 4) then ((Zf g4 a0 i.1).bind fun r1 =>
 wi a0 (i.1) a1 a2 (i.1) g4 (r1.1) (r1.2) (i.2) (fun y2_0 =>
 k (i64.wrap (i.1 + 1), y2_0))) else
 κ0 (i.2)
def vn {β : Type} (a0 a1 a2 : Int) (g4 : Geo) (a3 a5 : Int) (κ0 : Int -> T β) : T β := xr xa (Zq a0 a1 a2 g4 κ0) (a3, a5)
theorem xcK {β γ : Type} (a0 a1 a2 : Int) (g4 : Geo) (a3 a5 : Int) (κ0 : Int -> T β) (κ : β -> T γ) : (vn a0 a1 a2 g4 a3 a5 κ0).bind κ = vn a0 a1 a2 g4 a3 a5 (fun ae3 => (κ0 ae3).bind κ) := by
 unfold vn
 refine xj κ (fun i k => ?_) _ _
 unfold Zq
 first | rfl | simp only [bz, xcJ]
def wR : Pat := ⟨xm 52 0 [(0, .c (.raw (.ptr 0 0))), (10, .c (.int .i64)), (11, .c (.int .i64))], [some ⟨[.raw (.port), .geo, .int .u64], 150, false, none⟩]⟩
def wj : LF := fun st K => match xt wQ st with
 | some [.i a0, .i a1, .i a2, .i a3, .g g4, .i a5] => some (vn a0 a1 a2 g4 a3 a5 (fun ae3 => K (.exit 2) (xc wR [.i a1, .i a2, .g g4, .i ae3])))
 | _ => none
theorem xoj : ∀ st K t, wj st K = some t -> xz xa (lf ka7 xa 1 (lsAt vb .no [1, 1, 0, 0, 1, 1, 0]) [1, 0, 0, 1, 1, 0, 0, 1, 1, 0] Tryz.f240 K) st = t := by
 intro st K t h
 unfold wj at h
 split at h
 ·rename_i a0 a1 a2 a3 g4 a5 hm
  cases h
  rw [xk hm]
  exact cast (by kernel_rfl) (xv (F := lf ka7 xa 1 (lsAt vb .no [1, 1, 0, 0, 1, 1, 0]) [1, 0, 0, 1, 1, 0, 0, 1, 1, 0] Tryz.f240 K) (S := fun i => xc wQ [.i a0, .i a1, .i a2, .i (i.1), .g g4, .i (i.2)]) (B := Zq a0 a1 a2 g4 (fun ae3 => K (.exit 2) (xc wR [.i a1, .i a2, .g g4, .i ae3]))) (fun i k => by kernel_rfl) xa (a3, a5))
 ·cases h
def Zs {β : Type} (a0 : Int) (g2 : Geo) (κ0 : Int -> T β) (i : Int × Int) (k : Int × Int -> T β) : T β :=
 bif decide (i.1 < a0) then (vn (i.1) a0 (i.1) g2 (0) (i.2) (fun y1_0 =>
 k (i64.wrap (i.1 + 1), y1_0))) else
 κ0 (i.2)
def wk {β : Type} (a0 : Int) (g2 : Geo) (a1 a3 : Int) (κ0 : Int -> T β) : T β := xr xa (Zs a0 g2 κ0) (a1, a3)
theorem xcL {β γ : Type} (a0 : Int) (g2 : Geo) (a1 a3 : Int) (κ0 : Int -> T β) (κ : β -> T γ) : (wk a0 g2 a1 a3 κ0).bind κ = wk a0 g2 a1 a3 (fun ae1 => (κ0 ae1).bind κ) := by
 unfold wk
 refine xj κ (fun i k => ?_) _ _
 unfold Zs
 first | rfl | simp only [bz, xcK]
def xat : Pat := ⟨xm 52 0 [], [some ⟨[.raw (.port), .geo, .int .u64], 150, false, none⟩]⟩
def Zt : LF := fun st K => match xt wR st with
 | some [.i a0, .i a1, .g g2, .i a3] => some (wk a0 g2 a1 a3 (fun ae1 => K (.exit 0) (xc xat [.g g2, .i ae1])))
 | _ => none
theorem xok : ∀ st K t, Zt st K = some t -> xz xa (lf ka7 xa 1 (lsAt wj (lsAt vb .no [1, 1, 0, 0, 1, 1, 0]) [1, 1, 0, 0, 1, 1, 0]) [1, 0] Tryz.f240 K) st = t := by
 intro st K t h
 unfold Zt at h
 split at h
 ·rename_i a0 a1 g2 a3 hm
  cases h
  rw [xk hm]
  exact cast (by kernel_rfl) (xv (F := lf ka7 xa 1 (lsAt wj (lsAt vb .no [1, 1, 0, 0, 1, 1, 0]) [1, 1, 0, 0, 1, 1, 0]) [1, 0] Tryz.f240 K) (S := fun i => xc wR [.i a0, .i (i.1), .g g2, .i (i.2)]) (B := Zs a0 g2 (fun ae1 => K (.exit 0) (xc xat [.g g2, .i ae1]))) (fun i k => by kernel_rfl) xa (a1, a3))
 ·cases h
def xau {β : Type} (g : Geo) (o : Int) (κ : (Unit × Int) -> T β) : T β :=
 wk (g.threads) (g) (0) (o) (fun y0_0 =>
 κ ((), y0_0))
def YU (g : Geo) (o : Int) : T (Unit × Int) := xau g o .ret
theorem xkY {β : Type} (g : Geo) (o : Int) (κ : (Unit × Int) -> T β) : (YU g o).bind κ = xau g o κ := by
 unfold YU xau
 first | rfl | simp only [bz, xcL]
def xav {β : Type} (g : Geo) (z : Int) (κ : Unit -> T β) : T β :=
 (Vi g 0 1 3 1 4 z).bind fun r0 =>
 κ ()
def YV (g : Geo) (z : Int) : T Unit := xav g z .ret
theorem xkZ {β : Type} (g : Geo) (z : Int) (κ : Unit -> T β) : (YV g z).bind κ = xav g z κ := by
 unfold YV xav
 first | rfl | simp only [bz]
def xaw {β : Type} (g : Geo) (z : Int) (κ : Unit -> T β) : T β :=
 (Vi g 1 1 3 (-1) 4 (i64.wrap (0 - z))).bind fun r0 =>
 κ ()
def YW (g : Geo) (z : Int) : T Unit := xaw g z .ret
theorem xk0 {β : Type} (g : Geo) (z : Int) (κ : Unit -> T β) : (YW g z).bind κ = xaw g z κ := by
 unfold YW xaw
 first | rfl | simp only [bz]
def YX {β : Type} (g : Geo) (κ : Unit -> T β) : T β :=
 (Vh g 2 1).bind fun r0 =>
 κ ()
def kT (g : Geo) : T Unit := YX g .ret
theorem xgR {β : Type} (g : Geo) (κ : Unit -> T β) : (kT g).bind κ = YX g κ := by
 unfold kT YX
 first | rfl | simp only [bz]
def Zu {β : Type} (g : Geo) (w z : Int) (κ : Unit -> T β) : T β :=
 (Vh g 4 (i64.wrap (z - w))).bind fun r0 =>
 κ ()
def kz (g : Geo) (w z : Int) : T Unit := Zu g w z .ret
theorem xf8 {β : Type} (g : Geo) (w z : Int) (κ : Unit -> T β) : (kz g w z).bind κ = Zu g w z κ := by
 unfold kz Zu
 first | rfl | simp only [bz]
def xax : Sm := fun
 | [.c .port, .agg gc], [] => (match xu gc with
   | some g => some (mkS (Unit) (Xs g) fun r => some (.tup [], []))
   | _ => none)
 | _, _ => none
theorem xol : Good Tryz.prog (xo ka7) xa 0 (lsAt YO .no [1, 1, 0, 1, 0]) (Tryz.f126.body.getD .skip) (xq Tryz.f126.results.toList) := xB (xi (by kernel_rfl)) xA xro
variable {σ : Type} {I : Port Tryz.prog σ}
theorem xf9 (hl : SoundL I ka7) : SoundF I 126 xax := by
 refine sq hl xa Tryz.func126 fun args H t ht => ?_
 unfold xax at ht
 split at ht
 ·rename_i gc
  split at ht
  ·rename_i g hg
   obtain rfl := xe hg
   cases ht
   refine (xE (P := Tryz.prog) (n := xa) (x := (lsAt YO .no [1, 1, 0, 1, 0])) (fn := Tryz.f126) (H := []) (c := Tryz.f126.body.getD .skip) (xi (by kernel_rfl)) xol).symm.trans ?_
   refine Eq.trans ?_ (xoe g _).symm
   kernel_rfl
  ·cases ht
 ·cases ht
def xrs : Sm := fun
 | [.c .port, .agg gc], [] => (match xu gc with
   | some g => some (mkS (Int) (acqT g) fun r => some (.c (.int .i64 r), []))
   | _ => none)
 | _, _ => none
theorem xuH : Good Tryz.prog (xo ka7) xa 0 (lsAt xdF .no [1, 1, 0]) (Tryz.f267.body.getD .skip) (xq Tryz.f267.results.toList) := xB (xi (by kernel_rfl)) xA xwv
theorem xww (hl : SoundL I ka7) : SoundF I 267 xrs := by
 refine sq hl xa Tryz.func267 fun args H t ht => ?_
 unfold xrs at ht
 split at ht
 ·rename_i gc
  split at ht
  ·rename_i g hg
   obtain rfl := xe hg
   cases ht
   refine (xE (P := Tryz.prog) (n := xa) (x := (lsAt xdF .no [1, 1, 0])) (fn := Tryz.f267) (H := []) (c := Tryz.f267.body.getD .skip) (xi (by kernel_rfl)) xuH).symm.trans ?_
   refine Eq.trans ?_ (xuE g _).symm
   kernel_rfl
  ·cases ht
 ·cases ht
def xk1 : Sm := fun
 | [.c .port, .agg gc, .c (.int .i64 n)], [] => (match xu gc with
   | some g => some (mkS (Unit) (xip g n) fun r => some (.tup [], []))
   | _ => none)
 | _, _ => none
theorem xrt : Good Tryz.prog (xo ka7) xa 0 (lsAt xan .no [1, 1, 0]) (Tryz.f284.body.getD .skip) (xq Tryz.f284.results.toList) := xB (xi (by kernel_rfl)) xA xuF
theorem xuI (hl : SoundL I ka7) : SoundF I 284 xk1 := by
 refine sq hl xa Tryz.func284 fun args H t ht => ?_
 unfold xk1 at ht
 split at ht
 ·rename_i gc n
  split at ht
  ·rename_i g hg
   obtain rfl := xe hg
   cases ht
   refine (xE (P := Tryz.prog) (n := xa) (x := (lsAt xan .no [1, 1, 0])) (fn := Tryz.f284) (H := []) (c := Tryz.f284.body.getD .skip) (xi (by kernel_rfl)) xrt).symm.trans ?_
   refine Eq.trans ?_ (xrp g n _).symm
   kernel_rfl
  ·cases ht
 ·cases ht
def xk2 : Sm := fun
 | [.c .port, .agg gc, .c (.int .i64 s), .c (.int .i64 a)], [] => (match xu gc with
   | some g => some (mkS (Ref) (xcz g s a) fun r => some (.agg r.cells, []))
   | _ => none)
 | _, _ => none
theorem xru : Good Tryz.prog (xo ka7) xa 0 (lsAt xap .no [1, 1, 1, 0]) (Tryz.f285.body.getD .skip) (xq Tryz.f285.results.toList) := xB (xi (by kernel_rfl)) xA xuG
theorem xuJ (hl : SoundL I ka7) : SoundF I 285 xk2 := by
 refine sq hl xa Tryz.func285 fun args H t ht => ?_
 unfold xk2 at ht
 split at ht
 ·rename_i gc s a
  split at ht
  ·rename_i g hg
   obtain rfl := xe hg
   cases ht
   refine (xE (P := Tryz.prog) (n := xa) (x := (lsAt xap .no [1, 1, 1, 0])) (fn := Tryz.f285) (H := []) (c := Tryz.f285.body.getD .skip) (xi (by kernel_rfl)) xru).symm.trans ?_
   refine Eq.trans ?_ (xrq g s a _).symm
   kernel_rfl
  ·cases ht
 ·cases ht
def xom : Sm := gS fun
 | g, [.c (.int .i64 s)] => some (mkS (Unit) (Vm g s) fun r => some (.tup [], []))
 | _, _ => none
theorem xrv (hl : SoundL I ka7) : SoundF I 287 xom := by
 refine gsq hl 1 Tryz.func287 fun g l t ht => ?_
 split at ht
 ·rename_i s
  cases ht
  refine Eq.trans ?_ (xog g s _).symm
  kernel_rfl
 ·cases ht
def xbS : Sm := fun
 | [.c (.ptr 0 0), .c (.int .i64 c)], [some ⟨.port :: gc, 150, false, none⟩] => (match hdOf gc with
   | some (g, o) => some (mkS ((Fnd × Int)) (YR g o c) fun r => some (.agg r.1.cells, [some ⟨.port :: (g.cells ++ [.int .u64 r.2]), 150, false, none⟩]))
   | _ => none)
 | _, _ => none
theorem xk3 : Good Tryz.prog (xo ka7) xa 1 (lsAt Zn .no [1, 0, 1, 0]) (Tryz.f226.body.getD .skip) (xq Tryz.f226.results.toList) := xB (xi (by kernel_rfl)) xA xoh
theorem xon (hl : SoundL I ka7) : SoundF I 226 xbS := by
 refine sq hl xa Tryz.func226 fun args H t ht => ?_
 unfold xbS at ht
 split at ht
 ·rename_i c gc
  split at ht
  ·rename_i g o hg
   obtain rfl := yt hg
   cases ht
   refine (xE (P := Tryz.prog) (n := xa) (x := (lsAt Zn .no [1, 0, 1, 0])) (fn := Tryz.f226) (H := [some ⟨.port :: (g.cells ++ [.int .u64 o]), 150, false, none⟩]) (c := Tryz.f226.body.getD .skip) (xi (by kernel_rfl)) xk3).symm.trans ?_
   refine Eq.trans ?_ (xkU g o c _).symm
   kernel_rfl
  ·cases ht
 ·cases ht
def Vn : Sm := fun
 | [.c (.ptr 0 0)], [some ⟨.port :: gc, 150, false, none⟩] => (match hdOf gc with
   | some (g, o) => some (mkS ((Unit × Int)) (qm g o) fun r => some (.tup [], [some ⟨.port :: (g.cells ++ [.int .u64 r.2]), 150, false, none⟩]))
   | _ => none)
 | _, _ => none
theorem xgS : Good Tryz.prog (xo ka7) xa 1 (lsAt js .no [1, 0]) (Tryz.f242.body.getD .skip) (xq Tryz.f242.results.toList) := xB (xi (by kernel_rfl)) xA xkV
theorem xk4 (hl : SoundL I ka7) : SoundF I 242 Vn := by
 refine sq hl xa Tryz.func242 fun args H t ht => ?_
 unfold Vn at ht
 split at ht
 ·rename_i gc
  split at ht
  ·rename_i g o hg
   obtain rfl := yt hg
   cases ht
   refine (xE (P := Tryz.prog) (n := xa) (x := (lsAt js .no [1, 0])) (fn := Tryz.f242) (H := [some ⟨.port :: (g.cells ++ [.int .u64 o]), 150, false, none⟩]) (c := Tryz.f242.body.getD .skip) (xi (by kernel_rfl)) xgS).symm.trans ?_
   refine Eq.trans ?_ (xgP g o _).symm
   kernel_rfl
  ·cases ht
 ·cases ht
def Vo : Sm := fun
 | [.c (.ptr 0 0)], [some ⟨.port :: gc, 150, false, none⟩] => (match hdOf gc with
   | some (g, o) => some (mkS ((Unit × Int)) (qn g o) fun r => some (.tup [], [some ⟨.port :: (g.cells ++ [.int .u64 r.2]), 150, false, none⟩]))
   | _ => none)
 | _, _ => none
theorem xgT : Good Tryz.prog (xo ka7) xa 1 (lsAt ju .no [1, 0]) (Tryz.f243.body.getD .skip) (xq Tryz.f243.results.toList) := xB (xi (by kernel_rfl)) xA xkW
theorem xk5 (hl : SoundL I ka7) : SoundF I 243 Vo := by
 refine sq hl xa Tryz.func243 fun args H t ht => ?_
 unfold Vo at ht
 split at ht
 ·rename_i gc
  split at ht
  ·rename_i g o hg
   obtain rfl := yt hg
   cases ht
   refine (xE (P := Tryz.prog) (n := xa) (x := (lsAt ju .no [1, 0])) (fn := Tryz.f243) (H := [some ⟨.port :: (g.cells ++ [.int .u64 o]), 150, false, none⟩]) (c := Tryz.f243.body.getD .skip) (xi (by kernel_rfl)) xgT).symm.trans ?_
   refine Eq.trans ?_ (xgQ g o _).symm
   kernel_rfl
  ·cases ht
 ·cases ht
def Xt : Sm := fun
 | [.c (.ptr 0 0)], [some ⟨.port :: gc, 150, false, none⟩] => (match hdOf gc with
   | some (g, o) => some (mkS ((Unit × Int)) (qo g o) fun r => some (.tup [], [some ⟨.port :: (g.cells ++ [.int .u64 r.2]), 150, false, none⟩]))
   | _ => none)
 | _, _ => none
theorem xgU (hl : SoundL I ka7) : SoundF I 87 Xt := by
 refine sq hl 1 Tryz.func87 fun args H t ht => ?_
 unfold Xt at ht
 split at ht
 ·rename_i gc
  split at ht
  ·rename_i g o hg
   obtain rfl := yt hg
   cases ht
   refine Eq.trans ?_ (xf6 g o _).symm
   kernel_rfl
  ·cases ht
 ·cases ht
def xk6 : Sm := fun
 | [.c (.ptr 0 0), .c (.int .i64 k), .c (.int .i64 a)], [some ⟨.port :: gc, 150, false, none⟩] => (match hdOf gc with
   | some (g, o) => some (mkS ((Fnd × Int)) (xf7 g o k a) fun r => some (.agg r.1.cells, [some ⟨.port :: (g.cells ++ [.int .u64 r.2]), 150, false, none⟩]))
   | _ => none)
 | _, _ => none
theorem xuK (hl : SoundL I ka7) : SoundF I 162 xk6 := by
 refine sq hl 1 Tryz.func162 fun args H t ht => ?_
 unfold xk6 at ht
 split at ht
 ·rename_i k a gc
  split at ht
  ·rename_i g o hg
   obtain rfl := yt hg
   cases ht
   refine Eq.trans ?_ (xrr g o k a _).symm
   kernel_rfl
  ·cases ht
 ·cases ht
def xbT : Sm := fun
 | [.c (.ptr 0 0)], [some ⟨.port :: gc, 150, false, none⟩] => (match hdOf gc with
   | some (g, o) => some (mkS ((Unit × Int)) (YU g o) fun r => some (.tup [], [some ⟨.port :: (g.cells ++ [.int .u64 r.2]), 150, false, none⟩]))
   | _ => none)
 | _, _ => none
theorem xk7 : Good Tryz.prog (xo ka7) xa 1 (lsAt Zt (lsAt wj (lsAt vb .no [1, 1, 0, 0, 1, 1, 0]) [1, 1, 0, 0, 1, 1, 0]) [1, 0]) (Tryz.f240.body.getD .skip) (xq Tryz.f240.results.toList) := xB (xi (by kernel_rfl)) (qQ (p := [1, 0]) (q := [1, 1, 0, 0, 1, 1, 0]) (xi (fn := Tryz.f240) (by kernel_rfl)) (qQ (p := [1, 0, 0, 1, 1, 0, 0, 1, 1, 0]) (q := [1, 1, 0, 0, 1, 1, 0]) (xi (fn := Tryz.f240) (by kernel_rfl)) xA xoi (by kernel_rfl)) xoj (by kernel_rfl)) xok
theorem xoo (hl : SoundL I ka7) : SoundF I 240 xbT := by
 refine sq hl xa Tryz.func240 fun args H t ht => ?_
 unfold xbT at ht
 split at ht
 ·rename_i gc
  split at ht
  ·rename_i g o hg
   obtain rfl := yt hg
   cases ht
   refine (xE (P := Tryz.prog) (n := xa) (x := (lsAt Zt (lsAt wj (lsAt vb .no [1, 1, 0, 0, 1, 1, 0]) [1, 1, 0, 0, 1, 1, 0]) [1, 0])) (fn := Tryz.f240) (H := [some ⟨.port :: (g.cells ++ [.int .u64 o]), 150, false, none⟩]) (c := Tryz.f240.body.getD .skip) (xi (by kernel_rfl)) xk7).symm.trans ?_
   refine Eq.trans ?_ (xkY g o _).symm
   kernel_rfl
  ·cases ht
 ·cases ht
def xir : Sm := gS fun
 | g, [.c (.int .i64 z)] => some (mkS (Unit) (YV g z) fun r => some (.tup [], []))
 | _, _ => none
theorem xop (hl : SoundL I ka7) : SoundF I 203 xir := by
 refine gsq hl 1 Tryz.func203 fun g l t ht => ?_
 split at ht
 ·rename_i z
  cases ht
  refine Eq.trans ?_ (xkZ g z _).symm
  kernel_rfl
 ·cases ht
def xis : Sm := gS fun
 | g, [.c (.int .i64 z)] => some (mkS (Unit) (YW g z) fun r => some (.tup [], []))
 | _, _ => none
theorem xoq (hl : SoundL I ka7) : SoundF I 206 xis := by
 refine gsq hl 1 Tryz.func206 fun g l t ht => ?_
 split at ht
 ·rename_i z
  cases ht
  refine Eq.trans ?_ (xk0 g z _).symm
  kernel_rfl
 ·cases ht
def xga : Sm := gS fun
 | g, [] => some (mkS (Unit) (kT g) fun r => some (.tup [], []))
 | _, _ => none
theorem xk8 (hl : SoundL I ka7) : SoundF I 204 xga := by
 refine gsq hl 1 Tryz.func204 fun g l t ht => ?_
 split at ht
 ·cases ht
  refine Eq.trans ?_ (xgR g _).symm
  kernel_rfl
 ·cases ht
def xcC : Sm := gS fun
 | g, [.c (.int .i64 w), .c (.int .i64 z)] => some (mkS (Unit) (kz g w z) fun r => some (.tup [], []))
 | _, _ => none
theorem xgV (hl : SoundL I ka7) : SoundF I 205 xcC := by
 refine gsq hl 1 Tryz.func205 fun g l t ht => ?_
 split at ht
 ·rename_i w z
  cases ht
  refine Eq.trans ?_ (xf8 g w z _).symm
  kernel_rfl
 ·cases ht
def ka8 : List (Nat × Sm) := (126, xax) :: (267, xrs) :: (284, xk1) :: (285, xk2) :: (287, xom) :: (226, xbS) :: (242, Vn) :: (243, Vo) :: (87, Xt) :: (162, xk6) :: (240, xbT) :: (203, xir) :: (206, xis) :: (204, xga) :: (205, xcC) :: ka7
theorem s_ka8 : SoundL I ka8 := (.cons (xf9 ww) (.cons (xww ww) (.cons (xuI ww) (.cons (xuJ ww) (.cons (xrv ww) (.cons (xon ww) (.cons (xk4 ww) (.cons (xk5 ww) (.cons (xgU ww) (.cons (xuK ww) (.cons (xoo ww) (.cons (xop ww) (.cons (xoq ww) (.cons (xk8 ww) (.cons (xgV ww) ww)))))))))))))))
end Go.Proofs.YtaegelbaghaooaaGreat.Lx
