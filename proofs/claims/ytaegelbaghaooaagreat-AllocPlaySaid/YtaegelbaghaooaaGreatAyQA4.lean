/- Summaries: loops. (trees printed by program, wip/auto.py) -/
import Derived.Test.YtaegelbaghaooaaGreatAyM3
import Derived.Test.YtaegelbaghaooaaGreatAyQOf
import Derived.WalkKit
set_option linter.unusedSimpArgs false
set_option linter.unusedVariables false
set_option linter.unusedSectionVars false
namespace Go.Proofs.YtaegelbaghaooaaGreat.Lx
open Go
set_option maxRecDepth 1000000

def ja {β : Type} (a0 a1 : Int) (b2 : Bool) (g4 : Geo) (κ0 : Int → T β) (κ1 : Unit → T β) (i : Int) (k : Int → T β) : T β :=
 bif decide (i < 8) then (.op (.load (atF g4 18 (inF (IntKind.i64.wrap (a0 - 1)) i 8))) fun x1 =>
 bif x1 != 0 then (.op (.cas (atF g4 18 (inF (IntKind.i64.wrap (a0 - 1)) i 8)) (x1) (0)) fun b3 =>
 bif b3 then (κ0 (x1)) else
 k (IntKind.i64.wrap (i + 1))) else
 k (IntKind.i64.wrap (i + 1))) else
 κ1 ()
def vG {β : Type} (a0 a1 : Int) (b2 : Bool) (g4 : Geo) (a3 : Int) (κ0 : Int → T β) (κ1 : Unit → T β) : T β := xA xd (ja a0 a1 b2 g4 κ0 κ1) (a3)
theorem xaz {β γ : Type} (a0 a1 : Int) (b2 : Bool) (g4 : Geo) (a3 : Int) (κ0 : Int → T β) (κ1 : Unit → T β) (κ : β → T γ) : (vG a0 a1 b2 g4 a3 κ0 κ1).bind κ = vG a0 a1 b2 g4 a3 (fun ae0 => (κ0 ae0).bind κ) (fun u => (κ1 u).bind κ) := by
 unfold vG
 refine xp κ (fun i k => ?_) _ _
 unfold ja
 first | rfl | (simp only [xa, xb, xe, xc, T.bind_assoc])
def VX : Pat := ⟨xr 38 0 [(0, .c (.raw (.port))), (2, .c (.int .i64)), (4, .c (.raw (.ptr 0 0))), (6, .c (.int .u64)), (7, .c (.bool)), (10, .c (.int .i64))], [some ⟨[.geo], 24, false, none⟩]⟩
def wu : Pat := ⟨xr 38 0 [(6, .c (.int .u64)), (7, .c (.bool))], []⟩
def jb : St → (Ex → St → T R) → Option (T R) := fun st K => match xy VX st with
 | some [.i a0, .i a1, .b b2, .i a3, .g g4] => some (vG a0 a1 b2 g4 a3 (fun ae0 => K (.ret) (xf wu [.i ae0, .b true])) (fun _ => K (.exit 0) (xf wu [.i a1, .b b2])))
 | _ => none
theorem xiq : ∀ st K t, jb st K = some t → xK xd (lf ka3b xd 0 .no [1, 0, 1, 0] Tryz.f286 K) st = t := by
 intro st K t h
 unfold jb at h
 split at h
 ·rename_i a0 a1 b2 a3 g4 hm
  cases h
  rw [xn hm]
  exact xB (S := fun i => xf VX [.i a0, .i a1, .b b2, .i i, .g g4]) (B := ja a0 a1 b2 g4 (fun ae0 => K (.ret) (xf wu [.i ae0, .b true])) (fun _ => K (.exit 0) (xf wu [.i a1, .b b2]))) (fun i k => by kernel_rfl) xd (a3)
 ·cases h
def XK {β : Type} (g : Geo) (nd : Int) (κ : (Int × Bool) → T β) : T β :=
 vG (nd) (0) (false) (g) (0) (fun y0_0 =>
 κ ((y0_0), (true))) (fun y0_0 =>
 κ ((0), (false)))
def kJ (g : Geo) (nd : Int) : T (Int × Bool) := XK g nd .ret
theorem xff {β : Type} (g : Geo) (nd : Int) (κ : (Int × Bool) → T β) : (kJ g nd).bind κ = XK g nd κ := by
 unfold kJ XK
 first | rfl | (simp only [xa, xb, xe, xc, T.bind_assoc, xaz])
def VY {β : Type} (g : Geo) (n : Int) (l : Bool) (κ : Unit → T β) : T β :=
 bif l then ((logT n).bind fun r1 =>
 .op (.add (atF g 3 r1) (18446744073709551615)) fun x2 =>
 κ ()) else
 (logT n).bind fun r1 =>
 .op (.add (atF g 3 r1) (1)) fun x2 =>
 κ ()
def vW (g : Geo) (n : Int) (l : Bool) : T Unit := VY g n l .ret
theorem xir {β : Type} (g : Geo) (n : Int) (l : Bool) (κ : Unit → T β) : (vW g n l).bind κ = VY g n l κ := by
 unfold vW VY
 first | rfl | (simp only [xa, xb, xe, xc, T.bind_assoc])
def xb6 {β : Type} (b0 : Bool) (g2 : Geo) (κ0 : Unit → T β) (κ1 : Unit → T β) (i : Int) (k : Int → T β) : T β :=
 bif decide (i < 9) then (.op (.load (atF g2 3 i)) fun x1 =>
 bif x1 != 0 then (κ0 ()) else
 k (IntKind.i64.wrap (i + 1))) else
 κ1 ()
def XL {β : Type} (b0 : Bool) (g2 : Geo) (a1 : Int) (κ0 : Unit → T β) (κ1 : Unit → T β) : T β := xA xd (xb6 b0 g2 κ0 κ1) (a1)
theorem xis {β γ : Type} (b0 : Bool) (g2 : Geo) (a1 : Int) (κ0 : Unit → T β) (κ1 : Unit → T β) (κ : β → T γ) : (XL b0 g2 a1 κ0 κ1).bind κ = XL b0 g2 a1 (fun u => (κ0 u).bind κ) (fun u => (κ1 u).bind κ) := by
 unfold XL
 refine xp κ (fun i k => ?_) _ _
 unfold xb6
 first | rfl | (simp only [xa, xb, xe, xc, T.bind_assoc])
def xla : Pat := ⟨xr 22 0 [(2, .c (.raw (.ptr 0 0))), (4, .c (.bool)), (5, .c (.int .i64))], [some ⟨[.raw (.port), .geo], 212, false, none⟩]⟩
def XM : Pat := ⟨xr 22 0 [(4, .c (.bool))], []⟩
def xb7 : St → (Ex → St → T R) → Option (T R) := fun st K => match xy xla st with
 | some [.b b0, .i a1, .g g2] => some (XL b0 g2 a1 (fun _ => K (.ret) (xf XM [.b true])) (fun _ => K (.exit 0) (xf XM [.b b0])))
 | _ => none
theorem xto : ∀ st K t, xb7 st K = some t → xK xd (lf ka3b xd 0 .no [1, 0, 1, 0] Tryz.f281 K) st = t := by
 intro st K t h
 unfold xb7 at h
 split at h
 ·rename_i b0 a1 g2 hm
  cases h
  rw [xn hm]
  exact xB (S := fun i => xf xla [.b b0, .i i, .g g2]) (B := xb6 b0 g2 (fun _ => K (.ret) (xf XM [.b true])) (fun _ => K (.exit 0) (xf XM [.b b0]))) (fun i k => by kernel_rfl) xd (a1)
 ·cases h
def xpF {β : Type} (g : Geo) (k : Int) (κ : Bool → T β) : T β :=
 (logT k).bind fun r0 =>
 XL (false) (g) (r0) (fun y1_0 =>
 κ (true)) (fun y1_0 =>
 κ (false))
def anyT (g : Geo) (k : Int) : T Bool := xpF g k .ret
theorem xrv {β : Type} (g : Geo) (k : Int) (κ : Bool → T β) : (anyT g k).bind κ = xpF g k κ := by
 unfold anyT xpF
 first | rfl | (simp only [xa, xb, xe, xc, T.bind_assoc, xis])
def xd0 {β : Type} (c o : Int) (κ : (Int × Bool) → T β) : T β :=
 bif decide (c < 0) then (κ ((0), (false))) else
 bif decide (c ≥ 4) then (κ ((0), (false))) else
 bif decide (o < 0) then (κ ((0), (false))) else
 bif decide (0 ≤ c ∧ c < 4) then (bif bif (bif c == 0 then (8 : Int) else bif c == 1 then (16 : Int) else bif c == 2 then (24 : Int) else (32 : Int)) == 0 then false else true then (bif bif (bif c == 0 then (8 : Int) else bif c == 1 then (16 : Int) else bif c == 2 then (24 : Int) else (32 : Int)) == 0 then false else true then (bif Int.tmod o (bif c == 0 then (8 : Int) else bif c == 1 then (16 : Int) else bif c == 2 then (24 : Int) else (32 : Int)) == 0 then (bif decide (IntKind.i64.wrap (Int.tdiv o (bif c == 0 then (8 : Int) else bif c == 1 then (16 : Int) else bif c == 2 then (24 : Int) else (32 : Int))) < bif c == 0 then (8 : Int) else bif c == 1 then (4 : Int) else bif c == 2 then (2 : Int) else (2 : Int)) then (κ ((IntKind.i64.wrap (Int.tdiv o (bif c == 0 then (8 : Int) else bif c == 1 then (16 : Int) else bif c == 2 then (24 : Int) else (32 : Int)))), (true))) else
 κ ((0), (false))) else
 κ ((0), (false))) else
 .fail) else
 .fail) else
 .fail
def XN (c o : Int) : T (Int × Bool) := xd0 c o .ret
theorem xit {β : Type} (c o : Int) (κ : (Int × Bool) → T β) : (XN c o).bind κ = xd0 c o κ := by
 unfold XN xd0
 first | rfl | (simp only [xa, xb, xe, xc, T.bind_assoc])
def xnY {β : Type} (g : Geo) (p k : Int) (κ : Int → T β) : T β :=
 (isT g p k).bind fun r0 =>
 bif !r0 then (κ (-1)) else
 bif decide (0 ≤ k ∧ k < 4) then (.op (.self ) fun x3 =>
 .op (.store (atF g 7 p) (Pg.word (Pg.mk 3 1 k x3))) fun _ =>
 (YA g p).bind fun r5 =>
 (xb4 (Cls.mk (bif k == 0 then (8 : Int) else bif k == 0 + 1 then (16 : Int) else bif k == 0 + 1 + 1 then (24 : Int) else (32 : Int)) (bif k == 0 then (8 : Int) else bif k == 0 + 1 then (16 : Int) else bif k == 0 + 1 + 1 then (8 : Int) else (32 : Int)) (bif k == 0 then (8 : Int) else bif k == 0 + 1 then (4 : Int) else bif k == 0 + 1 + 1 then (2 : Int) else (2 : Int)))).bind fun r6 =>
 .op (.store (atF g 8 p) (Bt.word (Bt.mk (bits BinOp.andNot IntKind.u8 r6 1) true k (IntKind.u32.wrap (r5.ver + 1))))) fun _ =>
 κ (IntKind.i64.wrap (IntKind.i64.wrap (p * 8) + IntKind.i64.wrap (Int.tdiv (IntKind.i64.wrap (0 * bif k == 0 then (8 : Int) else bif k == 1 then (16 : Int) else bif k == 2 then (24 : Int) else (32 : Int))) 8)))) else
 .fail
def xgE (g : Geo) (p k : Int) : T Int := xnY g p k .ret
theorem xnZ {β : Type} (g : Geo) (p k : Int) (κ : Int → T β) : (xgE g p k).bind κ = xnY g p k κ := by
 unfold xgE xnY
 first | rfl | (simp only [xa, xb, xe, xc, T.bind_assoc])
def XO {β : Type} (a0 a1 : Int) (b2 : Bool) (g3 : Geo) (a4 : Int) (κ0 : Unit → T β) (κ1 : Int → T β) (i : Unit) (k : Unit → T β) : T β :=
 (isT g3 a4 a0).bind fun r0 =>
 bif r0 then ((YA g3 a4).bind fun r2 =>
 (firstT { map := r2.map, has := r2.has, cls := r2.cls, ver := r2.ver }).bind fun r3 =>
 bif !r2.has then (κ0 ()) else
 bif r2.cls != a0 then (κ0 ()) else
 bif decide (r3 < 0) then (κ0 ()) else
 bif bif decide (r3 < 0) then false else true then ((ZU g3 a4 { map := r2.map, has := r2.has, cls := r2.cls, ver := r2.ver }   {     map :=       bits BinOp.andNot IntKind.u8 r2.map         (IntKind.u8.wrap           (1 * 2 ^ if Int.toNat r3 ≤ nat_lit 8 then Int.toNat r3 else nat_lit 8)),     has := r2.has, cls := r2.cls, ver := r2.ver }).bind fun r8 =>
 bif r8 then (bif decide (0 ≤ a0 ∧ a0 < 4) then (κ1 (IntKind.i64.wrap   (IntKind.i64.wrap (a4 * 8) +     IntKind.i64.wrap       (Int.tdiv         (IntKind.i64.wrap           (r3 *             bif a0 == 0 then (8 : Int)             else bif a0 == 1 then (16 : Int) else bif a0 == 2 then (24 : Int) else (32 : Int)))         8)))) else
 .fail) else
 k ()) else
 .fail) else
 κ0 ()
def ki {β : Type} (a0 a1 : Int) (b2 : Bool) (g3 : Geo) (a4 : Int)  (κ0 : Unit → T β) (κ1 : Int → T β) : T β := xA xd (XO a0 a1 b2 g3 a4 κ0 κ1) ()
theorem xd1 {β γ : Type} (a0 a1 : Int) (b2 : Bool) (g3 : Geo) (a4 : Int)  (κ0 : Unit → T β) (κ1 : Int → T β) (κ : β → T γ) : (ki a0 a1 b2 g3 a4  κ0 κ1).bind κ = ki a0 a1 b2 g3 a4  (fun u => (κ0 u).bind κ) (fun ae0 => (κ1 ae0).bind κ) := by
 unfold ki
 refine xp κ (fun i k => ?_) _ _
 unfold XO
 first | rfl | (simp only [xa, xb, xe, xc, T.bind_assoc])
def xd2 : Pat := ⟨xr 56 0 [(3, .c (.int .i64)), (8, .c (.int .i64)), (9, .c (.bool)), (10, .c (.raw (.ptr 1 0)))], [none, some ⟨[.raw (.port), .geo, .int .i64], 234, false, none⟩]⟩
def jc : Pat := ⟨xr 56 0 [(8, .c (.int .i64)), (9, .c (.bool))], []⟩
def XP : St → (Ex → St → T R) → Option (T R) := fun st K => match xy xd2 st with
 | some [.i a0, .i a1, .b b2, .g g3, .i a4] => some (ki a0 a1 b2 g3 a4  (fun _ => K (.exit 0) (xf jc [.i a1, .b b2])) (fun ae0 => K (.ret) (xf jc [.i ae0, .b true])))
 | _ => none
theorem xn0 : ∀ st K t, XP st K = some t → xK xd (lf ka3b xd 0 .no [1, 1, 0, 0] Tryz.f261 K) st = t := by
 intro st K t h
 unfold XP at h
 split at h
 ·rename_i a0 a1 b2 g3 a4 hm
  cases h
  rw [xn hm]
  exact xB (S := fun i => xf xd2 [.i a0, .i a1, .b b2, .g g3, .i a4]) (B := XO a0 a1 b2 g3 a4 (fun _ => K (.exit 0) (xf jc [.i a1, .b b2])) (fun ae0 => K (.ret) (xf jc [.i ae0, .b true]))) (fun i k => by kernel_rfl) xd ()
 ·cases h
def xb8 {β : Type} (g : Geo) (p k : Int) (κ : (Int × Bool) → T β) : T β :=
 ki (k) (0) (false) (g) (p) (fun y0_0 =>
 κ ((0), (false))) (fun y0_0 =>
 κ ((y0_0), (true)))
def xaA (g : Geo) (p k : Int) : T (Int × Bool) := xb8 g p k .ret
theorem xlb {β : Type} (g : Geo) (p k : Int) (κ : (Int × Bool) → T β) : (xaA g p k).bind κ = xb8 g p k κ := by
 unfold xaA xb8
 first | rfl | (simp only [xa, xb, xe, xc, T.bind_assoc, xd1])
def VZ {β : Type} (a0 : Int) (b1 b2 : Bool) (g3 : Geo) (a4 : Int) (κ0 : Unit → T β) (κ1 : Unit → T β) (i : Unit) (k : Unit → T β) : T β :=
 bif b2 then (.op (.load (atF g3 9 a4)) fun x1 =>
 .op (.store (atF g3 10 a0) (x1)) fun _ =>
 .op (.cas (atF g3 9 a4) (x1) (IntKind.u64.wrap (IntKind.u64.wrap a0 + 1))) fun b3 =>
 bif b3 then (κ0 ()) else
 k ()) else
 κ1 ()
def jU {β : Type} (a0 : Int) (b1 b2 : Bool) (g3 : Geo) (a4 : Int)  (κ0 : Unit → T β) (κ1 : Unit → T β) : T β := xA xd (VZ a0 b1 b2 g3 a4 κ0 κ1) ()
theorem xfg {β γ : Type} (a0 : Int) (b1 b2 : Bool) (g3 : Geo) (a4 : Int)  (κ0 : Unit → T β) (κ1 : Unit → T β) (κ : β → T γ) : (jU a0 b1 b2 g3 a4  κ0 κ1).bind κ = jU a0 b1 b2 g3 a4  (fun u => (κ0 u).bind κ) (fun u => (κ1 u).bind κ) := by
 unfold jU
 refine xp κ (fun i k => ?_) _ _
 unfold VZ
 first | rfl | (simp only [xa, xb, xe, xc, T.bind_assoc])
def xgF : Pat := ⟨xr 60 0 [(2, .c (.int .i64)), (6, .c (.bool)), (7, .c (.raw (.ptr 1 0))), (9, .c (.bool))], [none, some ⟨[.raw (.port), .geo, .int .i64], 234, false, none⟩]⟩
def qU : Pat := ⟨xr 60 0 [(6, .c (.bool))], []⟩
def Ka : St → (Ex → St → T R) → Option (T R) := fun st K => match xy xgF st with
 | some [.i a0, .b b1, .b b2, .g g3, .i a4] => some (jU a0 b1 b2 g3 a4  (fun _ => K (.ret) (xf qU [.b true])) (fun _ => K (.exit 0) (xf qU [.b b1])))
 | _ => none
theorem xrw : ∀ st K t, Ka st K = some t → xK xd (lf ka3b xd 0 .no [1, 1, 0, 0] Tryz.f88 K) st = t := by
 intro st K t h
 unfold Ka at h
 split at h
 ·rename_i a0 b1 b2 g3 a4 hm
  cases h
  rw [xn hm]
  exact xB (S := fun i => xf xgF [.i a0, .b b1, .b b2, .g g3, .i a4]) (B := VZ a0 b1 b2 g3 a4 (fun _ => K (.ret) (xf qU [.b true])) (fun _ => K (.exit 0) (xf qU [.b b1]))) (fun i k => by kernel_rfl) xd ()
 ·cases h
def xiu {β : Type} (g : Geo) (k : Int) (κ : Bool → T β) : T β :=
 bif decide (k < 0) then (κ (false)) else
 bif decide (k ≥ IntKind.i64.wrap (g.pages * 8)) then (κ (false)) else
 jU (k) (false) (true) (g) (IntKind.i64.wrap (Int.tdiv k 8)) (fun y2_0 =>
 κ (true)) (fun y2_0 =>
 κ (false))
def xgG (g : Geo) (k : Int) : T Bool := xiu g k .ret
theorem xn1 {β : Type} (g : Geo) (k : Int) (κ : Bool → T β) : (xgG g k).bind κ = xiu g k κ := by
 unfold xgG xiu
 first | rfl | (simp only [xa, xb, xe, xc, T.bind_assoc, xfg])
def xiv {β : Type} (g : Geo) (k : Int) (κ : Pg → T β) : T β :=
 bif decide (k < 0) then (κ ⟨(0), (0), (0), (0)⟩) else
 bif decide (k ≥ IntKind.i64.wrap (g.pages * 8)) then (κ ⟨(0), (0), (0), (0)⟩) else
 .op (.load (atF g 7 (IntKind.i64.wrap (Int.tdiv k 8)))) fun x2 =>
 κ ⟨(if (IntKind.signed IntKind.i64 && decide (bits BinOp.and IntKind.u64 (Int.fdiv x2 1) 7 % 18446744073709551616 ≥ 9223372036854775808)) = true then bits BinOp.and IntKind.u64 (Int.fdiv x2 1) 7 % 18446744073709551616 - 18446744073709551616 else bits BinOp.and IntKind.u64 (Int.fdiv x2 1) 7 % 18446744073709551616), (if (IntKind.signed IntKind.i64 && decide (bits BinOp.and IntKind.u64 (Int.fdiv x2 8) 1023 % 18446744073709551616 ≥ 9223372036854775808)) = true then bits BinOp.and IntKind.u64 (Int.fdiv x2 8) 1023 % 18446744073709551616 - 18446744073709551616 else bits BinOp.and IntKind.u64 (Int.fdiv x2 8) 1023 % 18446744073709551616), (if (IntKind.signed IntKind.i64 && decide (bits BinOp.and IntKind.u64 (Int.fdiv x2 8192) 3 % 18446744073709551616 ≥ 9223372036854775808)) = true then bits BinOp.and IntKind.u64 (Int.fdiv x2 8192) 3 % 18446744073709551616 - 18446744073709551616 else bits BinOp.and IntKind.u64 (Int.fdiv x2 8192) 3 % 18446744073709551616), (if (IntKind.signed IntKind.i64 && decide (bits BinOp.and IntKind.u64 (Int.fdiv x2 65536) 127 % 18446744073709551616 ≥ 9223372036854775808)) = true then bits BinOp.and IntKind.u64 (Int.fdiv x2 65536) 127 % 18446744073709551616 - 18446744073709551616 else bits BinOp.and IntKind.u64 (Int.fdiv x2 65536) 127 % 18446744073709551616)⟩
def wE (g : Geo) (k : Int) : T Pg := xiv g k .ret
theorem xn2 {β : Type} (g : Geo) (k : Int) (κ : Pg → T β) : (wE g k).bind κ = xiv g k κ := by
 unfold wE xiv
 first | rfl | (simp only [xa, xb, xe, xc, T.bind_assoc])
def Wo : Sm := fun args H => match args, H with
 | [.c .port, .agg gc, .c (.int .i64 nd)], [] => (match xu gc with
   | some g => some (mkS ((Int × Bool)) (kJ g nd) fun r => some (.tup [.c (.int .u64 r.1), .c (.bool r.2)], []))
   | _ => none)
 | _, _ => none
theorem xfh : Good Tryz.prog (xt ka3b) xd 0 (lsAt jb .no [1, 0, 1, 0]) (Tryz.f286.body.getD .skip) (xv Tryz.f286.results.toList) := xH (xl (by kernel_rfl)) xE xiq
variable {σ : Type} {I : Port Tryz.prog σ}
theorem xiw (hl : SoundL I ka3b) : SoundF I 286 Wo := by
 refine sq hl xd Tryz.func286 fun args H t ht => ?_
 unfold Wo at ht
 split at ht
 ·rename_i gc nd
  split at ht
  ·rename_i g hg
   obtain rfl := xh hg
   cases ht
   refine (xG (P := Tryz.prog) (n := xd) (x := (lsAt jb .no [1, 0, 1, 0])) (fn := Tryz.f286) (H := []) (c := Tryz.f286.body.getD .skip) (xl (by kernel_rfl)) xfh).symm.trans ?_
   refine Eq.trans ?_ (xff g nd _).symm
   kernel_rfl
  ·cases ht
 ·cases ht
def xaB : Sm := fun args H => match args, H with
 | [.agg (.port :: gc), .c (.int .i64 n), .c (.bool l)], [] => (match xu gc with
   | some g => some (mkS (Unit) (vW g n l) fun r => some (.tup [], []))
   | _ => none)
 | _, _ => none
theorem xlc (hl : SoundL I ka3b) : SoundF I 223 xaB := by
 refine sq hl 1 Tryz.func223 fun args H t ht => ?_
 unfold xaB at ht
 split at ht
 ·rename_i gc n l
  split at ht
  ·rename_i g hg
   obtain rfl := xh hg
   cases ht
   refine Eq.trans ?_ (xir g n l _).symm
   kernel_rfl
  ·cases ht
 ·cases ht
def xn3 : Sm := fun args H => match args, H with
 | [.agg (.port :: gc), .c (.int .i64 k)], [] => (match xu gc with
   | some g => some (mkS (Bool) (anyT g k) fun r => some (.c (.bool r), []))
   | _ => none)
 | _, _ => none
theorem xrx : Good Tryz.prog (xt ka3b) xd 0 (lsAt xb7 .no [1, 0, 1, 0]) (Tryz.f281.body.getD .skip) (xv Tryz.f281.results.toList) := xH (xl (by kernel_rfl)) xE xto
theorem xtp (hl : SoundL I ka3b) : SoundF I 281 xn3 := by
 refine sq hl xd Tryz.func281 fun args H t ht => ?_
 unfold xn3 at ht
 split at ht
 ·rename_i gc k
  split at ht
  ·rename_i g hg
   obtain rfl := xh hg
   cases ht
   refine (xG (P := Tryz.prog) (n := xd) (x := (lsAt xb7 .no [1, 0, 1, 0])) (fn := Tryz.f281) (H := []) (c := Tryz.f281.body.getD .skip) (xl (by kernel_rfl)) xrx).symm.trans ?_
   refine Eq.trans ?_ (xrv g k _).symm
   kernel_rfl
  ·cases ht
 ·cases ht
def xaC : Sm := fun args H => match args, H with
 | [.c (.int .i64 c), .c (.int .i64 o)], [] => some (mkS ((Int × Bool)) (XN c o) fun r => some (.tup [.c (.int .i64 r.1), .c (.bool r.2)], []))
 | _, _ => none
theorem xld (hl : SoundL I ka3b) : SoundF I 177 xaC := by
 refine sq hl 1 Tryz.func177 fun args H t ht => ?_
 unfold xaC at ht
 split at ht
 ·rename_i c o
  cases ht
  refine Eq.trans ?_ (xit c o _).symm
  kernel_rfl
 ·cases ht
def xix : Sm := fun args H => match args, H with
 | [.c .port, .agg gc, .c (.int .i64 p), .c (.int .i64 k)], [] => (match xu gc with
   | some g => some (mkS (Int) (xgE g p k) fun r => some (.c (.int .i64 r), []))
   | _ => none)
 | _, _ => none
theorem xry (hl : SoundL I ka3b) : SoundF I 262 xix := by
 refine sq hl 1 Tryz.func262 fun args H t ht => ?_
 unfold xix at ht
 split at ht
 ·rename_i gc p k
  split at ht
  ·rename_i g hg
   obtain rfl := xh hg
   cases ht
   refine Eq.trans ?_ (xnZ g p k _).symm
   kernel_rfl
  ·cases ht
 ·cases ht
def xd3 : Sm := fun args H => match args, H with
 | [.c .port, .agg gc, .c (.int .i64 p), .c (.int .i64 k)], [] => (match xu gc with
   | some g => some (mkS ((Int × Bool)) (xaA g p k) fun r => some (.tup [.c (.int .i64 r.1), .c (.bool r.2)], []))
   | _ => none)
 | _, _ => none
theorem xle : Good Tryz.prog (xt ka3b) xd 0 (lsAt XP .no [1, 1, 0, 0]) (Tryz.f261.body.getD .skip) (xv Tryz.f261.results.toList) := xH (xl (by kernel_rfl)) xE xn0
theorem xn4 (hl : SoundL I ka3b) : SoundF I 261 xd3 := by
 refine sq hl xd Tryz.func261 fun args H t ht => ?_
 unfold xd3 at ht
 split at ht
 ·rename_i gc p k
  split at ht
  ·rename_i g hg
   obtain rfl := xh hg
   cases ht
   refine (xG (P := Tryz.prog) (n := xd) (x := (lsAt XP .no [1, 1, 0, 0])) (fn := Tryz.f261) (H := []) (c := Tryz.f261.body.getD .skip) (xl (by kernel_rfl)) xle).symm.trans ?_
   refine Eq.trans ?_ (xlb g p k _).symm
   kernel_rfl
  ·cases ht
 ·cases ht
def xiy : Sm := fun args H => match args, H with
 | [.c .port, .agg gc, .c (.int .i64 k)], [] => (match xu gc with
   | some g => some (mkS (Bool) (xgG g k) fun r => some (.c (.bool r), []))
   | _ => none)
 | _, _ => none
theorem xn5 : Good Tryz.prog (xt ka3b) xd 0 (lsAt Ka .no [1, 1, 0, 0]) (Tryz.f88.body.getD .skip) (xv Tryz.f88.results.toList) := xH (xl (by kernel_rfl)) xE xrw
theorem xrz (hl : SoundL I ka3b) : SoundF I 88 xiy := by
 refine sq hl xd Tryz.func88 fun args H t ht => ?_
 unfold xiy at ht
 split at ht
 ·rename_i gc k
  split at ht
  ·rename_i g hg
   obtain rfl := xh hg
   cases ht
   refine (xG (P := Tryz.prog) (n := xd) (x := (lsAt Ka .no [1, 1, 0, 0])) (fn := Tryz.f88) (H := []) (c := Tryz.f88.body.getD .skip) (xl (by kernel_rfl)) xn5).symm.trans ?_
   refine Eq.trans ?_ (xn1 g k _).symm
   kernel_rfl
  ·cases ht
 ·cases ht
def xiz : Sm := fun args H => match args, H with
 | [.c .port, .agg gc, .c (.int .i64 k)], [] => (match xu gc with
   | some g => some (mkS (Pg) (wE g k) fun r => some (.agg r.cells, []))
   | _ => none)
 | _, _ => none
theorem xrA (hl : SoundL I ka3b) : SoundF I 84 xiz := by
 refine sq hl 1 Tryz.func84 fun args H t ht => ?_
 unfold xiz at ht
 split at ht
 ·rename_i gc k
  split at ht
  ·rename_i g hg
   obtain rfl := xh hg
   cases ht
   refine Eq.trans ?_ (xn2 g k _).symm
   kernel_rfl
  ·cases ht
 ·cases ht
def ka4 : List (Nat × Sm) := (286, Wo) :: (223, xaB) :: (281, xn3) :: (177, xaC) :: (262, xix) :: (261, xd3) :: (88, xiy) :: (84, xiz) :: ka3b
theorem YC : SoundL I ka4 := (.cons (xiw Zh) (.cons (xlc Zh) (.cons (xtp Zh) (.cons (xld Zh) (.cons (xry Zh) (.cons (xn4 Zh) (.cons (xrz Zh) (.cons (xrA Zh) Zh))))))))
end Go.Proofs.YtaegelbaghaooaaGreat.Lx
