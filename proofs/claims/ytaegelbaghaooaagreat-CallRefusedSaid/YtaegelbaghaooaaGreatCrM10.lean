/- Part. -/
import Derived.Test.YtaegelbaghaooaaGreatCrM3
set_option linter.all false
open Go.IntKind (i64 u64 u32 u8)
set_option maxRecDepth 1000000
namespace Go.Proofs.YtaegelbaghaooaaGreat
namespace Lx
variable {β : Type} (g : Geo)
open Go
def xo5 (κ : Int -> T β) : T β :=
 .op (.self ) fun x0 =>
 κ (u64.wrap (u64.wrap x0 + 1))
def mineT  : T Int := xo5  .ret
theorem xo6  (κ : Int -> T β) : (mineT ).bind κ = xo5  κ := by
 unfold mineT xo5
 simp only [bz]
def xiD (k it : Int) (κ : Bool -> T β) : T β :=
 .op (.self ) fun x0 =>
 bif it == 0 then (κ (false)) else
 bif decide (atF g 12 (inF (inF x0 k 4) 0 2) < 0) then (κ (false)) else
 .op (.cas (atF g 12 (inF (inF x0 k 4) 0 2)) (0) (it)) fun b3 =>
 bif b3 then (κ (true)) else
 .op (.self ) fun x5 =>
 bif it == 0 then (κ (false)) else
 bif decide (atF g 12 (inF (inF x5 k 4) 1 2) < 0) then (κ (false)) else
 .op (.cas (atF g 12 (inF (inF x5 k 4) 1 2)) (0) (it)) fun b8 =>
 bif b8 then (κ (true)) else
 κ (false)
def xg5 (k it : Int) : T Bool := xiD g k it .ret
theorem xo7 (k it : Int) (κ : Bool -> T β) : (xg5 g k it).bind κ = xiD g k it κ := by
 unfold xg5 xiD
 simp only [bz]
def xcr (t k : Int) (κ : (Int × Bool) -> T β) : T β :=
 bif decide (atF g 12 (inF (inF t k 4) 0 2) < 0) then (κ ((0), (false))) else
 .op (.load (atF g 12 (inF (inF t k 4) 0 2))) fun x1 =>
 bif x1 != 0 then (.op (.cas (atF g 12 (inF (inF t k 4) 0 2)) x1 (0)) fun b3 =>
 bif b3 then (κ (x1, (true))) else
 bif decide (atF g 12 (inF (inF t k 4) 1 2) < 0) then (κ ((0), (false))) else
 .op (.load (atF g 12 (inF (inF t k 4) 1 2))) fun x6 =>
 bif x6 != 0 then (.op (.cas (atF g 12 (inF (inF t k 4) 1 2)) x6 (0)) fun b8 =>
 bif b8 then (κ (x6, (true))) else
 κ ((0), (false))) else
 κ ((0), (false))) else
 bif decide (atF g 12 (inF (inF t k 4) 1 2) < 0) then (κ ((0), (false))) else
 .op (.load (atF g 12 (inF (inF t k 4) 1 2))) fun x4 =>
 bif x4 != 0 then (.op (.cas (atF g 12 (inF (inF t k 4) 1 2)) x4 (0)) fun b6 =>
 bif b6 then (κ (x4, (true))) else
 κ ((0), (false))) else
 κ ((0), (false))
def qi (t k : Int) : T (Int × Bool) := xcr g t k .ret
theorem xlB (t k : Int) (κ : (Int × Bool) -> T β) : (qi g t k).bind κ = xcr g t k κ := by
 unfold qi xcr
 simp only [bz]
def Vd (κ : Int -> T β) : T β :=
 .op (.self ) fun x0 =>
 .op (.add (atF g 6 x0) (1)) fun x1 =>
 .op (.self ) fun x2 =>
 κ (u32.wrap (u32.wrap (u32.wrap (u32.wrap x1 + 1) * 64) + u32.wrap x2))
def kY : T Int := Vd g .ret
theorem xiE (κ : Int -> T β) : (kY g).bind κ = Vd g κ := by
 unfold kY Vd
 simp only [bz]
def YM (a b v : Int) (κ : Stt -> T β) : T β :=
 κ ⟨(2), (b), (a), (v)⟩
def KY (a b v : Int) : T Stt := YM a b v .ret
theorem xdB (a b v : Int) (κ : Stt -> T β) : (KY a b v).bind κ = YM a b v κ := by
 unfold KY YM
 simp only [bz]
def xiF (p : Int) (κ : Pg -> T β) : T β :=
 .op (.load (atF g 7 p)) fun x0 =>
 κ ⟨((pgOf x0).kind), ((pgOf x0).len), ((pgOf x0).cls), ((pgOf x0).owner)⟩
def Yx (p : Int) : T Pg := xiF g p .ret
theorem xo8 (p : Int) (κ : Pg -> T β) : (Yx g p).bind κ = xiF g p κ := by
 unfold Yx xiF
 simp only [bz]
def xiG (p k n : Int) (κ : Unit -> T β) : T β :=
 .op (.store (atF g 7 p) ((Pg.mk k n 0 0).word)) fun _ =>
 κ ()
def kZ (p k n : Int) : T Unit := xiG g p k n .ret
theorem xo9 (p k n : Int) (κ : Unit -> T β) : (kZ g p k n).bind κ = xiG g p k n κ := by
 unfold kZ xiG
 simp only [bz]
def xiH (p : Int) (κ : Bt -> T β) : T β :=
 .op (.load (atF g 8 p)) fun x0 =>
 κ ⟨((btOf x0).map), ((btOf x0).has), ((btOf x0).cls), ((btOf x0).ver)⟩
def Yy (p : Int) : T Bt := xiH g p .ret
theorem xpa (p : Int) (κ : Bt -> T β) : (Yy g p).bind κ = xiH g p κ := by
 unfold Yy xiH
 simp only [bz]
def xcs (p : Int) (was : Bt) (now : Bt) (κ : Bool -> T β) : T β :=
 .op (.cas (atF g 8 p) ((Bt.mk was.map was.has was.cls was.ver).word) ((Bt.mk now.map now.has now.cls now.ver).word)) fun b0 =>
 κ b0
def Zi (p : Int) (was : Bt) (now : Bt) : T Bool := xcs g p was now .ret
theorem xlC (p : Int) (was : Bt) (now : Bt) (κ : Bool -> T β) : (Zi g p was now).bind κ = xcs g p was now κ := by
 unfold Zi xcs
 simp only [bz]
def xiI (κ : Bool -> T β) : T β :=
 κ (g.pages == 0)
def xpb : T Bool := xiI g .ret
theorem xlD (κ : Bool -> T β) : (xpb g).bind κ = xiI g κ := by
 unfold xpb xiI
 simp only [bz]
def xct (κ : Bool -> T β) : T β :=
 .op (.self ) fun x0 =>
 κ (atF g 15 x0 == -1)
def jq : T Bool := xct g .ret
theorem xlE (κ : Bool -> T β) : (jq g).bind κ = xct g κ := by
 unfold jq xct
 simp only [bz]
def xcu (c : Int) (κ : Bool -> T β) : T β :=
 .op (.self ) fun x0 =>
 κ (atF g 13 (inF x0 c 4) == -1)
def Zj (c : Int) : T Bool := xcu g c .ret
theorem xlF (c : Int) (κ : Bool -> T β) : (Zj g c).bind κ = xcu g c κ := by
 unfold Zj xcu
 simp only [bz]
def xdC (it : Int) (κ : Int -> T β) : T β :=
 κ (i64.wrap (i64.wrap it - 1))
def xiJ (it : Int) : T Int := xdC it .ret
theorem xiK (it : Int) (κ : Int -> T β) : (xiJ it).bind κ = xdC it κ := by
 unfold xiJ xdC
 simp only [bz]
def xdD (s : Int) (κ : Int -> T β) : T β :=
 bif decide (s < 1) then (κ (0)) else
 κ (i64.wrap (i64.wrap ((i64.wrap (s - 1)).tdiv 64) + 1))
def xiL (s : Int) : T Int := xdD s .ret
theorem xiM (s : Int) (κ : Int -> T β) : (xiL s).bind κ = xdD s κ := by
 unfold xiL xdD
 simp only [bz]
def xdE (s : Int) (κ : Bool -> T β) : T β :=
 bif decide (s > 0) then (κ (bits BinOp.and i64 s (i64.wrap (s - 1)) == 0)) else
 κ (false)
def Ve (s : Int) : T Bool := xdE s .ret
theorem xiN (s : Int) (κ : Bool -> T β) : (Ve s).bind κ = xdE s κ := by
 unfold Ve xdE
 simp only [bz]
def Vf (s : Int) (κ : Bool -> T β) : T β :=
 bif decide (s > 0) then (κ (bits BinOp.and i64 s (i64.wrap (s - 1)) == 0)) else
 κ (false)
def Xj (s : Int) : T Bool := Vf s .ret
theorem xiO (s : Int) (κ : Bool -> T β) : (Xj s).bind κ = Vf s κ := by
 unfold Xj Vf
 simp only [bz]
def xiP (w : Pg) (k : Int) (κ : Bool -> T β) : T β :=
 bif w.len == k then (bif w.kind == 4 then (κ (true)) else
 bif w.kind == 5 then (κ (true)) else
 κ (w.kind == 3)) else
 κ (false)
def xg6 (w : Pg) (k : Int) : T Bool := xiP w k .ret
theorem xpc (w : Pg) (k : Int) (κ : Bool -> T β) : (xg6 w k).bind κ = xiP w k κ := by
 unfold xg6 xiP
 simp only [bz]
def KZ (w : Pg) (κ : Int -> T β) : T β :=
 bif w.kind == 0 then (κ (1)) else
 bif w.kind == 2 then (κ (1)) else
 κ (if w.len < 1 then 1 else w.len)
def vO (w : Pg) : T Int := KZ w .ret
theorem xpd (w : Pg) (κ : Int -> T β) : (vO w).bind κ = KZ w κ := by
 unfold vO KZ
 simp only [bz]
def xcv (nd it : Int) (κ : Bool -> T β) : T β :=
 .op (.load (atF g 18 (inF (i64.wrap (nd - 1)) 0 8))) fun x0 =>
 bif x0 == 0 then (.op (.store (atF g 18 (inF (i64.wrap (nd - 1)) 0 8)) (it)) fun _ =>
 κ (true)) else
 .op (.load (atF g 18 (inF (i64.wrap (nd - 1)) 1 8))) fun x2 =>
 bif x2 == 0 then (.op (.store (atF g 18 (inF (i64.wrap (nd - 1)) 1 8)) (it)) fun _ =>
 κ (true)) else
 .op (.load (atF g 18 (inF (i64.wrap (nd - 1)) 2 8))) fun x4 =>
 bif x4 == 0 then (.op (.store (atF g 18 (inF (i64.wrap (nd - 1)) 2 8)) (it)) fun _ =>
 κ (true)) else
 .op (.load (atF g 18 (inF (i64.wrap (nd - 1)) 3 8))) fun x6 =>
 bif x6 == 0 then (.op (.store (atF g 18 (inF (i64.wrap (nd - 1)) 3 8)) (it)) fun _ =>
 κ (true)) else
 .op (.load (atF g 18 (inF (i64.wrap (nd - 1)) 4 8))) fun x8 =>
 bif x8 == 0 then (.op (.store (atF g 18 (inF (i64.wrap (nd - 1)) 4 8)) (it)) fun _ =>
 κ (true)) else
 .op (.load (atF g 18 (inF (i64.wrap (nd - 1)) 5 8))) fun x10 =>
 bif x10 == 0 then (.op (.store (atF g 18 (inF (i64.wrap (nd - 1)) 5 8)) (it)) fun _ =>
 κ (true)) else
 .op (.load (atF g 18 (inF (i64.wrap (nd - 1)) 6 8))) fun x12 =>
 bif x12 == 0 then (.op (.store (atF g 18 (inF (i64.wrap (nd - 1)) 6 8)) (it)) fun _ =>
 κ (true)) else
 .op (.load (atF g 18 (inF (i64.wrap (nd - 1)) 7 8))) fun x14 =>
 bif x14 == 0 then (.op (.store (atF g 18 (inF (i64.wrap (nd - 1)) 7 8)) (it)) fun _ =>
 κ (true)) else
 κ (false)
def YN (nd it : Int) : T Bool := xcv g nd it .ret
theorem xlG (nd it : Int) (κ : Bool -> T β) : (YN g nd it).bind κ = xcv g nd it κ := by
 unfold YN xcv
 simp only [bz]
def xiQ (nd : Int) (κ : Bool -> T β) : T β :=
 .op (.load (atF g 18 (inF (i64.wrap (nd - 1)) 0 8))) fun x0 =>
 bif x0 != 0 then (κ (false)) else
 .op (.load (atF g 18 (inF (i64.wrap (nd - 1)) 1 8))) fun x2 =>
 bif x2 != 0 then (κ (false)) else
 .op (.load (atF g 18 (inF (i64.wrap (nd - 1)) 2 8))) fun x4 =>
 bif x4 != 0 then (κ (false)) else
 .op (.load (atF g 18 (inF (i64.wrap (nd - 1)) 3 8))) fun x6 =>
 bif x6 != 0 then (κ (false)) else
 .op (.load (atF g 18 (inF (i64.wrap (nd - 1)) 4 8))) fun x8 =>
 bif x8 != 0 then (κ (false)) else
 .op (.load (atF g 18 (inF (i64.wrap (nd - 1)) 5 8))) fun x10 =>
 bif x10 != 0 then (κ (false)) else
 .op (.load (atF g 18 (inF (i64.wrap (nd - 1)) 6 8))) fun x12 =>
 bif x12 != 0 then (κ (false)) else
 .op (.load (atF g 18 (inF (i64.wrap (nd - 1)) 7 8))) fun x14 =>
 bif x14 != 0 then (κ (false)) else
 κ (true)
def xg7 (nd : Int) : T Bool := xiQ g nd .ret
theorem xpe (nd : Int) (κ : Bool -> T β) : (xg7 g nd).bind κ = xiQ g nd κ := by
 unfold xg7 xiQ
 simp only [bz]
def xiR (a s : Int) (κ : Int -> T β) : T β :=
 bif decide (s < 1) then (κ (11)) else
 bif decide (s > i64.wrap (g.pages * 64)) then (κ (11)) else
 bif decide (a < 0) then (κ (13)) else
 bif decide (a >= i64.wrap (g.pages * 64)) then (κ (13)) else
 bif a.tmod 8 != 0 then (κ (13)) else
 κ (0)
def xpf (a s : Int) : T Int := xiR g a s .ret
theorem xlH (a s : Int) (κ : Int -> T β) : (xpf g a s).bind κ = xiR g a s κ := by
 unfold xpf xiR
 simp only [bz]
def xiS : Sm := fun
 | [.c .port], [] => some (mkS (Int) (mineT) fun r => some (.c (.int .u64 r), []))
 | _, _ => none
variable {σ : Type} {I : Port Tryz.prog σ}
theorem xtm (hl : SoundL I ka0) : SoundF I 233 xiS := by
 refine sq hl 1 Tryz.func233 fun _ _ t ht => ?_
 unfold xiS at ht
 split at ht
 ·skip
  cases ht
  exact ey (xo6  _)
 ·cases ht
def xsk : Sm := gS fun
 | g, [.c (.int .i64 k), .c (.int .u64 it)] => some (mkS (Bool) (xg5 g k it) fun r => some (.c (.bool r), []))
 | _, _ => none
theorem xtn (hl : SoundL I ka0) : SoundF I 89 xsk := by
 refine gsq hl 5 Tryz.func89 fun g l t ht => ?_
 split at ht
 ·rename_i k it
  cases ht
  exact ey (xo7 g k it _)
 ·cases ht
def xlI : Sm := gS fun
 | g, [.c (.int .i64 t), .c (.int .i64 k)] => some (mkS ((Int × Bool)) (qi g t k) fun r => some (.tup [.c (.int .u64 r.1), .c (.bool r.2)], []))
 | _, _ => none
theorem xpg (hl : SoundL I ka0) : SoundF I 253 xlI := by
 refine gsq hl 5 Tryz.func253 fun g l t ht => ?_
 split at ht
 ·rename_i t k
  cases ht
  exact ey (xlB g t k _)
 ·cases ht
def xg8 : Sm := gS fun
 | g, [] => some (mkS (Int) (kY g) fun r => some (.c (.int .u32 r), []))
 | _, _ => none
theorem xlJ (hl : SoundL I ka0) : SoundF I 230 xg8 := by
 refine gsq hl 1 Tryz.func230 fun g l t ht => ?_
 split at ht
 ·cases ht
  exact ey (xiE g _)
 ·cases ht
def Zk : Sm := fun
 | [.c (.int .i64 a), .c (.int .i64 b), .c (.int .u32 v)], [] => some (mkS (Stt) (KY a b v) fun r => some (.agg r.cells, []))
 | _, _ => none
theorem xf8 (hl : SoundL I ka0) : SoundF I 250 Zk := by
 refine sq hl 1 Tryz.func250 fun _ _ t ht => ?_
 unfold Zk at ht
 split at ht
 ·rename_i a b v
  cases ht
  exact ey (xdB a b v _)
 ·cases ht
def xiT : Sm := fun
 | [.agg (.port :: gc), .c (.int .i64 p)], [] => (match xv gc with
   | some g => some (mkS (Pg) (Yx g p) fun r => some (.agg r.cells, []))
   | _ => none)
 | _, _ => none
theorem xto (hl : SoundL I ka0) : SoundF I 234 xiT := by
 refine sq hl 1 Tryz.func234 fun _ _ t ht => ?_
 unfold xiT at ht
 split at ht
 ·rename_i gc p
  split at ht
  ·rename_i g hg
   obtain rfl := xe hg
   cases ht
   exact ey (xo8 g p _)
  ·cases ht
 ·cases ht
def xiU : Sm := fun
 | [.agg (.port :: gc), .c (.int .i64 p), .c (.int .i64 k), .c (.int .i64 n)], [] => (match xv gc with
   | some g => some (mkS (Unit) (kZ g p k n) fun r => some (.tup [], []))
   | _ => none)
 | _, _ => none
theorem xtp (hl : SoundL I ka0) : SoundF I 222 xiU := by
 refine sq hl 1 Tryz.func222 fun _ _ t ht => ?_
 unfold xiU at ht
 split at ht
 ·rename_i gc p k n
  split at ht
  ·rename_i g hg
   obtain rfl := xe hg
   cases ht
   exact ey (xo9 g p k n _)
  ·cases ht
 ·cases ht
def xiV : Sm := fun
 | [.agg (.port :: gc)], [] => (match shOf gc with
   | some (g, p) => some (mkS (Bt) (Yy g p) fun r => some (.agg r.cells, []))
   | _ => none)
 | _, _ => none
theorem xtq (hl : SoundL I ka0) : SoundF I 176 xiV := by
 refine sq hl 1 Tryz.func176 fun _ _ t ht => ?_
 unfold xiV at ht
 split at ht
 ·rename_i gc
  split at ht
  ·rename_i g p hg
   obtain rfl := xde hg
   cases ht
   exact ey (xpa g p _)
  ·cases ht
 ·cases ht
def xdF : Sm := fun
 | [.agg (.port :: gc), .agg wasc, .agg nowc], [] => (match shOf gc with
   | some (g, p) => (match Bt.of wasc with
   | some was => (match Bt.of nowc with
   | some now => some (mkS (Bool) (Zi g p was now) fun r => some (.c (.bool r), []))
   | _ => none)
   | _ => none)
   | _ => none)
 | _, _ => none
theorem xph (hl : SoundL I ka0) : SoundF I 178 xdF := by
 refine sq hl 1 Tryz.func178 fun _ _ t ht => ?_
 unfold xdF at ht
 split at ht
 ·rename_i gc wasc nowc
  split at ht
  ·rename_i g p hg
   obtain rfl := xde hg
   split at ht
   ·rename_i was hwas
    obtain rfl := Bt.of_eq hwas
    split at ht
    ·rename_i now hnow
     obtain rfl := Bt.of_eq hnow
     cases ht
     exact ey (xlC g p was now _)
    ·cases ht
   ·cases ht
  ·cases ht
 ·cases ht
def xlK : Sm := gS fun
 | g, [] => some (mkS (Bool) (xpb g) fun r => some (.c (.bool r), []))
 | _, _ => none
theorem xpi (hl : SoundL I ka0) : SoundF I 73 xlK := by
 refine gsq hl 1 Tryz.func73 fun g l t ht => ?_
 split at ht
 ·cases ht
  exact ey (xlD g _)
 ·cases ht
def xlL : Sm := gS fun
 | g, [] => some (mkS (Bool) (jq g) fun r => some (.c (.bool r), []))
 | _, _ => none
theorem xpj (hl : SoundL I ka0) : SoundF I 83 xlL := by
 refine gsq hl 1 Tryz.func83 fun g l t ht => ?_
 split at ht
 ·cases ht
  exact ey (xlE g _)
 ·cases ht
def xlM : Sm := gS fun
 | g, [.c (.int .i64 c)] => some (mkS (Bool) (Zj g c) fun r => some (.c (.bool r), []))
 | _, _ => none
theorem xpk (hl : SoundL I ka0) : SoundF I 173 xlM := by
 refine gsq hl 1 Tryz.func173 fun g l t ht => ?_
 split at ht
 ·rename_i c
  cases ht
  exact ey (xlF g c _)
 ·cases ht
def xaa : Sm := fun
 | [.c (.int .u64 it)], [] => some (mkS (Int) (xiJ it) fun r => some (.c (.int .i64 r), []))
 | _, _ => none
theorem xlN (hl : SoundL I ka0) : SoundF I 214 xaa := by
 refine sq hl 1 Tryz.func214 fun _ _ t ht => ?_
 unfold xaa at ht
 split at ht
 ·rename_i it
  cases ht
  exact ey (xiK it _)
 ·cases ht
def xab : Sm := fun
 | [.c (.int .i64 s)], [] => some (mkS (Int) (xiL s) fun r => some (.c (.int .i64 r), []))
 | _, _ => none
theorem xlO (hl : SoundL I ka0) : SoundF I 78 xab := by
 refine sq hl 1 Tryz.func78 fun _ _ t ht => ?_
 unfold xab at ht
 split at ht
 ·rename_i s
  cases ht
  exact ey (xiM s _)
 ·cases ht
def xac : Sm := fun
 | [.c (.int .i64 s)], [] => some (mkS (Bool) (Ve s) fun r => some (.c (.bool r), []))
 | _, _ => none
theorem xlP (hl : SoundL I ka0) : SoundF I 153 xac := by
 refine sq hl 1 Tryz.func153 fun _ _ t ht => ?_
 unfold xac at ht
 split at ht
 ·rename_i s
  cases ht
  exact ey (xiN s _)
 ·cases ht
def xad : Sm := fun
 | [.c (.int .i64 s)], [] => some (mkS (Bool) (Xj s) fun r => some (.c (.bool r), []))
 | _, _ => none
theorem xlQ (hl : SoundL I ka0) : SoundF I 74 xad := by
 refine sq hl 1 Tryz.func74 fun _ _ t ht => ?_
 unfold xad at ht
 split at ht
 ·rename_i s
  cases ht
  exact ey (xiO s _)
 ·cases ht
def xiW : Sm := fun
 | [.agg wc, .c (.int .i64 k)], [] => (match Pg.of wc with
   | some w => some (mkS (Bool) (xg6 w k) fun r => some (.c (.bool r), []))
   | _ => none)
 | _, _ => none
theorem xtr (hl : SoundL I ka0) : SoundF I 264 xiW := by
 refine sq hl 1 Tryz.func264 fun _ _ t ht => ?_
 unfold xiW at ht
 split at ht
 ·rename_i wc k
  split at ht
  ·rename_i w hw
   obtain rfl := Pg.of_eq hw
   cases ht
   exact ey (xpc w k _)
  ·cases ht
 ·cases ht
def xiX : Sm := fun
 | [.agg wc], [] => (match Pg.of wc with
   | some w => some (mkS (Int) (vO w) fun r => some (.c (.int .i64 r), []))
   | _ => none)
 | _, _ => none
theorem xts (hl : SoundL I ka0) : SoundF I 236 xiX := by
 refine sq hl 1 Tryz.func236 fun _ _ t ht => ?_
 unfold xiX at ht
 split at ht
 ·rename_i wc
  split at ht
  ·rename_i w hw
   obtain rfl := Pg.of_eq hw
   cases ht
   exact ey (xpd w _)
  ·cases ht
 ·cases ht
def xlR : Sm := gS fun
 | g, [.c (.int .i64 nd), .c (.int .u64 it)] => some (mkS (Bool) (YN g nd it) fun r => some (.c (.bool r), []))
 | _, _ => none
theorem xpl (hl : SoundL I ka0) : SoundF I 237 xlR := by
 refine gsq hl 10 Tryz.func237 fun g l t ht => ?_
 split at ht
 ·rename_i nd it
  cases ht
  exact ey (xlG g nd it _)
 ·cases ht
def xsl : Sm := gS fun
 | g, [.c (.int .i64 nd)] => some (mkS (Bool) (xg7 g nd) fun r => some (.c (.bool r), []))
 | _, _ => none
theorem xtt (hl : SoundL I ka0) : SoundF I 254 xsl := by
 refine gsq hl 10 Tryz.func254 fun g l t ht => ?_
 split at ht
 ·rename_i nd
  cases ht
  exact ey (xpe g nd _)
 ·cases ht
def xdG : Sm := fun
 | [.agg gc, .c (.int .i64 a), .c (.int .i64 s)], [] => (match xv gc with
   | some g => some (mkS (Int) (xpf g a s) fun r => some (.c (.int .i64 r), []))
   | _ => none)
 | _, _ => none
theorem xpm (hl : SoundL I ka0) : SoundF I 113 xdG := by
 refine sq hl 1 Tryz.func113 fun _ _ t ht => ?_
 unfold xdG at ht
 split at ht
 ·rename_i gc a s
  split at ht
  ·rename_i g hg
   obtain rfl := xe hg
   cases ht
   exact ey (xlH g a s _)
  ·cases ht
 ·cases ht
def ka1 : List (Nat × Sm) := (233, xiS) :: (89, xsk) :: (253, xlI) :: (230, xg8) :: (250, Zk) :: (234, xiT) :: (222, xiU) :: (176, xiV) :: (178, xdF) :: (73, xlK) :: (83, xlL) :: (173, xlM) :: (214, xaa) :: (78, xab) :: (153, xac) :: (74, xad) :: (264, xiW) :: (236, xiX) :: (237, xlR) :: (254, xsl) :: (113, xdG) :: ka0
theorem Yz : SoundL I ka1 := (.cons (xtm vm) (.cons (xtn vm) (.cons (xpg vm) (.cons (xlJ vm) (.cons (xf8 vm) (.cons (xto vm) (.cons (xtp vm) (.cons (xtq vm) (.cons (xph vm) (.cons (xpi vm) (.cons (xpj vm) (.cons (xpk vm) (.cons (xlN vm) (.cons (xlO vm) (.cons (xlP vm) (.cons (xlQ vm) (.cons (xtr vm) (.cons (xts vm) (.cons (xpl vm) (.cons (xtt vm) (.cons (xpm vm) vm)))))))))))))))))))))
end Lx
namespace Lx
variable {β : Type} (g : Geo)
open Go
structure Seen where
 (kind size other ver : Int) (live : Bool) (lin : Int)
def Seen.cells (r : Seen) : List C := [.int .i64 r.kind, .int .i64 r.size, .int .i64 r.other, .int .u32 r.ver, .bool r.live, .int .i64 r.lin]
def Seen.of : List C -> Option Seen
 | [.int .i64 a, .int .i64 b, .int .i64 c, .int .u32 d, .bool e, .int .i64 f] => some ⟨a, b, c, d, e, f⟩
 | _ => none
theorem Seen.of_eq {l : List C} {r : Seen} (h : Seen.of l = some r) : l = r.cells := by
 unfold Seen.of at h; split at h <;> cases h; rfl
def xsm (κ : Bool -> T β) : T β :=
 .op (.self ) fun x0 =>
 .op (.cas (atF g 0 0) (0) (u64.wrap (u64.wrap x0 + 1))) fun b1 =>
 bif b1 then (κ (true)) else
 .op (.self ) fun x3 =>
 .op (.cas (atF g 0 0) (0) (u64.wrap (u64.wrap x3 + 1))) fun b4 =>
 bif b4 then (κ (true)) else
 .op (.self ) fun x6 =>
 .op (.cas (atF g 0 0) (0) (u64.wrap (u64.wrap x6 + 1))) fun b7 =>
 bif b7 then (κ (true)) else
 κ (false)
def tryT : T Bool := xsm g .ret
theorem xtu (κ : Bool -> T β) : (tryT g).bind κ = xsm g κ := by
 unfold tryT xsm
 simp only [bz]
def xiY (κ : Bool -> T β) : T β :=
 .op (.self ) fun x0 =>
 .op (.cas (atF g 0 0) (u64.wrap (u64.wrap x0 + 1)) (0)) fun b1 =>
 κ b1
def Zl : T Bool := xiY g .ret
theorem xpn (κ : Bool -> T β) : (Zl g).bind κ = xiY g κ := by
 unfold Zl xiY
 simp only [bz]
def Vg (k : Int) (κ : (Int × Bool) -> T β) : T β :=
 .op (.self ) fun x0 =>
 (qi g x0 k).bind fun r1 =>
 κ ((r1.1), (r1.2))
def jr (k : Int) : T (Int × Bool) := Vg g k .ret
theorem xlS (k : Int) (κ : (Int × Bool) -> T β) : (jr g k).bind κ = Vg g k κ := by
 unfold jr Vg
 simp only [bz]
def Vh (k : Int) (κ : Bool -> T β) : T β :=
 .op (.self ) fun x0 =>
 bif atF g 6 x0 == -1 then (κ (true)) else
 bif atF g 11 k == -1 then (κ (true)) else
 κ (false)
def wO (k : Int) : T Bool := Vh g k .ret
theorem xiZ (k : Int) (κ : Bool -> T β) : (wO g k).bind κ = Vh g k κ := by
 unfold wO Vh
 simp only [bz]
def Vi (k j : Int) (κ : Bool -> T β) : T β :=
 .op (.self ) fun x0 =>
 bif atF g 6 x0 == -1 then (κ (true)) else
 bif atF g 11 k == -1 then (κ (true)) else
 bif atF g 11 j == -1 then (κ (true)) else
 κ (false)
def ja (k j : Int) : T Bool := Vi g k j .ret
theorem xi0 (k j : Int) (κ : Bool -> T β) : (ja g k j).bind κ = Vi g k j κ := by
 unfold ja Vi
 simp only [bz]
def xdH (x k : Int) (κ : Int -> T β) : T β :=
 bif x == k then (κ (0)) else
 κ (-1)
def xi1 (x k : Int) : T Int := xdH x k .ret
theorem xi2 (x k : Int) (κ : Int -> T β) : (xi1 x k).bind κ = xdH x k κ := by
 unfold xi1 xdH
 simp only [bz]
def xdI (k was : Int) (κ : (Seen × Bool) -> T β) : T β :=
 .op (.load (atF g 11 (wa was).other)) fun x0 =>
 .op (.steps ) fun x1 =>
 bif (wa x0).kind == 3 then (bif (wa x0).other == k then (bif (wa x0).ver == (wa was).ver then (.op (.cas (atF g 11 k) (was) ((Stt.mk 1 (wa was).size 0 (wa was).ver).word)) fun b5 =>
 κ (⟨(0), (0), (0), (0), (false), (0)⟩, (false))) else
 .op (.load (atF g 11 k)) fun x5 =>
 κ (⟨(0), (0), (0), (0), (false), (x1)⟩, (x5 == was))) else
 .op (.load (atF g 11 k)) fun x4 =>
 κ (⟨(0), (0), (0), (0), (false), (x1)⟩, (x4 == was))) else
 .op (.load (atF g 11 k)) fun x3 =>
 κ (⟨(0), (0), (0), (0), (false), (x1)⟩, (x3 == was))
def xcw (k was : Int) : T (Seen × Bool) := xdI g k was .ret
theorem xi3 (k was : Int) (κ : (Seen × Bool) -> T β) : (xcw g k was).bind κ = xdI g k was κ := by
 unfold xcw xdI
 simp only [bz]
def isTK (p k : Int) (κ : Bool -> T β) : T β :=
 bif decide (p >= 0) then (bif decide (p < g.pages) then (bif decide (k >= 0) then (κ (decide (k < 4))) else
 κ (false)) else
 κ (false)) else
 κ (false)
def isT (p k : Int) : T Bool := isTK g p k .ret
theorem xvH (p k : Int) (κ : Bool -> T β) : (isT g p k).bind κ = isTK g p k κ := by
 unfold isT isTK
 simp only [bz]
def xae (it : Int) (κ : Int -> T β) : T β :=
 κ (i64.wrap (i64.wrap it - 1))
def xdJ (it : Int) : T Int := xae it .ret
theorem xf9 (it : Int) (κ : Int -> T β) : (xdJ it).bind κ = xae it κ := by
 unfold xdJ xae
 simp only [bz]
def xvI : Sm := gS fun
 | g, [] => some (mkS (Bool) (tryT g) fun r => some (.c (.bool r), []))
 | _, _ => none
variable {σ : Type} {I : Port Tryz.prog σ}
theorem xvJ (hl : SoundL I ka1) : SoundF I 169 xvI := by
 refine gsq hl 5 Tryz.func169 fun g l t ht => ?_
 split at ht
 ·cases ht
  exact ey (xtu g _)
 ·cases ht
def xsn : Sm := gS fun
 | g, [] => some (mkS (Bool) (Zl g) fun r => some (.c (.bool r), []))
 | _, _ => none
theorem xtv (hl : SoundL I ka1) : SoundF I 171 xsn := by
 refine gsq hl 1 Tryz.func171 fun g l t ht => ?_
 split at ht
 ·cases ht
  exact ey (xpn g _)
 ·cases ht
def xlT : Sm := gS fun
 | g, [.c (.int .i64 k)] => some (mkS ((Int × Bool)) (jr g k) fun r => some (.tup [.c (.int .u64 r.1), .c (.bool r.2)], []))
 | _, _ => none
theorem xpo (hl : SoundL I ka1) : SoundF I 212 xlT := by
 refine gsq hl 1 Tryz.func212 fun g l t ht => ?_
 split at ht
 ·rename_i k
  cases ht
  exact ey (xlS g k _)
 ·cases ht
def xaf : Sm := fun
 | [.c .port, .agg gc, .c (.sl 0 0 1 1)], [some ⟨[.int .i64 k], 3, false, none⟩] => (match xv gc with
   | some g => some (mkS Bool (wO g k) fun r => some (.c (.bool r), [some ⟨[.int .i64 k], 3, false, none⟩]))
   | _ => none)
 | _, _ => none
theorem xlU (hl : SoundL I ka1) : SoundF I 190 xaf := by
 refine sq hl 5 Tryz.func190 fun _ _ t ht => ?_
 unfold xaf at ht
 split at ht
 ·rename_i gc k
  split at ht
  ·rename_i g hg
   obtain rfl := xe hg
   cases ht
   exact ey (xiZ g k _)
  ·cases ht
 ·cases ht
def xag : Sm := fun
 | [.c .port, .agg gc, .c (.sl 0 0 2 2)], [some ⟨[.int .i64 k, .int .i64 j], 3, false, none⟩] => (match xv gc with
   | some g => some (mkS Bool (ja g k j) fun r => some (.c (.bool r), [some ⟨[.int .i64 k, .int .i64 j], 3, false, none⟩]))
   | _ => none)
 | _, _ => none
theorem xlV (hl : SoundL I ka1) : SoundF I 190 xag := by
 refine sq hl 5 Tryz.func190 fun _ _ t ht => ?_
 unfold xag at ht
 split at ht
 ·rename_i gc k j
  split at ht
  ·rename_i g hg
   obtain rfl := xe hg
   cases ht
   exact ey (xi0 g k j _)
  ·cases ht
 ·cases ht
def xah : Sm := fun
 | [.c (.sl 0 0 1 1), .c (.int .i64 x)], [some ⟨[.int .i64 k], 3, false, none⟩] => some (mkS Int (xi1 x k) fun r => some (.c (.int .i64 r), [some ⟨[.int .i64 k], 3, false, none⟩]))
 | _, _ => none
theorem xlW (hl : SoundL I ka1) : SoundF I 271 xah := by
 refine sq hl 5 Tryz.func271 fun _ _ t ht => ?_
 unfold xah at ht
 split at ht
 ·rename_i x k
  cases ht
  exact ey (xi2 x k _)
 ·cases ht
def xg9 : Sm := gS fun
 | g, [.c (.int .i64 k), .c (.int .u64 was)] => some (mkS ((Seen × Bool)) (xcw g k was) fun r => some (.tup [.agg r.1.cells, .c (.bool r.2)], []))
 | _, _ => none
theorem xlX (hl : SoundL I ka1) : SoundF I 192 xg9 := by
 refine gsq hl 1 Tryz.func192 fun g l t ht => ?_
 split at ht
 ·rename_i k was
  cases ht
  exact ey (xi3 g k was _)
 ·cases ht
def m_isT : Sm := fun
 | [.agg (.port :: gc), .c (.int .i64 k)], [] => (match shOf gc with
   | some (g, p) => some (mkS (Bool) (isT g p k) fun r => some (.c (.bool r), []))
   | _ => none)
 | _, _ => none
theorem s_m_isT (hl : SoundL I ka1) : SoundF I 277 m_isT := by
 refine sq hl 1 Tryz.func277 fun _ _ t ht => ?_
 unfold m_isT at ht
 split at ht
 ·rename_i gc k
  split at ht
  ·rename_i g p hg
   obtain rfl := xde hg
   cases ht
   exact ey (xvH g p k _)
  ·cases ht
 ·cases ht
def YO : Sm := fun
 | [.c (.int .u64 it)], [] => some (mkS (Int) (xdJ it) fun r => some (.c (.int .i64 r), []))
 | _, _ => none
theorem xi4 (hl : SoundL I ka1) : SoundF I 214 YO := by
 refine sq hl 1 Tryz.func214 fun _ _ t ht => ?_
 unfold YO at ht
 split at ht
 ·rename_i it
  cases ht
  exact ey (xf9 it _)
 ·cases ht
def ka2 : List (Nat × Sm) := (169, xvI) :: (171, xsn) :: (212, xlT) :: (190, (orSm xaf xag)) :: (271, xah) :: (192, xg9) :: (277, m_isT) :: (214, YO) :: ka1
theorem vo : SoundL I ka2 := (.cons (xvJ Yz) (.cons (xtv Yz) (.cons (xpo Yz) (.cons (SoundF.or (xlU Yz) (xlV Yz)) (.cons (xlW Yz) (.cons (xlX Yz) (.cons (s_m_isT Yz) (.cons (xi4 Yz) Yz))))))))
end Lx
namespace Lx
variable {β : Type} (g : Geo)
open Go
def xso (n : Int) (κ : Int -> T β) : T β :=
 (xN (decide (0 <= u64.wrap n) && decide (u64.wrap n <= 18446744073709551615))).bind fun r0 =>
 κ (i64.wrap (↑(Lib.bitLen (Int.toNat (u64.wrap n))) - 1))
def logT (n : Int) : T Int := xso n .ret
theorem xtw (n : Int) (κ : Int -> T β) : (logT n).bind κ = xso n κ := by
 unfold logT xso
 simp only [bz]
def xcx (p : Int) (κ : Int -> T β) : T β :=
 bif p == 0 then (κ (0)) else
 (Yx g (i64.wrap (p - 1))).bind fun r1 =>
 bif r1.kind == 2 then (κ (r1.len)) else
 bif r1.kind == 1 then (κ (r1.len)) else
 κ (0)
def xai (p : Int) : T Int := xcx g p .ret
theorem xlY (p : Int) (κ : Int -> T β) : (xai g p).bind κ = xcx g p κ := by
 unfold xai xcx
 simp only [bz]
def Vj (p : Int) (κ : Int -> T β) : T β :=
 bif p == g.pages then (κ (0)) else
 (Yx g p).bind fun r1 =>
 bif r1.kind == 1 then (κ (r1.len)) else
 κ (0)
def Xk (p : Int) : T Int := Vj g p .ret
theorem xi5 (p : Int) (κ : Int -> T β) : (Xk g p).bind κ = Vj g p κ := by
 unfold Xk Vj
 simp only [bz]
def xi6 (p k : Int) (κ : Bool -> T β) : T β :=
 bif decide (p < 0) then (κ (false)) else
 bif decide (p >= g.pages) then (κ (false)) else
 bif decide (k < 1) then (κ (false)) else
 bif decide (k > g.pages) then (κ (false)) else
 .op (.cas (atF g 7 p) (Pg.word (Pg.mk 4 k 0 0)) (Pg.word (Pg.mk 5 k 0 0))) fun b4 =>
 κ b4
def markT (p k : Int) : T Bool := xi6 g p k .ret
theorem xpp (p k : Int) (κ : Bool -> T β) : (markT g p k).bind κ = xi6 g p k κ := by
 unfold markT xi6
 simp only [bz]
def xi7 (g : Geo) (p b : Int) (c : Cls) (κ : Int -> T β) : T β :=
 κ (i64.wrap (i64.wrap (p * 8) + i64.wrap (Int.tdiv (i64.wrap (b * c.size)) 8)))
def xpq (p b : Int) (c : Cls) : T Int := xi7 g p b c .ret
theorem xlZ (p b : Int) (c : Cls) (κ : Int -> T β) : (xpq g p b c).bind κ = xi7 g p b c κ := by
 unfold xpq xi7
 simp only [bz]
def xdK (c : Cls) (κ : Int -> T β) : T β :=
 bif bif decide (c.blocks < 0) then false else true then (κ (u8.wrap (u8.wrap (1 * 2 ^ if Int.toNat c.blocks <= 8 then Int.toNat c.blocks else 8) - 1))) else
 .fail
def xcy (c : Cls) : T Int := xdK c .ret
theorem xi8 (c : Cls) (κ : Int -> T β) : (xcy c).bind κ = xdK c κ := by
 unfold xcy xdK
 simp only [bz]
def Vk (b : Bt) (κ : Int -> T β) : T β :=
 bif b.map == 0 then (κ (-1)) else
 (xN (decide (0 <= b.map) && decide (b.map <= 255))).bind fun r1 =>
 κ (↑(Lib.trailingZeros8 (Int.toNat b.map)))
def firstT (b : Bt) : T Int := Vk b .ret
theorem xl0 (b : Bt) (κ : Int -> T β) : (firstT b).bind κ = Vk b κ := by
 unfold firstT Vk
 simp only [bz]
def xi9 (b : Bt) (n : Int) (κ : Bool -> T β) : T β :=
 bif decide (n > 8) then (κ (false)) else
 (xN (decide (0 <= bits BinOp.xor u8 (if IntKind.signed u8 = true then -1 else IntKind.max u8) b.map) && decide (bits BinOp.xor u8 (if IntKind.signed u8 = true then -1 else IntKind.max u8) b.map <= 255))).bind fun r1 =>
 κ (decide (↑(Lib.trailingZeros8 (Int.toNat (bits BinOp.xor u8 (if IntKind.signed u8 = true then -1 else Int.ofNat (2 ^ 8 - 1)) b.map))) >= if n < 0 then 0 else n))
def xbB (b : Bt) (n : Int) : T Bool := xi9 b n .ret
theorem xpr (b : Bt) (n : Int) (κ : Bool -> T β) : (xbB b n).bind κ = xi9 b n κ := by
 unfold xbB xi9
 simp only [bz]
def xcz (k s : Int) (κ : Unit -> T β) : T β :=
 (wO g k).bind fun r0 =>
 bif !r0 then ((kY g).bind fun r2 =>
 .op (.store (atF g 11 k) (Stt.word (Stt.mk 1 s 0 r2))) fun _ =>
 κ ()) else
 κ ()
def xaj (k s : Int) : T Unit := xcz g k s .ret
theorem xl1 (k s : Int) (κ : Unit -> T β) : (xaj g k s).bind κ = xcz g k s κ := by
 unfold xaj xcz
 simp only [bz]
def Vl (k : Int) (s : Stt) (z : Int) (κ : Bool -> T β) : T β :=
 (wO g k).bind fun r0 =>
 bif r0 then (κ (false)) else
 (kY g).bind fun r2 =>
 .op (.cas (atF g 11 k) (Stt.word (Stt.mk s.kind s.size s.other s.ver)) (Stt.word (Stt.mk 1 z 0 r2))) fun b3 =>
 κ b3
def Xl (k : Int) (s : Stt) (z : Int) : T Bool := Vl g k s z .ret
theorem xja (k : Int) (s : Stt) (z : Int) (κ : Bool -> T β) : (Xl g k s z).bind κ = Vl g k s z κ := by
 unfold Xl Vl
 simp only [bz]
def Xm (to fr z : Int) (κ : Int -> T β) : T β :=
 (ja g to fr).bind fun r0 =>
 bif r0 then (κ (0)) else
 (kY g).bind fun r2 =>
 .op (.store (atF g 11 to) (Stt.word (Stt.mk (Stt.mk 2 z fr r2).kind (Stt.mk 2 z fr r2).size (Stt.mk 2 z fr r2).other (Stt.mk 2 z fr r2).ver))) fun _ =>
 κ r2
def kt (to fr z : Int) : T Int := Xm g to fr z .ret
theorem xga (to fr z : Int) (κ : Int -> T β) : (kt g to fr z).bind κ = Xm g to fr z κ := by
 unfold kt Xm
 simp only [bz]
def xjb (fr : Int) (s : Stt) (to v : Int) (κ : Bool -> T β) : T β :=
 (ja g fr to).bind fun r0 =>
 bif r0 then (κ (false)) else
 .op (.cas (atF g 11 fr) (Stt.word (Stt.mk s.kind s.size s.other s.ver)) (Stt.word (Stt.mk 3 0 to v))) fun b2 =>
 κ b2
def xdL (fr : Int) (s : Stt) (to v : Int) : T Bool := xjb g fr s to v .ret
theorem xps (fr : Int) (s : Stt) (to v : Int) (κ : Bool -> T β) : (xdL g fr s to v).bind κ = xjb g fr s to v κ := by
 unfold xdL xjb
 simp only [bz]
def Vm (to fr z v : Int) (κ : Unit -> T β) : T β :=
 (ja g to fr).bind fun r0 =>
 bif r0 then (κ ()) else
 .op (.cas (atF g 11 to) (Stt.word (Stt.mk (Stt.mk 2 z fr v).kind (Stt.mk 2 z fr v).size (Stt.mk 2 z fr v).other (Stt.mk 2 z fr v).ver)) (Stt.word (Stt.mk 1 z 0 v))) fun b2 =>
 .op (.store (atF g 11 fr) (0)) fun _ =>
 κ ()
def qj (to fr z v : Int) : T Unit := Vm g to fr z v .ret
theorem xjc (to fr z v : Int) (κ : Unit -> T β) : (qj g to fr z v).bind κ = Vm g to fr z v κ := by
 unfold qj Vm
 simp only [bz]
def xjd (to : Int) (κ : Unit -> T β) : T β :=
 (wO g to).bind fun r0 =>
 bif !r0 then (.op (.store (atF g 11 to) (0)) fun _ =>
 κ ()) else
 κ ()
def xdM (to : Int) : T Unit := xjd g to .ret
theorem xl2 (to : Int) (κ : Unit -> T β) : (xdM g to).bind κ = xjd g to κ := by
 unfold xdM xjd
 simp only [bz]
def xje (k : Int) (κ : Seen -> T β) : T β :=
 (wO g k).bind fun r0 =>
 bif r0 then (κ ⟨(0), (0), (0), (0), (false), (0)⟩) else
 .op (.load (atF g 11 k)) fun x2 =>
 .op (.steps ) fun x3 =>
 bif (wa x2).kind == 1 then (κ ⟨((wa x2).kind), ((wa x2).size), ((wa x2).other), ((wa x2).ver), (true), (x3)⟩) else
 bif (wa x2).kind == 2 then ((xcw g k x2).bind fun r6 =>
 bif r6.2 then (κ ⟨(r6.fst.kind), (r6.fst.size), (r6.fst.other), (r6.fst.ver), (r6.fst.live), (r6.fst.lin)⟩) else
 .fail) else
 κ ⟨(0), (0), (0), (0), (false), (x3)⟩
def Vn (k : Int) : T Seen := xje g k .ret
theorem xpt (k : Int) (κ : Seen -> T β) : (Vn g k).bind κ = xje g k κ := by
 unfold Vn xje
 simp only [bz]
def xak (o : Int) (κ : (Int × Bool) -> T β) : T β :=
 bif decide (o < 0) then (κ ((0), (false))) else
 bif Int.tmod o 8 == 0 then (bif decide (i64.wrap (Int.tdiv o 8) < 8) then (κ ((i64.wrap (Int.tdiv o 8)), (true))) else
 κ ((0), (false))) else
 κ ((0), (false))
def xdN (o : Int) : T (Int × Bool) := xak o .ret
theorem xgb (o : Int) (κ : (Int × Bool) -> T β) : (xdN o).bind κ = xak o κ := by
 unfold xdN xak
 simp only [bz]
def xal (o : Int) (κ : (Int × Bool) -> T β) : T β :=
 bif decide (o < 0) then (κ ((0), (false))) else
 bif Int.tmod o 16 == 0 then (bif decide (i64.wrap (Int.tdiv o 16) < 4) then (κ ((i64.wrap (Int.tdiv o 16)), (true))) else
 κ ((0), (false))) else
 κ ((0), (false))
def xdO (o : Int) : T (Int × Bool) := xal o .ret
theorem xgc (o : Int) (κ : (Int × Bool) -> T β) : (xdO o).bind κ = xal o κ := by
 unfold xdO xal
 simp only [bz]
def xam (o : Int) (κ : (Int × Bool) -> T β) : T β :=
 bif decide (o < 0) then (κ ((0), (false))) else
 bif Int.tmod o 24 == 0 then (bif decide (i64.wrap (Int.tdiv o 24) < 2) then (κ ((i64.wrap (Int.tdiv o 24)), (true))) else
 κ ((0), (false))) else
 κ ((0), (false))
def xdP (o : Int) : T (Int × Bool) := xam o .ret
theorem xgd (o : Int) (κ : (Int × Bool) -> T β) : (xdP o).bind κ = xam o κ := by
 unfold xdP xam
 simp only [bz]
def xan (o : Int) (κ : (Int × Bool) -> T β) : T β :=
 bif decide (o < 0) then (κ ((0), (false))) else
 bif Int.tmod o 32 == 0 then (bif decide (i64.wrap (Int.tdiv o 32) < 2) then (κ ((i64.wrap (Int.tdiv o 32)), (true))) else
 κ ((0), (false))) else
 κ ((0), (false))
def xdQ (o : Int) : T (Int × Bool) := xan o .ret
theorem xge (o : Int) (κ : (Int × Bool) -> T β) : (xdQ o).bind κ = xan o κ := by
 unfold xdQ xan
 simp only [bz]
def xsp (s a : Int) (κ : Int -> T β) : T β :=
 bif decide (s < 1) then (κ (-1)) else
 (Ve a).bind fun r1 =>
 bif !r1 then (κ (-1)) else
 bif decide (8 >= s) then (bif decide (8 >= a) then (κ (0)) else
 bif decide (16 >= s) then (bif decide (16 >= a) then (κ (1)) else
 bif decide (24 >= s) then (bif decide (8 >= a) then (κ (2)) else
 bif decide (32 >= s) then (bif decide (32 >= a) then (κ (3)) else
 κ (-1)) else
 κ (-1)) else
 bif decide (32 >= s) then (bif decide (32 >= a) then (κ (3)) else
 κ (-1)) else
 κ (-1)) else
 bif decide (24 >= s) then (bif decide (8 >= a) then (κ (2)) else
 bif decide (32 >= s) then (bif decide (32 >= a) then (κ (3)) else
 κ (-1)) else
 κ (-1)) else
 bif decide (32 >= s) then (bif decide (32 >= a) then (κ (3)) else
 κ (-1)) else
 κ (-1)) else
 bif decide (16 >= s) then (bif decide (16 >= a) then (κ (1)) else
 bif decide (24 >= s) then (bif decide (8 >= a) then (κ (2)) else
 bif decide (32 >= s) then (bif decide (32 >= a) then (κ (3)) else
 κ (-1)) else
 κ (-1)) else
 bif decide (32 >= s) then (bif decide (32 >= a) then (κ (3)) else
 κ (-1)) else
 κ (-1)) else
 bif decide (24 >= s) then (bif decide (8 >= a) then (κ (2)) else
 bif decide (32 >= s) then (bif decide (32 >= a) then (κ (3)) else
 κ (-1)) else
 κ (-1)) else
 bif decide (32 >= s) then (bif decide (32 >= a) then (κ (3)) else
 κ (-1)) else
 κ (-1)
def cofT (s a : Int) : T Int := xsp s a .ret
theorem xtx (s a : Int) (κ : Int -> T β) : (cofT s a).bind κ = xsp s a κ := by
 unfold cofT xsp
 simp only [bz]
def xpu : Sm := fun
 | [.c (.int .i64 n)], [] => some (mkS (Int) (logT n) fun r => some (.c (.int .i64 r), []))
 | _, _ => none
variable {σ : Type} {I : Port Tryz.prog σ}
theorem xvK (hl : SoundL I ka2) : SoundF I 257 xpu := by
 refine sq hl 1 Tryz.func257 fun _ _ t ht => ?_
 unfold xpu at ht
 split at ht
 ·rename_i n
  cases ht
  exact ey (xtw n _)
 ·cases ht
def xdR : Sm := fun
 | [.agg (.port :: gc), .c (.int .i64 p)], [] => (match xv gc with
   | some g => some (mkS (Int) (xai g p) fun r => some (.c (.int .i64 r), []))
   | _ => none)
 | _, _ => none
theorem xpv (hl : SoundL I ka2) : SoundF I 265 xdR := by
 refine sq hl 1 Tryz.func265 fun _ _ t ht => ?_
 unfold xdR at ht
 split at ht
 ·rename_i gc p
  split at ht
  ·rename_i g hg
   obtain rfl := xe hg
   cases ht
   exact ey (xlY g p _)
  ·cases ht
 ·cases ht
def xao : Sm := fun
 | [.agg (.port :: gc), .c (.int .i64 p)], [] => (match xv gc with
   | some g => some (mkS (Int) (Xk g p) fun r => some (.c (.int .i64 r), []))
   | _ => none)
 | _, _ => none
theorem xl3 (hl : SoundL I ka2) : SoundF I 266 xao := by
 refine sq hl 1 Tryz.func266 fun _ _ t ht => ?_
 unfold xao at ht
 split at ht
 ·rename_i gc p
  split at ht
  ·rename_i g hg
   obtain rfl := xe hg
   cases ht
   exact ey (xi5 g p _)
  ·cases ht
 ·cases ht
def xsq : Sm := gS fun
 | g, [.c (.int .i64 p), .c (.int .i64 k)] => some (mkS (Bool) (markT g p k) fun r => some (.c (.bool r), []))
 | _, _ => none
theorem xty (hl : SoundL I ka2) : SoundF I 85 xsq := by
 refine gsq hl 1 Tryz.func85 fun g l t ht => ?_
 split at ht
 ·rename_i p k
  cases ht
  exact ey (xpp g p k _)
 ·cases ht
def xdS : Sm := fun
 | [.agg (.port :: gc), .c (.int .i64 b), .agg cc], [] => (match shOf gc with
   | some (g, p) => (match Cls.of cc with
   | some c => some (mkS (Int) (xpq g p b c) fun r => some (.c (.int .i64 r), []))
   | _ => none)
   | _ => none)
 | _, _ => none
theorem xpw (hl : SoundL I ka2) : SoundF I 279 xdS := by
 refine sq hl 1 Tryz.func279 fun _ _ t ht => ?_
 unfold xdS at ht
 split at ht
 ·rename_i gc b cc
  split at ht
  ·rename_i g p hg
   obtain rfl := xde hg
   split at ht
   ·rename_i c hc
    obtain rfl := Cls.of_eq hc
    cases ht
    exact ey (xlZ g p b c _)
   ·cases ht
  ·cases ht
 ·cases ht
def xap : Sm := fun
 | [.agg cc], [] => (match Cls.of cc with
   | some c => some (mkS (Int) (xcy c) fun r => some (.c (.int .u8 r), []))
   | _ => none)
 | _, _ => none
theorem xl4 (hl : SoundL I ka2) : SoundF I 280 xap := by
 refine sq hl 1 Tryz.func280 fun _ _ t ht => ?_
 unfold xap at ht
 split at ht
 ·rename_i cc
  split at ht
  ·rename_i c hc
   obtain rfl := Cls.of_eq hc
   cases ht
   exact ey (xi8 c _)
  ·cases ht
 ·cases ht
def xdT : Sm := fun
 | [.agg bc], [] => (match Bt.of bc with
   | some b => some (mkS (Int) (firstT b) fun r => some (.c (.int .i64 r), []))
   | _ => none)
 | _, _ => none
theorem xpx (hl : SoundL I ka2) : SoundF I 278 xdT := by
 refine sq hl 1 Tryz.func278 fun _ _ t ht => ?_
 unfold xdT at ht
 split at ht
 ·rename_i bc
  split at ht
  ·rename_i b hb
   obtain rfl := Bt.of_eq hb
   cases ht
   exact ey (xl0 b _)
  ·cases ht
 ·cases ht
def xjf : Sm := fun
 | [.agg bc, .c (.int .i64 n)], [] => (match Bt.of bc with
   | some b => some (mkS (Bool) (xbB b n) fun r => some (.c (.bool r), []))
   | _ => none)
 | _, _ => none
theorem xtz (hl : SoundL I ka2) : SoundF I 269 xjf := by
 refine sq hl 1 Tryz.func269 fun _ _ t ht => ?_
 unfold xjf at ht
 split at ht
 ·rename_i bc n
  split at ht
  ·rename_i b hb
   obtain rfl := Bt.of_eq hb
   cases ht
   exact ey (xpr b n _)
  ·cases ht
 ·cases ht
def xl5 : Sm := gS fun
 | g, [.c (.int .i64 k), .c (.int .i64 s)] => some (mkS (Unit) (xaj g k s) fun r => some (.tup [], []))
 | _, _ => none
theorem xpy (hl : SoundL I ka2) : SoundF I 164 xl5 := by
 refine gsq hl 1 Tryz.func164 fun g l t ht => ?_
 split at ht
 ·rename_i k s
  cases ht
  exact ey (xl1 g k s _)
 ·cases ht
def xha : Sm := gS fun
 | g, [.c (.int .i64 k), .agg sc, .c (.int .i64 z)] => (match Stt.of sc with
   | some s => some (mkS (Bool) (Xl g k s z) fun r => some (.c (.bool r), []))
   | _ => none)
 | _, _ => none
theorem xl6 (hl : SoundL I ka2) : SoundF I 193 xha := by
 refine gsq hl 1 Tryz.func193 fun g l t ht => ?_
 split at ht
 ·rename_i k sc z
  split at ht
  ·rename_i s hs
   obtain rfl := Stt.of_eq hs
   cases ht
   exact ey (xja g k s z _)
  ·cases ht
 ·cases ht
def xdU : Sm := gS fun
 | g, [.c (.int .i64 to), .c (.int .i64 fr), .c (.int .i64 z)] => some (mkS (Int) (kt g to fr z) fun r => some (.c (.int .u32 r), []))
 | _, _ => none
theorem xjg (hl : SoundL I ka2) : SoundF I 195 xdU := by
 refine gsq hl 1 Tryz.func195 fun g l t ht => ?_
 split at ht
 ·rename_i to fr z
  cases ht
  exact ey (xga g to fr z _)
 ·cases ht
def xsr : Sm := gS fun
 | g, [.c (.int .i64 fr), .agg sc, .c (.int .i64 to), .c (.int .u32 v)] => (match Stt.of sc with
   | some s => some (mkS (Bool) (xdL g fr s to v) fun r => some (.c (.bool r), []))
   | _ => none)
 | _, _ => none
theorem xtA (hl : SoundL I ka2) : SoundF I 196 xsr := by
 refine gsq hl 1 Tryz.func196 fun g l t ht => ?_
 split at ht
 ·rename_i fr sc to v
  split at ht
  ·rename_i s hs
   obtain rfl := Stt.of_eq hs
   cases ht
   exact ey (xps g fr s to v _)
  ·cases ht
 ·cases ht
def xhb : Sm := gS fun
 | g, [.c (.int .i64 to), .c (.int .i64 fr), .c (.int .i64 z), .c (.int .u32 v)] => some (mkS (Unit) (qj g to fr z v) fun r => some (.tup [], []))
 | _, _ => none
theorem xl7 (hl : SoundL I ka2) : SoundF I 198 xhb := by
 refine gsq hl 1 Tryz.func198 fun g l t ht => ?_
 split at ht
 ·rename_i to fr z v
  cases ht
  exact ey (xjc g to fr z v _)
 ·cases ht
def xl8 : Sm := gS fun
 | g, [.c (.int .i64 to)] => some (mkS (Unit) (xdM g to) fun r => some (.tup [], []))
 | _, _ => none
theorem xpz (hl : SoundL I ka2) : SoundF I 197 xl8 := by
 refine gsq hl 1 Tryz.func197 fun g l t ht => ?_
 split at ht
 ·rename_i to
  cases ht
  exact ey (xl2 g to _)
 ·cases ht
def xss : Sm := gS fun
 | g, [.c (.int .i64 k)] => some (mkS (Seen) (Vn g k) fun r => some (.agg r.cells, []))
 | _, _ => none
theorem xtB (hl : SoundL I ka2) : SoundF I 115 xss := by
 refine gsq hl 1 Tryz.func115 fun g l t ht => ?_
 split at ht
 ·rename_i k
  cases ht
  exact ey (xpt g k _)
 ·cases ht
def YP : Sm := fun
 | [.c (.int .i64 0), .c (.int .i64 o)], [] => some (mkS ((Int × Bool)) (xdN o) fun r => some (.tup [.c (.int .i64 r.1), .c (.bool r.2)], []))
 | _, _ => none
theorem xjh (hl : SoundL I ka2) : SoundF I 177 YP := by
 refine sq hl 1 Tryz.func177 fun _ _ t ht => ?_
 unfold YP at ht
 split at ht
 ·rename_i o
  cases ht
  exact ey (xgb o _)
 ·cases ht
def YQ : Sm := fun
 | [.c (.int .i64 1), .c (.int .i64 o)], [] => some (mkS ((Int × Bool)) (xdO o) fun r => some (.tup [.c (.int .i64 r.1), .c (.bool r.2)], []))
 | _, _ => none
theorem xji (hl : SoundL I ka2) : SoundF I 177 YQ := by
 refine sq hl 1 Tryz.func177 fun _ _ t ht => ?_
 unfold YQ at ht
 split at ht
 ·rename_i o
  cases ht
  exact ey (xgc o _)
 ·cases ht
def YR : Sm := fun
 | [.c (.int .i64 2), .c (.int .i64 o)], [] => some (mkS ((Int × Bool)) (xdP o) fun r => some (.tup [.c (.int .i64 r.1), .c (.bool r.2)], []))
 | _, _ => none
theorem xjj (hl : SoundL I ka2) : SoundF I 177 YR := by
 refine sq hl 1 Tryz.func177 fun _ _ t ht => ?_
 unfold YR at ht
 split at ht
 ·rename_i o
  cases ht
  exact ey (xgd o _)
 ·cases ht
def YS : Sm := fun
 | [.c (.int .i64 3), .c (.int .i64 o)], [] => some (mkS ((Int × Bool)) (xdQ o) fun r => some (.tup [.c (.int .i64 r.1), .c (.bool r.2)], []))
 | _, _ => none
theorem xjk (hl : SoundL I ka2) : SoundF I 177 YS := by
 refine sq hl 1 Tryz.func177 fun _ _ t ht => ?_
 unfold YS at ht
 split at ht
 ·rename_i o
  cases ht
  exact ey (xge o _)
 ·cases ht
def xpA : Sm := fun
 | [.c (.int .i64 s), .c (.int .i64 a)], [] => some (mkS (Int) (cofT s a) fun r => some (.c (.int .i64 r), []))
 | _, _ => none
theorem xvL (hl : SoundL I ka2) : SoundF I 75 xpA := by
 refine sq hl 6 Tryz.func75 fun _ _ t ht => ?_
 unfold xpA at ht
 split at ht
 ·rename_i s a
  cases ht
  exact ey (xtx s a _)
 ·cases ht
def ka3 : List (Nat × Sm) := (257, xpu) :: (265, xdR) :: (266, xao) :: (85, xsq) :: (279, xdS) :: (280, xap) :: (278, xdT) :: (269, xjf) :: (164, xl5) :: (193, xha) :: (195, xdU) :: (196, xsr) :: (198, xhb) :: (197, xl8) :: (115, xss) :: (177, (orSm YP (orSm YQ (orSm YR YS)))) :: (75, xpA) :: ka2
theorem s_ka3 : SoundL I ka3 := (.cons (xvK vo) (.cons (xpv vo) (.cons (xl3 vo) (.cons (xty vo) (.cons (xpw vo) (.cons (xl4 vo) (.cons (xpx vo) (.cons (xtz vo) (.cons (xpy vo) (.cons (xl6 vo) (.cons (xjg vo) (.cons (xtA vo) (.cons (xl7 vo) (.cons (xpz vo) (.cons (xtB vo) (.cons (SoundF.or (xjh vo) (SoundF.or (xji vo) (SoundF.or (xjj vo) (xjk vo)))) (.cons (xvL vo) vo)))))))))))))))))
end Lx
namespace Lx
open Go
def ofTK {β : Type} (g : Geo) (k : Int) (κ : Bool -> T β) : T β :=
 bif decide (k < 0) then κ false else
 bif decide (k >= i64.wrap (g.pages * 8)) then κ false else κ true
def ofT (g : Geo) (k : Int) : T Bool := ofTK g k .ret
theorem xl9 {β : Type} (g : Geo) (k : Int) (κ : Bool -> T β) : (ofT g k).bind κ = ofTK g k κ := by
 unfold ofT ofTK
 simp only [xhU, xhV]
def ofR (g : Geo) (k : Int) : Bool -> Option (V × Heap)
 | true => some (.tup [.agg (.port :: (g.cells ++ [.int .i64 (i64.wrap (k.tdiv 8))])), .c (.int .i64 (i64.wrap (k.tmod 8 * 8))), .c (.bool true)], [])
 | false => some (.tup [.agg (.nili :: List.replicate 23 (.int .i64 0)), .c (.int .i64 0), .c (.bool false)], [])
def m_ofT : Sm := fun
 | [.c .port, .agg gc, .c (.int .i64 k)], [] => (match xv gc with
  | some g => some ⟨Bool, ofT g k, ofR g k, fun _ κ => ofTK g k κ, fun _ κ => (xl9 g k κ).symm⟩
  | _ => none)
 | _, _ => none
variable {σ : Type} {I : Port Tryz.prog σ}
theorem s_m_ofT (hl : SoundL I ka3) : SoundF I 167 m_ofT := by
 refine sq hl 1 Tryz.func167 fun _ _ t ht => ?_
 unfold m_ofT at ht
 split at ht
 ·rename_i gc k
  split at ht
  ·rename_i g hg
   obtain rfl := xe hg
   cases ht
   exact ey (xl9 g k _)
  ·cases ht
 ·cases ht
def ka3b : List (Nat × Sm) := (167, m_ofT) :: ka3
theorem qk : SoundL I ka3b := .cons (s_m_ofT s_ka3) s_ka3
structure Fit where
 (page n at_ : Int)
def Fit.cells (r : Fit) : List C := [.int .i64 r.page, .int .i64 r.n, .int .i64 r.at_]
def Fit.of : List C -> Option Fit
 | [.int .i64 a, .int .i64 b, .int .i64 c] => some ⟨a, b, c⟩
 | _ => none
theorem Fit.of_eq {l : List C} {r : Fit} (h : Fit.of l = some r) : l = r.cells := by
 unfold Fit.of at h; split at h <;> cases h; rfl
structure Fnd where
 (grain : Int)
 (ok : Bool)
 (e : Int)
def Fnd.cells (r : Fnd) : List C := [.int .i64 r.grain, .bool r.ok, .int .i64 r.e]
def Fnd.of : List C -> Option Fnd
 | [.int .i64 a, .bool b, .int .i64 c] => some ⟨a, b, c⟩
 | _ => none
theorem Fnd.of_eq {l : List C} {r : Fnd} (h : Fnd.of l = some r) : l = r.cells := by
 unfold Fnd.of at h; split at h <;> cases h; rfl
def hdOf (l : List C) : Option (Geo × Int) :=
 match xv (l.take 22), l.drop 22 with
 | some g, [.int .u64 p] => some (g, p)
 | _, _ => none
theorem yq {l : List C} {g : Geo} {p : Int} (h : hdOf l = some (g, p)) : l = g.cells ++ [.int .u64 p] := by
 unfold hdOf at h
 split at h
 ·rename_i g' p' h1 h2
  cases h
  rw [<- List.take_append_drop 22 l, xe h1, h2]
 ·cases h
structure Rn where
 (grain size to usable : Int)
 (has : Bool)
def Rn.cells (r : Rn) : List C := [.int .i64 r.grain, .int .i64 r.size, .int .i64 r.to, .int .i64 r.usable, .bool r.has]
def Rn.of : List C -> Option Rn
 | [.int .i64 a, .int .i64 b, .int .i64 c, .int .i64 d, .bool e] => some ⟨a, b, c, d, e⟩
 | _ => none
theorem Rn.of_eq {l : List C} {r : Rn} (h : Rn.of l = some r) : l = r.cells := by
 unfold Rn.of at h; split at h <;> cases h; rfl
def rnOf (l : List C) : Option (Geo × Rn) :=
 match xv (l.take 22), Rn.of (l.drop 22) with
 | some g, some x => some (g, x)
 | _, _ => none
theorem Xn {l : List C} {g : Geo} {x : Rn} (h : rnOf l = some (g, x)) : l = g.cells ++ x.cells := by
 unfold rnOf at h
 split at h
 ·rename_i g' p' h1 h2
  cases h
  rw [<- List.take_append_drop 22 l, xe h1, Rn.of_eq h2]
 ·cases h
structure Cts where
 (allocs frees failures live bytes : Int)
def Cts.cells (r : Cts) : List C := [.int .u64 r.allocs, .int .u64 r.frees, .int .u64 r.failures, .int .u64 r.live, .int .u64 r.bytes]
def Cts.of : List C -> Option Cts
 | [.int .u64 a, .int .u64 b, .int .u64 c, .int .u64 d, .int .u64 e] => some ⟨a, b, c, d, e⟩
 | _ => none
theorem Cts.of_eq {l : List C} {r : Cts} (h : Cts.of l = some r) : l = r.cells := by
 unfold Cts.of at h; split at h <;> cases h; rfl
structure Res where
 (at_ n byte : Int)
 (c1 c2 c3 c4 c5 : Int)
 (e lin touch : Int)
def Res.cells (r : Res) : List C := [.int .i64 r.at_, .int .i64 r.n, .int .u8 r.byte, .int .u64 r.c1, .int .u64 r.c2, .int .u64 r.c3, .int .u64 r.c4, .int .u64 r.c5, .int .i64 r.e, .int .i64 r.lin, .int .i64 r.touch]
def Res.of : List C -> Option Res
 | [.int .i64 a, .int .i64 b, .int .u8 c, .int .u64 d, .int .u64 e, .int .u64 f, .int .u64 g, .int .u64 h, .int .i64 i, .int .i64 j, .int .i64 k] => some ⟨a, b, c, d, e, f, g, h, i, j, k⟩
 | _ => none
theorem Res.of_eq {l : List C} {r : Res} (h : Res.of l = some r) : l = r.cells := by
 unfold Res.of at h; split at h <;> cases h; rfl
structure Cal where
 (op size n align at_ off byte : Int)
def Cal.cells (r : Cal) : List C := [.int .u8 r.op, .int .i64 r.size, .int .i64 r.n, .int .i64 r.align, .int .i64 r.at_, .int .i64 r.off, .int .u8 r.byte]
def Cal.of : List C -> Option Cal
 | [.int .u8 a, .int .i64 b, .int .i64 c, .int .i64 d, .int .i64 e, .int .i64 f, .int .u8 g] => some ⟨a, b, c, d, e, f, g⟩
 | _ => none
theorem Cal.of_eq {l : List C} {r : Cal} (h : Cal.of l = some r) : l = r.cells := by
 unfold Cal.of at h; split at h <;> cases h; rfl
def listR (l : List Int) : V × Heap := match l with
 | [] => (.c .nils, [])
 | _ :: _ => (.c (.slg 0 0 l.length), [some ⟨l.map (.int .i64), 3, true, none⟩])
end Lx
namespace Lx
variable {β : Type} (g : Geo)
open Go
def jb (a0 a1 : Int) (b2 : Bool) (g4 : Geo) (κ0 : Int -> T β) (κ1 : Unit -> T β) (i : Int) (k : Int -> T β) : T β :=
 bif decide (i < 8) then (.op (.load (atF g4 18 (inF (i64.wrap (a0 - 1)) i 8))) fun x1 =>
 bif x1 != 0 then (.op (.cas (atF g4 18 (inF (i64.wrap (a0 - 1)) i 8)) x1 (0)) fun b3 =>
 bif b3 then (κ0 x1) else
 k (i64.wrap (i + 1))) else
 k (i64.wrap (i + 1))) else
 κ1 ()
def vE (a0 a1 : Int) (b2 : Bool) (g4 : Geo) (a3 : Int) (κ0 : Int -> T β) (κ1 : Unit -> T β) : T β := xq xa (jb a0 a1 b2 g4 κ0 κ1) a3
theorem xaq {β γ : Type} (a0 a1 : Int) (b2 : Bool) (g4 : Geo) (a3 : Int) (κ0 : Int -> T β) (κ1 : Unit -> T β) (κ : β -> T γ) : (vE a0 a1 b2 g4 a3 κ0 κ1).bind κ = vE a0 a1 b2 g4 a3 (fun ae0 => (κ0 ae0).bind κ) (fun u => (κ1 u).bind κ) := by
 unfold vE
 refine xj κ (fun i k => ?_) _ _
 unfold jb
 simp only [bz]
def Vo : Pat := ⟨xm 38 0 [(0, .c (.raw (.port))), (2, .c (.int .i64)), (4, .c (.raw (.ptr 0 0))), (6, .c (.int .u64)), (7, .c (.bool)), (10, .c (.int .i64))], [some ⟨[.geo], 24, false, none⟩]⟩
def wz : Pat := ⟨xm 38 0 [(6, .c (.int .u64)), (7, .c (.bool))], []⟩
def jc : LF := fun st K => match xt Vo st with
 | some [.i a0, .i a1, .b b2, .i a3, .g g4] => some (vE a0 a1 b2 g4 a3 (fun ae0 => K (.ret) (xd wz [.i ae0, .b true])) (fun _ => K (.exit 0) (xd wz [.i a1, .b b2])))
 | _ => none
theorem xjl : ∀ st K t, jc st K = some t -> xB xa (lf ka3b xa 0 .no [1, 0, 1, 0] Tryz.f286 K) st = t := by
 intro st K t h
 unfold jc at h
 split at h
 ·rename_i a0 a1 b2 a3 g4 hm
  cases h
  rw [xk hm]
  exact xu (S := fun i => xd Vo [.i a0, .i a1, .b b2, .i i, .g g4]) (B := jb a0 a1 b2 g4 (fun ae0 => K (.ret) (xd wz [.i ae0, .b true])) (fun _ => K (.exit 0) (xd wz [.i a1, .b b2]))) (fun i k => by kernel_rfl) xa a3
 ·cases h
def Xo (nd : Int) (κ : (Int × Bool) -> T β) : T β :=
 vE (nd) (0) (false) (g) (0) (fun y0_0 =>
 κ (y0_0, (true))) (fun y0_0 =>
 κ ((0), (false)))
def ku (nd : Int) : T (Int × Bool) := Xo g nd .ret
theorem xgf (nd : Int) (κ : (Int × Bool) -> T β) : (ku g nd).bind κ = Xo g nd κ := by
 unfold ku Xo
 simp only [bz, xaq]
def Vp (n : Int) (l : Bool) (κ : Unit -> T β) : T β :=
 bif l then ((logT n).bind fun r1 =>
 .op (.add (atF g 3 r1) (18446744073709551615)) fun x2 =>
 κ ()) else
 (logT n).bind fun r1 =>
 .op (.add (atF g 3 r1) (1)) fun x2 =>
 κ ()
def vP (n : Int) (l : Bool) : T Unit := Vp g n l .ret
theorem xjm (n : Int) (l : Bool) (κ : Unit -> T β) : (vP g n l).bind κ = Vp g n l κ := by
 unfold vP Vp
 simp only [bz]
def xcA (b0 : Bool) (g2 : Geo) (κ0 : Unit -> T β) (κ1 : Unit -> T β) (i : Int) (k : Int -> T β) : T β :=
 bif decide (i < 9) then (.op (.load (atF g2 3 i)) fun x1 =>
 bif x1 != 0 then (κ0 ()) else
 k (i64.wrap (i + 1))) else
 κ1 ()
def Xp (b0 : Bool) (g2 : Geo) (a1 : Int) (κ0 : Unit -> T β) (κ1 : Unit -> T β) : T β := xq xa (xcA b0 g2 κ0 κ1) a1
theorem xjn {β γ : Type} (b0 : Bool) (g2 : Geo) (a1 : Int) (κ0 : Unit -> T β) (κ1 : Unit -> T β) (κ : β -> T γ) : (Xp b0 g2 a1 κ0 κ1).bind κ = Xp b0 g2 a1 (fun u => (κ0 u).bind κ) (fun u => (κ1 u).bind κ) := by
 unfold Xp
 refine xj κ (fun i k => ?_) _ _
 unfold xcA
 simp only [bz]
def xma : Pat := ⟨xm 22 0 [(2, .c (.raw (.ptr 0 0))), (4, .c (.bool)), (5, .c (.int .i64))], [some ⟨[.raw (.port), .geo], 212, false, none⟩]⟩
def Xq : Pat := ⟨xm 22 0 [(4, .c (.bool))], []⟩
def xcB : LF := fun st K => match xt xma st with
 | some [.b b0, .i a1, .g g2] => some (Xp b0 g2 a1 (fun _ => K (.ret) (xd Xq [.b true])) (fun _ => K (.exit 0) (xd Xq [.b b0])))
 | _ => none
theorem xvM : ∀ st K t, xcB st K = some t -> xB xa (lf ka3b xa 0 .no [1, 0, 1, 0] Tryz.f281 K) st = t := by
 intro st K t h
 unfold xcB at h
 split at h
 ·rename_i b0 a1 g2 hm
  cases h
  rw [xk hm]
  exact xu (S := fun i => xd xma [.b b0, .i i, .g g2]) (B := xcA b0 g2 (fun _ => K (.ret) (xd Xq [.b true])) (fun _ => K (.exit 0) (xd Xq [.b b0]))) (fun i k => by kernel_rfl) xa a1
 ·cases h
def xst (k : Int) (κ : Bool -> T β) : T β :=
 (logT k).bind fun r0 =>
 Xp (false) (g) r0 (fun y1_0 =>
 κ (true)) (fun y1_0 =>
 κ (false))
def anyT (k : Int) : T Bool := xst g k .ret
theorem xtC (k : Int) (κ : Bool -> T β) : (anyT g k).bind κ = xst g k κ := by
 unfold anyT xst
 simp only [bz, xjn]
def xdV (c o : Int) (κ : (Int × Bool) -> T β) : T β :=
 bif decide (c < 0) then (κ ((0), (false))) else
 bif decide (c >= 4) then (κ ((0), (false))) else
 bif decide (o < 0) then (κ ((0), (false))) else
 bif decide (0 <= c /\ c < 4) then (bif bif (bif c == 0 then (8 : Int) else bif c == 1 then (16 : Int) else bif c == 2 then (24 : Int) else (32 : Int)) == 0 then false else true then (bif bif (bif c == 0 then (8 : Int) else bif c == 1 then (16 : Int) else bif c == 2 then (24 : Int) else (32 : Int)) == 0 then false else true then (bif Int.tmod o (bif c == 0 then (8 : Int) else bif c == 1 then (16 : Int) else bif c == 2 then (24 : Int) else (32 : Int)) == 0 then (bif decide (i64.wrap (Int.tdiv o (bif c == 0 then (8 : Int) else bif c == 1 then (16 : Int) else bif c == 2 then (24 : Int) else (32 : Int))) < bif c == 0 then (8 : Int) else bif c == 1 then (4 : Int) else bif c == 2 then (2 : Int) else (2 : Int)) then (κ ((i64.wrap (Int.tdiv o (bif c == 0 then (8 : Int) else bif c == 1 then (16 : Int) else bif c == 2 then (24 : Int) else (32 : Int)))), (true))) else
 κ ((0), (false))) else
 κ ((0), (false))) else
 .fail) else
 .fail) else
 .fail
def Xr (c o : Int) : T (Int × Bool) := xdV c o .ret
theorem xjo (c o : Int) (κ : (Int × Bool) -> T β) : (Xr c o).bind κ = xdV c o κ := by
 unfold Xr xdV
 simp only [bz]
def xpB (p k : Int) (κ : Int -> T β) : T β :=
 (isT g p k).bind fun r0 =>
 bif !r0 then (κ (-1)) else
 bif decide (0 <= k /\ k < 4) then (.op (.self ) fun x3 =>
 .op (.store (atF g 7 p) (Pg.word (Pg.mk 3 1 k x3))) fun _ =>
 (Yy g p).bind fun r5 =>
 (xcy (Cls.mk (bif k == 0 then (8 : Int) else bif k == 0 + 1 then (16 : Int) else bif k == 0 + 1 + 1 then (24 : Int) else (32 : Int)) (bif k == 0 then (8 : Int) else bif k == 0 + 1 then (16 : Int) else bif k == 0 + 1 + 1 then (8 : Int) else (32 : Int)) (bif k == 0 then (8 : Int) else bif k == 0 + 1 then (4 : Int) else bif k == 0 + 1 + 1 then (2 : Int) else (2 : Int)))).bind fun r6 =>
 .op (.store (atF g 8 p) (Bt.word (Bt.mk (bits BinOp.andNot u8 r6 1) true k (u32.wrap (r5.ver + 1))))) fun _ =>
 κ (i64.wrap (i64.wrap (p * 8) + i64.wrap (Int.tdiv (i64.wrap (0 * bif k == 0 then (8 : Int) else bif k == 1 then (16 : Int) else bif k == 2 then (24 : Int) else (32 : Int))) 8)))) else
 .fail
def xhc (p k : Int) : T Int := xpB g p k .ret
theorem xpC (p k : Int) (κ : Int -> T β) : (xhc g p k).bind κ = xpB g p k κ := by
 unfold xhc xpB
 simp only [bz]
def Xs (a0 a1 : Int) (b2 : Bool) (g3 : Geo) (a4 : Int) (κ0 : Unit -> T β) (κ1 : Int -> T β) (i : Unit) (k : Unit -> T β) : T β :=
 (isT g3 a4 a0).bind fun r0 =>
 bif r0 then ((Yy g3 a4).bind fun r2 =>
 (firstT { map := r2.map, has := r2.has, cls := r2.cls, ver := r2.ver }).bind fun r3 =>
 bif !r2.has then (κ0 ()) else
 bif r2.cls != a0 then (κ0 ()) else
 bif decide (r3 < 0) then (κ0 ()) else
 bif bif decide (r3 < 0) then false else true then ((Zi g3 a4 { map := r2.map, has := r2.has, cls := r2.cls, ver := r2.ver }   {     map :=       bits BinOp.andNot u8 r2.map         (u8.wrap           (1 * 2 ^ if Int.toNat r3 <= nat_lit 8 then Int.toNat r3 else nat_lit 8)),     has := r2.has, cls := r2.cls, ver := r2.ver }).bind fun r8 =>
 bif r8 then (bif decide (0 <= a0 /\ a0 < 4) then (κ1 (i64.wrap   (i64.wrap (a4 * 8) +     i64.wrap       (Int.tdiv         (i64.wrap           (r3 *             bif a0 == 0 then (8 : Int)             else bif a0 == 1 then (16 : Int) else bif a0 == 2 then (24 : Int) else (32 : Int)))         8)))) else
 .fail) else
 k ()) else
 .fail) else
 κ0 ()
def wY (a0 a1 : Int) (b2 : Bool) (g3 : Geo) (a4 : Int)  (κ0 : Unit -> T β) (κ1 : Int -> T β) : T β := xq xa (Xs a0 a1 b2 g3 a4 κ0 κ1) ()
theorem xdW {β γ : Type} (a0 a1 : Int) (b2 : Bool) (g3 : Geo) (a4 : Int)  (κ0 : Unit -> T β) (κ1 : Int -> T β) (κ : β -> T γ) : (wY a0 a1 b2 g3 a4  κ0 κ1).bind κ = wY a0 a1 b2 g3 a4  (fun u => (κ0 u).bind κ) (fun ae0 => (κ1 ae0).bind κ) := by
 unfold wY
 refine xj κ (fun i k => ?_) _ _
 unfold Xs
 simp only [bz]
def xdX : Pat := ⟨xm 56 0 [(3, .c (.int .i64)), (8, .c (.int .i64)), (9, .c (.bool)), (10, .c (.raw (.ptr 1 0)))], [none, some ⟨[.raw (.port), .geo, .int .i64], 234, false, none⟩]⟩
def jd : Pat := ⟨xm 56 0 [(8, .c (.int .i64)), (9, .c (.bool))], []⟩
def Xt : LF := fun st K => match xt xdX st with
 | some [.i a0, .i a1, .b b2, .g g3, .i a4] => some (wY a0 a1 b2 g3 a4  (fun _ => K (.exit 0) (xd jd [.i a1, .b b2])) (fun ae0 => K (.ret) (xd jd [.i ae0, .b true])))
 | _ => none
theorem xpD : ∀ st K t, Xt st K = some t -> xB xa (lf ka3b xa 0 .no [1, 1, 0, 0] Tryz.f261 K) st = t := by
 intro st K t h
 unfold Xt at h
 split at h
 ·rename_i a0 a1 b2 g3 a4 hm
  cases h
  rw [xk hm]
  exact xu (S := fun i => xd xdX [.i a0, .i a1, .b b2, .g g3, .i a4]) (B := Xs a0 a1 b2 g3 a4 (fun _ => K (.exit 0) (xd jd [.i a1, .b b2])) (fun ae0 => K (.ret) (xd jd [.i ae0, .b true]))) (fun i k => by kernel_rfl) xa ()
 ·cases h
def xcC (p k : Int) (κ : (Int × Bool) -> T β) : T β :=
 wY (k) (0) (false) (g) (p) (fun y0_0 =>
 κ ((0), (false))) (fun y0_0 =>
 κ (y0_0, (true)))
def xar (p k : Int) : T (Int × Bool) := xcC g p k .ret
theorem xmb (p k : Int) (κ : (Int × Bool) -> T β) : (xar g p k).bind κ = xcC g p k κ := by
 unfold xar xcC
 simp only [bz, xdW]
def Vq (a0 : Int) (b1 b2 : Bool) (g3 : Geo) (a4 : Int) (κ0 : Unit -> T β) (κ1 : Unit -> T β) (i : Unit) (k : Unit -> T β) : T β :=
 bif b2 then (.op (.load (atF g3 9 a4)) fun x1 =>
 .op (.store (atF g3 10 a0) x1) fun _ =>
 .op (.cas (atF g3 9 a4) x1 (u64.wrap (u64.wrap a0 + 1))) fun b3 =>
 bif b3 then (κ0 ()) else
 k ()) else
 κ1 ()
def jC (a0 : Int) (b1 b2 : Bool) (g3 : Geo) (a4 : Int)  (κ0 : Unit -> T β) (κ1 : Unit -> T β) : T β := xq xa (Vq a0 b1 b2 g3 a4 κ0 κ1) ()
theorem xgg {β γ : Type} (a0 : Int) (b1 b2 : Bool) (g3 : Geo) (a4 : Int)  (κ0 : Unit -> T β) (κ1 : Unit -> T β) (κ : β -> T γ) : (jC a0 b1 b2 g3 a4  κ0 κ1).bind κ = jC a0 b1 b2 g3 a4  (fun u => (κ0 u).bind κ) (fun u => (κ1 u).bind κ) := by
 unfold jC
 refine xj κ (fun i k => ?_) _ _
 unfold Vq
 simp only [bz]
def xhd : Pat := ⟨xm 60 0 [(2, .c (.int .i64)), (6, .c (.bool)), (7, .c (.raw (.ptr 1 0))), (9, .c (.bool))], [none, some ⟨[.raw (.port), .geo, .int .i64], 234, false, none⟩]⟩
def ql : Pat := ⟨xm 60 0 [(6, .c (.bool))], []⟩
def Vr : LF := fun st K => match xt xhd st with
 | some [.i a0, .b b1, .b b2, .g g3, .i a4] => some (jC a0 b1 b2 g3 a4  (fun _ => K (.ret) (xd ql [.b true])) (fun _ => K (.exit 0) (xd ql [.b b1])))
 | _ => none
theorem xtD : ∀ st K t, Vr st K = some t -> xB xa (lf ka3b xa 0 .no [1, 1, 0, 0] Tryz.f88 K) st = t := by
 intro st K t h
 unfold Vr at h
 split at h
 ·rename_i a0 b1 b2 g3 a4 hm
  cases h
  rw [xk hm]
  exact xu (S := fun i => xd xhd [.i a0, .b b1, .b b2, .g g3, .i a4]) (B := Vq a0 b1 b2 g3 a4 (fun _ => K (.ret) (xd ql [.b true])) (fun _ => K (.exit 0) (xd ql [.b b1]))) (fun i k => by kernel_rfl) xa ()
 ·cases h
def xjp (k : Int) (κ : Bool -> T β) : T β :=
 bif decide (k < 0) then (κ (false)) else
 bif decide (k >= i64.wrap (g.pages * 8)) then (κ (false)) else
 jC (k) (false) (true) (g) (i64.wrap (Int.tdiv k 8)) (fun y2_0 =>
 κ (true)) (fun y2_0 =>
 κ (false))
def xhe (k : Int) : T Bool := xjp g k .ret
theorem xpE (k : Int) (κ : Bool -> T β) : (xhe g k).bind κ = xjp g k κ := by
 unfold xhe xjp
 simp only [bz, xgg]
def xjq (k : Int) (κ : Pg -> T β) : T β :=
 bif decide (k < 0) then (κ ⟨(0), (0), (0), (0)⟩) else
 bif decide (k >= i64.wrap (g.pages * 8)) then (κ ⟨(0), (0), (0), (0)⟩) else
 .op (.load (atF g 7 (i64.wrap (Int.tdiv k 8)))) fun x2 =>
 κ ⟨(if (IntKind.signed i64 && decide (bits BinOp.and u64 (Int.fdiv x2 1) 7 % 18446744073709551616 >= 9223372036854775808)) = true then bits BinOp.and u64 (Int.fdiv x2 1) 7 % 18446744073709551616 - 18446744073709551616 else bits BinOp.and u64 (Int.fdiv x2 1) 7 % 18446744073709551616), (if (IntKind.signed i64 && decide (bits BinOp.and u64 (Int.fdiv x2 8) 1023 % 18446744073709551616 >= 9223372036854775808)) = true then bits BinOp.and u64 (Int.fdiv x2 8) 1023 % 18446744073709551616 - 18446744073709551616 else bits BinOp.and u64 (Int.fdiv x2 8) 1023 % 18446744073709551616), (if (IntKind.signed i64 && decide (bits BinOp.and u64 (Int.fdiv x2 8192) 3 % 18446744073709551616 >= 9223372036854775808)) = true then bits BinOp.and u64 (Int.fdiv x2 8192) 3 % 18446744073709551616 - 18446744073709551616 else bits BinOp.and u64 (Int.fdiv x2 8192) 3 % 18446744073709551616), (if (IntKind.signed i64 && decide (bits BinOp.and u64 (Int.fdiv x2 65536) 127 % 18446744073709551616 >= 9223372036854775808)) = true then bits BinOp.and u64 (Int.fdiv x2 65536) 127 % 18446744073709551616 - 18446744073709551616 else bits BinOp.and u64 (Int.fdiv x2 65536) 127 % 18446744073709551616)⟩
def vX (k : Int) : T Pg := xjq g k .ret
theorem xpF (k : Int) (κ : Pg -> T β) : (vX g k).bind κ = xjq g k κ := by
 unfold vX xjq
 simp only [bz]
def YT : Sm := fun
 | [.c .port, .agg gc, .c (.int .i64 nd)], [] => (match xv gc with
   | some g => some (mkS ((Int × Bool)) (ku g nd) fun r => some (.tup [.c (.int .u64 r.1), .c (.bool r.2)], []))
   | _ => none)
 | _, _ => none
theorem xgh : Good Tryz.prog (xo ka3b) xa 0 (lsAt jc .no [1, 0, 1, 0]) (Tryz.f286.body.getD .skip) (xr Tryz.f286.results.toList) := xA (xh (by kernel_rfl)) xz xjl
variable {σ : Type} {I : Port Tryz.prog σ}
theorem xjr (hl : SoundL I ka3b) : SoundF I 286 YT := by
 refine sq hl xa Tryz.func286 fun _ _ t ht => ?_
 unfold YT at ht
 split at ht
 ·rename_i gc nd
  split at ht
  ·rename_i g hg
   obtain rfl := xe hg
   cases ht
   refine (xD (P := Tryz.prog) (n := xa) (x := (lsAt jc .no [1, 0, 1, 0])) (fn := Tryz.f286) (H := []) (c := Tryz.f286.body.getD .skip) (xh (by kernel_rfl)) xgh).symm.trans ?_
   exact ey (xgf g nd _)
  ·cases ht
 ·cases ht
def xas : Sm := fun
 | [.agg (.port :: gc), .c (.int .i64 n), .c (.bool l)], [] => (match xv gc with
   | some g => some (mkS (Unit) (vP g n l) fun r => some (.tup [], []))
   | _ => none)
 | _, _ => none
theorem xmc (hl : SoundL I ka3b) : SoundF I 223 xas := by
 refine sq hl 1 Tryz.func223 fun _ _ t ht => ?_
 unfold xas at ht
 split at ht
 ·rename_i gc n l
  split at ht
  ·rename_i g hg
   obtain rfl := xe hg
   cases ht
   exact ey (xjm g n l _)
  ·cases ht
 ·cases ht
def xpG : Sm := fun
 | [.agg (.port :: gc), .c (.int .i64 k)], [] => (match xv gc with
   | some g => some (mkS (Bool) (anyT g k) fun r => some (.c (.bool r), []))
   | _ => none)
 | _, _ => none
theorem xtE : Good Tryz.prog (xo ka3b) xa 0 (lsAt xcB .no [1, 0, 1, 0]) (Tryz.f281.body.getD .skip) (xr Tryz.f281.results.toList) := xA (xh (by kernel_rfl)) xz xvM
theorem xvN (hl : SoundL I ka3b) : SoundF I 281 xpG := by
 refine sq hl xa Tryz.func281 fun _ _ t ht => ?_
 unfold xpG at ht
 split at ht
 ·rename_i gc k
  split at ht
  ·rename_i g hg
   obtain rfl := xe hg
   cases ht
   refine (xD (P := Tryz.prog) (n := xa) (x := (lsAt xcB .no [1, 0, 1, 0])) (fn := Tryz.f281) (H := []) (c := Tryz.f281.body.getD .skip) (xh (by kernel_rfl)) xtE).symm.trans ?_
   exact ey (xtC g k _)
  ·cases ht
 ·cases ht
def xat : Sm := fun
 | [.c (.int .i64 c), .c (.int .i64 o)], [] => some (mkS ((Int × Bool)) (Xr c o) fun r => some (.tup [.c (.int .i64 r.1), .c (.bool r.2)], []))
 | _, _ => none
theorem xmd (hl : SoundL I ka3b) : SoundF I 177 xat := by
 refine sq hl 1 Tryz.func177 fun _ _ t ht => ?_
 unfold xat at ht
 split at ht
 ·rename_i c o
  cases ht
  exact ey (xjo c o _)
 ·cases ht
def xsu : Sm := gS fun
 | g, [.c (.int .i64 p), .c (.int .i64 k)] => some (mkS (Int) (xhc g p k) fun r => some (.c (.int .i64 r), []))
 | _, _ => none
theorem xtF (hl : SoundL I ka3b) : SoundF I 262 xsu := by
 refine gsq hl 1 Tryz.func262 fun g l t ht => ?_
 split at ht
 ·rename_i p k
  cases ht
  exact ey (xpC g p k _)
 ·cases ht
def xdY : Sm := fun
 | [.c .port, .agg gc, .c (.int .i64 p), .c (.int .i64 k)], [] => (match xv gc with
   | some g => some (mkS ((Int × Bool)) (xar g p k) fun r => some (.tup [.c (.int .i64 r.1), .c (.bool r.2)], []))
   | _ => none)
 | _, _ => none
theorem xme : Good Tryz.prog (xo ka3b) xa 0 (lsAt Xt .no [1, 1, 0, 0]) (Tryz.f261.body.getD .skip) (xr Tryz.f261.results.toList) := xA (xh (by kernel_rfl)) xz xpD
theorem xpH (hl : SoundL I ka3b) : SoundF I 261 xdY := by
 refine sq hl xa Tryz.func261 fun _ _ t ht => ?_
 unfold xdY at ht
 split at ht
 ·rename_i gc p k
  split at ht
  ·rename_i g hg
   obtain rfl := xe hg
   cases ht
   refine (xD (P := Tryz.prog) (n := xa) (x := (lsAt Xt .no [1, 1, 0, 0])) (fn := Tryz.f261) (H := []) (c := Tryz.f261.body.getD .skip) (xh (by kernel_rfl)) xme).symm.trans ?_
   exact ey (xmb g p k _)
  ·cases ht
 ·cases ht
def xjs : Sm := fun
 | [.c .port, .agg gc, .c (.int .i64 k)], [] => (match xv gc with
   | some g => some (mkS (Bool) (xhe g k) fun r => some (.c (.bool r), []))
   | _ => none)
 | _, _ => none
theorem xpI : Good Tryz.prog (xo ka3b) xa 0 (lsAt Vr .no [1, 1, 0, 0]) (Tryz.f88.body.getD .skip) (xr Tryz.f88.results.toList) := xA (xh (by kernel_rfl)) xz xtD
theorem xtG (hl : SoundL I ka3b) : SoundF I 88 xjs := by
 refine sq hl xa Tryz.func88 fun _ _ t ht => ?_
 unfold xjs at ht
 split at ht
 ·rename_i gc k
  split at ht
  ·rename_i g hg
   obtain rfl := xe hg
   cases ht
   refine (xD (P := Tryz.prog) (n := xa) (x := (lsAt Vr .no [1, 1, 0, 0])) (fn := Tryz.f88) (H := []) (c := Tryz.f88.body.getD .skip) (xh (by kernel_rfl)) xpI).symm.trans ?_
   exact ey (xpE g k _)
  ·cases ht
 ·cases ht
def xsv : Sm := gS fun
 | g, [.c (.int .i64 k)] => some (mkS (Pg) (vX g k) fun r => some (.agg r.cells, []))
 | _, _ => none
theorem xtH (hl : SoundL I ka3b) : SoundF I 84 xsv := by
 refine gsq hl 1 Tryz.func84 fun g l t ht => ?_
 split at ht
 ·rename_i k
  cases ht
  exact ey (xpF g k _)
 ·cases ht
def ka4 : List (Nat × Sm) := (286, YT) :: (223, xas) :: (281, xpG) :: (177, xat) :: (262, xsu) :: (261, xdY) :: (88, xjs) :: (84, xsv) :: ka3b
theorem YA : SoundL I ka4 := (.cons (xjr qk) (.cons (xmc qk) (.cons (xvN qk) (.cons (xmd qk) (.cons (xtF qk) (.cons (xpH qk) (.cons (xtG qk) (.cons (xtH qk) qk))))))))
end Lx
namespace Lx
variable {β : Type} (g : Geo)
open Go
def xau (b0 : Bool) (a1 : Int) (b2 : Bool) (g3 : Geo) (a4 : Int) (κ0 : Unit -> T β) (κ1 : Unit -> T β) (i : Unit) (k : Unit -> T β) : T β :=
 bif b2 then ((Yy g3 a4).bind fun r1 =>
 (Xr r1.cls a1).bind fun r2 =>
 bif !r1.has then (κ0 ()) else
 bif !r2.2 then (κ0 ()) else
 bif bif decide (r2.1 < 0) then false else true then (bif bits BinOp.and u8     (Int.fdiv r1.map (2 ^ if Int.toNat r2.1 <= nat_lit 8 then Int.toNat r2.1 else nat_lit 8)) 1 ==   1 then (κ0 ()) else
 bif bif decide (r2.1 < 0) then false else true then ((Zi g3 a4 { map := r1.map, has := r1.has, cls := r1.cls, ver := r1.ver }   {     map :=       bits BinOp.or u8 r1.map         (u8.wrap           (1 * 2 ^ if Int.toNat r2.1 <= nat_lit 8 then Int.toNat r2.1 else nat_lit 8)),     has := r1.has, cls := r1.cls, ver := r1.ver }).bind fun r8 =>
 bif r8 then (κ1 ()) else
 k ()) else
 .fail) else
 .fail) else
 κ0 ()
def we (b0 : Bool) (a1 : Int) (b2 : Bool) (g3 : Geo) (a4 : Int)  (κ0 : Unit -> T β) (κ1 : Unit -> T β) : T β := xq xa (xau b0 a1 b2 g3 a4 κ0 κ1) ()
theorem xdZ {β γ : Type} (b0 : Bool) (a1 : Int) (b2 : Bool) (g3 : Geo) (a4 : Int)  (κ0 : Unit -> T β) (κ1 : Unit -> T β) (κ : β -> T γ) : (we b0 a1 b2 g3 a4  κ0 κ1).bind κ = we b0 a1 b2 g3 a4  (fun u => (κ0 u).bind κ) (fun u => (κ1 u).bind κ) := by
 unfold we
 refine xj κ (fun i k => ?_) _ _
 unfold xau
 simp only [bz]
def xd0 : Pat := ⟨xm 58 0 [(6, .c (.bool)), (7, .c (.raw (.ptr 1 0))), (8, .c (.int .i64)), (9, .c (.bool))], [none, some ⟨[.raw (.port), .geo, .int .i64], 234, false, none⟩]⟩
def xbC : Pat := ⟨xm 58 0 [(6, .c (.bool))], []⟩
def Xu : LF := fun st K => match xt xd0 st with
 | some [.b b0, .i a1, .b b2, .g g3, .i a4] => some (we b0 a1 b2 g3 a4  (fun _ => K (.exit 0) (xd xbC [.b b0])) (fun _ => K (.ret) (xd xbC [.b true])))
 | _ => none
theorem xpJ : ∀ st K t, Xu st K = some t -> xB xa (lf ka4 xa 0 .no [1, 1, 0, 0] Tryz.f91 K) st = t := by
 intro st K t h
 unfold Xu at h
 split at h
 ·rename_i b0 a1 b2 g3 a4 hm
  cases h
  rw [xk hm]
  unfold we
  exact xu (S := fun (i : Unit) => xd xd0 [.b b0, .i a1, .b b2, .g g3, .i a4]) (fun i k => by kernel_rfl) xa ()
 ·cases h
def xcD (k : Int) (κ : Bool -> T β) : T β :=
 bif decide (k < 0) then (κ (false)) else
 bif decide (k >= i64.wrap (g.pages * 8)) then (κ (false)) else
 we (false) (i64.wrap (Int.tmod k 8 * 8)) (true) (g) (i64.wrap (Int.tdiv k 8)) (fun y2_0 =>
 κ (false)) (fun y2_0 =>
 κ (true))
def YU (k : Int) : T Bool := xcD g k .ret
theorem xmf (k : Int) (κ : Bool -> T β) : (YU g k).bind κ = xcD g k κ := by
 unfold YU xcD
 simp only [bz, xdZ]
def Xv (a0 : Int) (g2 : Geo) (a3 : Int) (κ0 : Int -> T β) (i : Int) (k : Int -> T β) : T β :=
 bif i != 0 then (.op (.cas (atF g2 9 a0) (i) (0)) fun b1 =>
 bif !b1 then (.op (.load (atF g2 9 a0)) fun x3 =>
 k x3) else
 κ0 (i)) else
 κ0 (i)
def yf (a0 : Int) (g2 : Geo) (a3 a1 : Int) (κ0 : Int -> T β) : T β := xq xa (Xv a0 g2 a3 κ0) a1
theorem kx {β γ : Type} (a0 : Int) (g2 : Geo) (a3 a1 : Int) (κ0 : Int -> T β) (κ : β -> T γ) : (yf a0 g2 a3 a1 κ0).bind κ = yf a0 g2 a3 a1 (fun ae0 => (κ0 ae0).bind κ) := by
 unfold yf
 refine xj κ (fun i k => ?_) _ _
 unfold Xv
 simp only [bz]
def xd1 : Pat := ⟨xm 84 0 [(2, .c (.int .i64)), (6, .c (.raw (.nils))), (7, .c (.raw (.ptr 1 0))), (8, .c (.int .u64))], [none, some ⟨[.raw (.port), .geo, .int .i64], 234, false, none⟩]⟩
def xmg : Pat := ⟨xm 84 0 [(6, .c (.raw (.nils))), (7, .c (.raw (.ptr 1 0))), (8, .c (.int .u64))], [none, some ⟨[.raw (.port), .geo, .int .i64], 234, false, none⟩]⟩
def Xw : LF := fun st K => match xt xd1 st with
 | some [.i a0, .i a1, .g g2, .i a3] => some (yf a0 g2 a3 a1 (fun ae0 => K (.exit 0) (xd xmg [.i ae0, .g g2, .i a3])))
 | _ => none
theorem xpK : ∀ st K t, Xw st K = some t -> xB xa (lf ka4 xa 0 .no [1, 1, 1, 1, 0, 0] Tryz.f260 K) st = t := by
 intro st K t h
 unfold Xw at h
 split at h
 ·rename_i a0 a1 g2 a3 hm
  cases h
  rw [xk hm]
  unfold yf
  exact xu (S := fun (i : Int) => xd xd1 [.i a0, .i i, .g g2, .i a3]) (fun i k => by kernel_rfl) xa a1
 ·cases h
def xcE (p : Int) (κ : (List Int) -> T β) : T β :=
 (isT g p 0).bind fun r0 =>
 bif !r0 then (κ []) else
 .op (.load (atF g 9 p)) fun x2 =>
 yf (p) (g) (p) x2 (fun y3_0 =>
 bif y3_0 != 0 then (.op (.load (atF g 10 (i64.wrap (i64.wrap y3_0 - 1)))) fun x5 =>
 bif x5 != 0 then (.op (.load (atF g 10 (i64.wrap (i64.wrap x5 - 1)))) fun x7 =>
 bif x7 != 0 then (.op (.load (atF g 10 (i64.wrap (i64.wrap x7 - 1)))) fun x9 =>
 bif x9 != 0 then (.op (.load (atF g 10 (i64.wrap (i64.wrap x9 - 1)))) fun x11 =>
 bif x11 != 0 then (.op (.load (atF g 10 (i64.wrap (i64.wrap x11 - 1)))) fun x13 =>
 bif x13 != 0 then (.op (.load (atF g 10 (i64.wrap (i64.wrap x13 - 1)))) fun x15 =>
 bif x15 != 0 then (.op (.load (atF g 10 (i64.wrap (i64.wrap x15 - 1)))) fun x17 =>
 bif x17 != 0 then (.op (.load (atF g 10 (i64.wrap (i64.wrap x17 - 1)))) fun x19 =>
 bif x19 != 0 then (κ [(i64.wrap (i64.wrap y3_0 - 1)), (i64.wrap (i64.wrap x5 - 1)), (i64.wrap (i64.wrap x7 - 1)), (i64.wrap (i64.wrap x9 - 1)), (i64.wrap (i64.wrap x11 - 1)), (i64.wrap (i64.wrap x13 - 1)), (i64.wrap (i64.wrap x15 - 1)), (i64.wrap (i64.wrap x17 - 1))]) else
 κ [(i64.wrap (i64.wrap y3_0 - 1)), (i64.wrap (i64.wrap x5 - 1)), (i64.wrap (i64.wrap x7 - 1)), (i64.wrap (i64.wrap x9 - 1)), (i64.wrap (i64.wrap x11 - 1)), (i64.wrap (i64.wrap x13 - 1)), (i64.wrap (i64.wrap x15 - 1)), (i64.wrap (i64.wrap x17 - 1))]) else
 κ [(i64.wrap (i64.wrap y3_0 - 1)), (i64.wrap (i64.wrap x5 - 1)), (i64.wrap (i64.wrap x7 - 1)), (i64.wrap (i64.wrap x9 - 1)), (i64.wrap (i64.wrap x11 - 1)), (i64.wrap (i64.wrap x13 - 1)), (i64.wrap (i64.wrap x15 - 1))]) else
 κ [(i64.wrap (i64.wrap y3_0 - 1)), (i64.wrap (i64.wrap x5 - 1)), (i64.wrap (i64.wrap x7 - 1)), (i64.wrap (i64.wrap x9 - 1)), (i64.wrap (i64.wrap x11 - 1)), (i64.wrap (i64.wrap x13 - 1))]) else
 κ [(i64.wrap (i64.wrap y3_0 - 1)), (i64.wrap (i64.wrap x5 - 1)), (i64.wrap (i64.wrap x7 - 1)), (i64.wrap (i64.wrap x9 - 1)), (i64.wrap (i64.wrap x11 - 1))]) else
 κ [(i64.wrap (i64.wrap y3_0 - 1)), (i64.wrap (i64.wrap x5 - 1)), (i64.wrap (i64.wrap x7 - 1)), (i64.wrap (i64.wrap x9 - 1))]) else
 κ [(i64.wrap (i64.wrap y3_0 - 1)), (i64.wrap (i64.wrap x5 - 1)), (i64.wrap (i64.wrap x7 - 1))]) else
 κ [(i64.wrap (i64.wrap y3_0 - 1)), (i64.wrap (i64.wrap x5 - 1))]) else
 κ [(i64.wrap (i64.wrap y3_0 - 1))]) else
 κ [])
def xpL (p : Int) : T (List Int) := xcE g p .ret
theorem xbD (p : Int) (κ : (List Int) -> T β) : (xpL g p).bind κ = xcE g p κ := by
 unfold xpL xcE
 simp only [bz, kx]
def xsw (p n : Int) (κ : Unit -> T β) : T β :=
 bif n == 0 then (κ ()) else
 bif decide (n > 1) then ((kZ g (i64.wrap (i64.wrap (p + n) - 1)) 2 n).bind fun r2 =>
 (kZ g p 1 n).bind fun r3 =>
 (vP g n false).bind fun r4 =>
 κ ()) else
 (kZ g p 1 n).bind fun r2 =>
 (vP g n false).bind fun r3 =>
 κ ()
def layT (p n : Int) : T Unit := xsw g p n .ret
theorem xtI (p n : Int) (κ : Unit -> T β) : (layT g p n).bind κ = xsw g p n κ := by
 unfold layT xsw
 simp only [bz]
def xd2 (a0 a1 : Int) (g3 : Geo) (a4 a5 a6 : Int) (κ0 : Int -> Int -> Int -> T β) (i : Int × Int × Int × Int) (k : Int × Int × Int × Int -> T β) : T β :=
 bif decide (i.1 < g3.pages) then ((Yx g3 i.1).bind fun r1 =>
 bif bif a1 == 0 then false else true then (bif r1.kind == 1 then (bif decide   (i64.wrap       (i64.wrap           (i64.wrap               (Int.tdiv (i64.wrap (i64.wrap (i.1 + a1) - 1)) a1) *             a1) +         a0) <=     i64.wrap (i.1 + r1.len)) then (bif i.2.2.1 == 0 then ((vO { kind := r1.kind, len := r1.len, cls := r1.cls, owner := r1.owner }).bind fun r6 =>
 k (i64.wrap (i.1 + r6), i.1, r1.len, i64.wrap   (i64.wrap (Int.tdiv (i64.wrap (i64.wrap (i.1 + a1) - 1)) a1) *     a1))) else
 bif decide (r1.len < i.2.2.1) then ((vO { kind := r1.kind, len := r1.len, cls := r1.cls, owner := r1.owner }).bind fun r7 =>
 k (i64.wrap (i.1 + r7), i.1, r1.len, i64.wrap   (i64.wrap (Int.tdiv (i64.wrap (i64.wrap (i.1 + a1) - 1)) a1) *     a1))) else
 (vO { kind := r1.kind, len := r1.len, cls := r1.cls, owner := r1.owner }).bind fun r7 =>
 k (i64.wrap (i.1 + r7), i.2.1, i.2.2.1, i.2.2.2)) else
 (vO { kind := r1.kind, len := r1.len, cls := r1.cls, owner := r1.owner }).bind fun r5 =>
 k (i64.wrap (i.1 + r5), i.2.1, i.2.2.1, i.2.2.2)) else
 (vO { kind := r1.kind, len := r1.len, cls := r1.cls, owner := r1.owner }).bind fun r4 =>
 k (i64.wrap (i.1 + r4), i.2.1, i.2.2.1, i.2.2.2)) else
 .fail) else
 κ0 (i.2.1) (i.2.2.1) (i.2.2.2)
def ky (a0 a1 : Int) (g3 : Geo) (a4 a5 a6 a2 a7 a8 a9 : Int) (κ0 : Int -> Int -> Int -> T β) : T β := xq xa (xd2 a0 a1 g3 a4 a5 a6 κ0) (a2, a7, a8, a9)
theorem xgi {β γ : Type} (a0 a1 : Int) (g3 : Geo) (a4 a5 a6 a2 a7 a8 a9 : Int) (κ0 : Int -> Int -> Int -> T β) (κ : β -> T γ) : (ky a0 a1 g3 a4 a5 a6 a2 a7 a8 a9 κ0).bind κ = ky a0 a1 g3 a4 a5 a6 a2 a7 a8 a9 (fun ae3 ae4 ae5 => (κ0 ae3 ae4 ae5).bind κ) := by
 unfold ky
 refine xj κ (fun i k => ?_) _ _
 unfold xd2
 simp only [bz]
def xhf : Pat := ⟨xm 67 0 [(1, .c (.int .i64)), (2, .c (.int .i64)), (3, .c (.raw (.ptr 0 0))), (6, .c (.raw (.ptr 1 0))), (7, .c (.raw (.ptr 2 0))), (8, .c (.int .i64))], [some ⟨[.raw (.port), .geo], 212, false, none⟩, some ⟨[.int .i64, .int .i64, .int .i64], 296, false, none⟩, some ⟨[.int .i64, .int .i64, .int .i64], 296, false, none⟩]⟩
def xpM : Pat := ⟨xm 67 0 [(6, .c (.raw (.ptr 1 0))), (7, .c (.raw (.ptr 2 0)))], [none, some ⟨[.int .i64, .int .i64, .int .i64], 296, false, none⟩, some ⟨[.int .i64, .int .i64, .int .i64], 296, false, none⟩]⟩
def Vs : LF := fun st K => match xt xhf st with
 | some [.i a0, .i a1, .i a2, .g g3, .i a4, .i a5, .i a6, .i a7, .i a8, .i a9] => some (ky a0 a1 g3 a4 a5 a6 a2 a7 a8 a9 (fun ae3 ae4 ae5 => K (.exit 0) (xd xpM [.i a4, .i a5, .i a6, .i ae3, .i ae4, .i ae5])))
 | _ => none
theorem xtJ : ∀ st K t, Vs st K = some t -> xB xa (lf ka4 xa 0 .no [1, 1, 1, 0, 1, 0] Tryz.f263 K) st = t := by
 intro st K t h
 unfold Vs at h
 split at h
 ·rename_i a0 a1 a2 g3 a4 a5 a6 a7 a8 a9 hm
  cases h
  rw [xk hm]
  unfold ky
  exact xu (S := fun (i : Int × Int × Int × Int) => xd xhf [.i a0, .i a1, .i (i.1), .g g3, .i a4, .i a5, .i a6, .i (i.2.1), .i (i.2.2.1), .i (i.2.2.2)]) (fun i k => by kernel_rfl) xa (a2, a7, a8, a9)
 ·cases h
def xjt (k a : Int) (κ : Fit -> T β) : T β :=
 (anyT g k).bind fun r0 =>
 bif !r0 then (κ ⟨(0), (0), (0)⟩) else
 ky (k) (a) (g) (0) (0) (0) (0) (0) (0) (0) (fun y2_0 y2_1 y2_2 =>
 κ ⟨(y2_0), y2_1, (y2_2)⟩)
def xhg (k a : Int) : T Fit := xjt g k a .ret
theorem xpN (k a : Int) (κ : Fit -> T β) : (xhg g k a).bind κ = xjt g k a κ := by
 unfold xhg xjt
 simp only [bz, xgi]
def xd3 (x : Int) (κ : Int -> T β) : T β :=
 κ (-1)
def xju (x : Int) : T Int := xd3 x .ret
theorem xjv (x : Int) (κ : Int -> T β) : (xju x).bind κ = xd3 x κ := by
 unfold xju xd3
 simp only [bz]
def Xx (x k : Int) (κ : Int -> T β) : T β :=
 bif x == k then (κ (0)) else
 κ (-1)
def Zm (x k : Int) : T Int := Xx x k .ret
theorem xgj (x k : Int) (κ : Int -> T β) : (Zm x k).bind κ = Xx x k κ := by
 unfold Zm Xx
 simp only [bz]
def Vt (x k j : Int) (κ : Int -> T β) : T β :=
 bif x == k then (κ (0)) else
 bif x == j then (κ (1)) else
 κ (-1)
def Vu (x k j : Int) : T Int := Vt x k j .ret
theorem xjw (x k j : Int) (κ : Int -> T β) : (Vu x k j).bind κ = Vt x k j κ := by
 unfold Vu Vt
 simp only [bz]
def xav (a0 : Int) (g1 : Geo) (a2 a3 a4 a5 : Int) (b6 : Bool) (a7 : Int) (κ0 : Int -> Int -> Int -> Int -> Bool -> Int -> T β) (i : Unit) (k : Unit -> T β) : T β :=
 (Vn g1 a0).bind fun r0 =>
 bif !r0.live then (κ0 (r0.kind) (r0.size) (r0.other) (r0.ver) (r0.live) (r0.lin)) else
 .op (.cas (atF g1 11 a0) (Stt.word { kind := r0.kind, size := r0.size, other := r0.other, ver := r0.ver }) (0)) fun b2 =>
 bif b2 then (.op (.steps ) fun x4 =>
 κ0 (r0.kind) (r0.size) (r0.other) (r0.ver) (r0.live) x4) else
 k ()
def wf (a0 : Int) (g1 : Geo) (a2 a3 a4 a5 : Int) (b6 : Bool) (a7 : Int)  (κ0 : Int -> Int -> Int -> Int -> Bool -> Int -> T β) : T β := xq xa (xav a0 g1 a2 a3 a4 a5 b6 a7 κ0) ()
theorem xd4 {β γ : Type} (a0 : Int) (g1 : Geo) (a2 a3 a4 a5 : Int) (b6 : Bool) (a7 : Int)  (κ0 : Int -> Int -> Int -> Int -> Bool -> Int -> T β) (κ : β -> T γ) : (wf a0 g1 a2 a3 a4 a5 b6 a7  κ0).bind κ = wf a0 g1 a2 a3 a4 a5 b6 a7  (fun ae0 ae1 ae2 ae3 be4 ae5 => (κ0 ae0 ae1 ae2 ae3 be4 ae5).bind κ) := by
 unfold wf
 refine xj κ (fun i k => ?_) _ _
 unfold xav
 simp only [bz]
def xd5 : Pat := ⟨xm 31 0 [(0, .c (.raw (.port))), (2, .c (.int .i64)), (4, .c (.raw (.ptr 0 0))), (6, .c (.raw (.ptr 1 0)))], [some ⟨[.geo], 24, false, none⟩, some ⟨[.int .i64, .int .i64, .int .i64, .int .u32, .bool, .int .i64], 145, false, none⟩]⟩
def xmh : Pat := ⟨xm 31 0 [(6, .c (.raw (.ptr 1 0)))], [none, some ⟨[.int .i64, .int .i64, .int .i64, .int .u32, .bool, .int .i64], 145, false, none⟩]⟩
def Xy : LF := fun st K => match xt xd5 st with
 | some [.i a0, .g g1, .i a2, .i a3, .i a4, .i a5, .b b6, .i a7] => some (wf a0 g1 a2 a3 a4 a5 b6 a7  (fun ae0 ae1 ae2 ae3 be4 ae5 => K (.ret) (xd xmh [.i ae0, .i ae1, .i ae2, .i ae3, .b be4, .i ae5])))
 | _ => none
theorem xpO : ∀ st K t, Xy st K = some t -> xB xa (lf ka4 xa 0 .no [1, 0] Tryz.f82 K) st = t := by
 intro st K t h
 unfold Xy at h
 split at h
 ·rename_i a0 g1 a2 a3 a4 a5 b6 a7 hm
  cases h
  rw [xk hm]
  unfold wf
  exact xu (S := fun (i : Unit) => xd xd5 [.i a0, .g g1, .i a2, .i a3, .i a4, .i a5, .b b6, .i a7]) (fun i k => by kernel_rfl) xa ()
 ·cases h
def xcF (k : Int) (κ : Seen -> T β) : T β :=
 wf (k) (g) (0) (0) (0) (0) (false) (0) (fun y0_0 y0_1 y0_2 y0_3 y0_4 y0_5 =>
 κ ⟨(y0_0), y0_1, y0_2, y0_3, y0_4, (y0_5)⟩)
def xaw (k : Int) : T Seen := xcF g k .ret
theorem xmi (k : Int) (κ : Seen -> T β) : (xaw g k).bind κ = xcF g k κ := by
 unfold xaw xcF
 simp only [bz, xd4]
def Xz (s : Int) (κ : Int -> T β) : T β :=
 bif decide (s < 1) then (κ (0)) else
 κ (i64.wrap (i64.wrap (Int.tdiv (i64.wrap (s - 1)) 64) + 1))
def jD (s : Int) : T Int := Xz s .ret
theorem xgk (s : Int) (κ : Int -> T β) : (jD s).bind κ = Xz s κ := by
 unfold jD Xz
 simp only [bz]
def xd6 : Sm := fun
 | [.c .port, .agg gc, .c (.int .i64 k)], [] => (match xv gc with
   | some g => some (mkS (Bool) (YU g k) fun r => some (.c (.bool r), []))
   | _ => none)
 | _, _ => none
theorem xmj : Good Tryz.prog (xo ka4) xa 0 (lsAt Xu .no [1, 1, 0, 0]) (Tryz.f91.body.getD .skip) (xr Tryz.f91.results.toList) := xA (xh (by kernel_rfl)) xz xpJ
variable {σ : Type} {I : Port Tryz.prog σ}
theorem xpP (hl : SoundL I ka4) : SoundF I 91 xd6 := by
 refine sq hl xa Tryz.func91 fun _ _ t ht => ?_
 unfold xd6 at ht
 split at ht
 ·rename_i gc k
  split at ht
  ·rename_i g hg
   obtain rfl := xe hg
   cases ht
   refine (xD (P := Tryz.prog) (n := xa) (x := (lsAt Xu .no [1, 1, 0, 0])) (fn := Tryz.f91) (H := []) (c := Tryz.f91.body.getD .skip) (xh (by kernel_rfl)) xmj).symm.trans ?_
   exact ey (xmf g k _)
  ·cases ht
 ·cases ht
def xd7 : Sm := fun
 | [.c .port, .agg gc, .c (.int .i64 p)], [] => (match xv gc with
   | some g => some ⟨(List Int), xpL g p, fun r => some (listR r), fun _ κ => xcE g p κ, fun _ κ => (xbD g p κ).symm⟩
   | _ => none)
 | _, _ => none
theorem xmk : Good Tryz.prog (xo ka4) xa 0 (lsAt Xw .no [1, 1, 1, 1, 0, 0]) (Tryz.f260.body.getD .skip) (xr Tryz.f260.results.toList) := xA (xh (by kernel_rfl)) xz xpK
theorem xpQ (hl : SoundL I ka4) : SoundF I 260 xd7 := by
 refine sq hl xa Tryz.func260 fun _ _ t ht => ?_
 unfold xd7 at ht
 split at ht
 ·rename_i gc p
  split at ht
  ·rename_i g hg
   obtain rfl := xe hg
   cases ht
   refine (xD (P := Tryz.prog) (n := xa) (x := (lsAt Xw .no [1, 1, 1, 1, 0, 0])) (fn := Tryz.f260) (H := []) (c := Tryz.f260.body.getD .skip) (xh (by kernel_rfl)) xmk).symm.trans ?_
   exact ey (xbD g p _)
  ·cases ht
 ·cases ht
def xpR : Sm := fun
 | [.agg (.port :: gc), .c (.int .i64 p), .c (.int .i64 n)], [] => (match xv gc with
   | some g => some (mkS (Unit) (layT g p n) fun r => some (.tup [], []))
   | _ => none)
 | _, _ => none
theorem xvO (hl : SoundL I ka4) : SoundF I 152 xpR := by
 refine sq hl 1 Tryz.func152 fun _ _ t ht => ?_
 unfold xpR at ht
 split at ht
 ·rename_i gc p n
  split at ht
  ·rename_i g hg
   obtain rfl := xe hg
   cases ht
   exact ey (xtI g p n _)
  ·cases ht
 ·cases ht
def xjx : Sm := fun
 | [.agg (.port :: gc), .c (.int .i64 k), .c (.int .i64 a)], [] => (match xv gc with
   | some g => some (mkS (Fit) (xhg g k a) fun r => some (.agg r.cells, []))
   | _ => none)
 | _, _ => none
theorem xpS : Good Tryz.prog (xo ka4) xa 0 (lsAt Vs .no [1, 1, 1, 0, 1, 0]) (Tryz.f263.body.getD .skip) (xr Tryz.f263.results.toList) := xA (xh (by kernel_rfl)) xz xtJ
theorem xtK (hl : SoundL I ka4) : SoundF I 263 xjx := by
 refine sq hl xa Tryz.func263 fun _ _ t ht => ?_
 unfold xjx at ht
 split at ht
 ·rename_i gc k a
  split at ht
  ·rename_i g hg
   obtain rfl := xe hg
   cases ht
   refine (xD (P := Tryz.prog) (n := xa) (x := (lsAt Vs .no [1, 1, 1, 0, 1, 0])) (fn := Tryz.f263) (H := []) (c := Tryz.f263.body.getD .skip) (xh (by kernel_rfl)) xpS).symm.trans ?_
   exact ey (xpN g k a _)
  ·cases ht
 ·cases ht
def xax : Sm := fun
 | [.c .nils, .c (.int .i64 x)], [] => some (mkS (Int) (xju x) fun r => some (.c (.int .i64 r), []))
 | _, _ => none
theorem xml (hl : SoundL I ka4) : SoundF I 271 xax := by
 refine sq hl 5 Tryz.func271 fun _ _ t ht => ?_
 unfold xax at ht
 split at ht
 ·rename_i x
  cases ht
  exact ey (xjv x _)
 ·cases ht
def YV : Sm := fun
 | [.c (.sl 0 0 1 1), .c (.int .i64 x)], [some ⟨[.int .i64 k], 3, false, none⟩] => some (mkS (Int) (Zm x k) fun r => some (.c (.int .i64 r), [some ⟨[.int .i64 k], 3, false, none⟩]))
 | _, _ => none
theorem xjy (hl : SoundL I ka4) : SoundF I 271 YV := by
 refine sq hl 5 Tryz.func271 fun _ _ t ht => ?_
 unfold YV at ht
 split at ht
 ·rename_i x k
  cases ht
  exact ey (xgj x k _)
 ·cases ht
def xay : Sm := fun
 | [.c (.sl 0 0 2 2), .c (.int .i64 x)], [some ⟨[.int .i64 k, .int .i64 j], 3, false, none⟩] => some (mkS (Int) (Vu x k j) fun r => some (.c (.int .i64 r), [some ⟨[.int .i64 k, .int .i64 j], 3, false, none⟩]))
 | _, _ => none
theorem xmm (hl : SoundL I ka4) : SoundF I 271 xay := by
 refine sq hl 5 Tryz.func271 fun _ _ t ht => ?_
 unfold xay at ht
 split at ht
 ·rename_i x k j
  cases ht
  exact ey (xjw x k j _)
 ·cases ht
def xd8 : Sm := fun
 | [.c .port, .agg gc, .c (.int .i64 k)], [] => (match xv gc with
   | some g => some (mkS (Seen) (xaw g k) fun r => some (.agg r.cells, []))
   | _ => none)
 | _, _ => none
theorem xmn : Good Tryz.prog (xo ka4) xa 0 (lsAt Xy .no [1, 0]) (Tryz.f82.body.getD .skip) (xr Tryz.f82.results.toList) := xA (xh (by kernel_rfl)) xz xpO
theorem xpT (hl : SoundL I ka4) : SoundF I 82 xd8 := by
 refine sq hl xa Tryz.func82 fun _ _ t ht => ?_
 unfold xd8 at ht
 split at ht
 ·rename_i gc k
  split at ht
  ·rename_i g hg
   obtain rfl := xe hg
   cases ht
   refine (xD (P := Tryz.prog) (n := xa) (x := (lsAt Xy .no [1, 0])) (fn := Tryz.f82) (H := []) (c := Tryz.f82.body.getD .skip) (xh (by kernel_rfl)) xmn).symm.trans ?_
   exact ey (xmi g k _)
  ·cases ht
 ·cases ht
def YW : Sm := fun
 | [.c (.int .i64 s)], [] => some (mkS (Int) (jD s) fun r => some (.c (.int .i64 r), []))
 | _, _ => none
theorem xjz (hl : SoundL I ka4) : SoundF I 78 YW := by
 refine sq hl 1 Tryz.func78 fun _ _ t ht => ?_
 unfold YW at ht
 split at ht
 ·rename_i s
  cases ht
  exact ey (xgk s _)
 ·cases ht
def ka5 : List (Nat × Sm) := (91, xd6) :: (260, xd7) :: (152, xpR) :: (263, xjx) :: (271, (orSm xax (orSm YV xay))) :: (82, xd8) :: (78, YW) :: ka4
theorem vY : SoundL I ka5 := (.cons (xpP YA) (.cons (xpQ YA) (.cons (xvO YA) (.cons (xtK YA) (.cons (SoundF.or (xml YA) (SoundF.or (xjy YA) (xmm YA))) (.cons (xpT YA) (.cons (xjz YA) YA)))))))
end Lx
end Go.Proofs.YtaegelbaghaooaaGreat
