/- Summaries: lock, cache, state, small functions of runs, slab. (trees printed by program, wip/auto.py) -/
import Derived.Test.YtaegelbaghaooaaGreatRpM3
import Derived.WalkKit
set_option linter.unusedSimpArgs false
set_option linter.unusedVariables false
set_option linter.unusedSectionVars false
namespace Go.Proofs.YtaegelbaghaooaaGreat.Lx
open Go
set_option maxRecDepth 1000000

def mineTK {β : Type} (κ : Int → T β) : T β :=
 .op (.self ) fun x0 =>
 κ (IntKind.u64.wrap (IntKind.u64.wrap x0 + 1))
def mineT  : T Int := mineTK  .ret
theorem mineT_bind {β : Type}  (κ : Int → T β) : (mineT ).bind κ = mineTK  κ := by
 unfold mineT mineTK
 first | rfl | (simp only [bind_cond, bind_ret_, bind_op, bind_fail, T.bind_assoc])
def putT_K {β : Type} (g : Geo) (k it : Int) (κ : Bool → T β) : T β :=
 .op (.self ) fun x0 =>
 bif it == 0 then (κ (false)) else
 bif decide (atF g 12 (inF (inF x0 k 4) 0 2) < 0) then (κ (false)) else
 .op (.cas (atF g 12 (inF (inF x0 k 4) 0 2)) (0) (it)) fun b3 =>
 bif b3 then (κ (true)) else
 .op (.self ) fun x5 =>
 bif it == 0 then (κ (false)) else
 bif decide (atF g 12 (inF (inF x5 k 4) 1 2) < 0) then (κ (false)) else
 .op (.cas (atF g 12 (inF (inF x5 k 4) 1 2)) (0) (it)) fun b8 =>
 bif b8 then (κ (true)) else
 κ (false)
def putT_ (g : Geo) (k it : Int) : T Bool := putT_K g k it .ret
theorem putT__bind {β : Type} (g : Geo) (k it : Int) (κ : Bool → T β) : (putT_ g k it).bind κ = putT_K g k it κ := by
 unfold putT_ putT_K
 first | rfl | (simp only [bind_cond, bind_ret_, bind_op, bind_fail, T.bind_assoc])
def stealTK {β : Type} (g : Geo) (t k : Int) (κ : (Int × Bool) → T β) : T β :=
 bif decide (atF g 12 (inF (inF t k 4) 0 2) < 0) then (κ ((0), (false))) else
 .op (.load (atF g 12 (inF (inF t k 4) 0 2))) fun x1 =>
 bif x1 != 0 then (.op (.cas (atF g 12 (inF (inF t k 4) 0 2)) (x1) (0)) fun b3 =>
 bif b3 then (κ ((x1), (true))) else
 bif decide (atF g 12 (inF (inF t k 4) 1 2) < 0) then (κ ((0), (false))) else
 .op (.load (atF g 12 (inF (inF t k 4) 1 2))) fun x6 =>
 bif x6 != 0 then (.op (.cas (atF g 12 (inF (inF t k 4) 1 2)) (x6) (0)) fun b8 =>
 bif b8 then (κ ((x6), (true))) else
 κ ((0), (false))) else
 κ ((0), (false))) else
 bif decide (atF g 12 (inF (inF t k 4) 1 2) < 0) then (κ ((0), (false))) else
 .op (.load (atF g 12 (inF (inF t k 4) 1 2))) fun x4 =>
 bif x4 != 0 then (.op (.cas (atF g 12 (inF (inF t k 4) 1 2)) (x4) (0)) fun b6 =>
 bif b6 then (κ ((x4), (true))) else
 κ ((0), (false))) else
 κ ((0), (false))
def stealT (g : Geo) (t k : Int) : T (Int × Bool) := stealTK g t k .ret
theorem stealT_bind {β : Type} (g : Geo) (t k : Int) (κ : (Int × Bool) → T β) : (stealT g t k).bind κ = stealTK g t k κ := by
 unfold stealT stealTK
 first | rfl | (simp only [bind_cond, bind_ret_, bind_op, bind_fail, T.bind_assoc])
def serialTK {β : Type} (g : Geo) (κ : Int → T β) : T β :=
 .op (.self ) fun x0 =>
 .op (.add (atF g 6 x0) (1)) fun x1 =>
 .op (.self ) fun x2 =>
 κ (IntKind.u32.wrap (IntKind.u32.wrap (IntKind.u32.wrap (IntKind.u32.wrap x1 + 1) * 64) + IntKind.u32.wrap x2))
def serialT (g : Geo) : T Int := serialTK g .ret
theorem serialT_bind {β : Type} (g : Geo) (κ : Int → T β) : (serialT g).bind κ = serialTK g κ := by
 unfold serialT serialTK
 first | rfl | (simp only [bind_cond, bind_ret_, bind_op, bind_fail, T.bind_assoc])
def promisedTK {β : Type} (a b v : Int) (κ : Stt → T β) : T β :=
 κ ⟨(2), (b), (a), (v)⟩
def promisedT (a b v : Int) : T Stt := promisedTK a b v .ret
theorem promisedT_bind {β : Type} (a b v : Int) (κ : Stt → T β) : (promisedT a b v).bind κ = promisedTK a b v κ := by
 unfold promisedT promisedTK
 first | rfl | (simp only [bind_cond, bind_ret_, bind_op, bind_fail, T.bind_assoc])
def getT_K {β : Type} (g : Geo) (p : Int) (κ : Pg → T β) : T β :=
 .op (.load (atF g 7 p)) fun x0 =>
 κ ⟨((pgOf x0).kind), ((pgOf x0).len), ((pgOf x0).cls), ((pgOf x0).owner)⟩
def getT_ (g : Geo) (p : Int) : T Pg := getT_K g p .ret
theorem getT__bind {β : Type} (g : Geo) (p : Int) (κ : Pg → T β) : (getT_ g p).bind κ = getT_K g p κ := by
 unfold getT_ getT_K
 first | rfl | (simp only [bind_cond, bind_ret_, bind_op, bind_fail, T.bind_assoc])
def dputTK {β : Type} (g : Geo) (p k n : Int) (κ : Unit → T β) : T β :=
 .op (.store (atF g 7 p) ((Pg.mk k n 0 0).word)) fun _ =>
 κ ()
def dputT (g : Geo) (p k n : Int) : T Unit := dputTK g p k n .ret
theorem dputT_bind {β : Type} (g : Geo) (p k n : Int) (κ : Unit → T β) : (dputT g p k n).bind κ = dputTK g p k n κ := by
 unfold dputT dputTK
 first | rfl | (simp only [bind_cond, bind_ret_, bind_op, bind_fail, T.bind_assoc])
def bitsTK {β : Type} (g : Geo) (p : Int) (κ : Bt → T β) : T β :=
 .op (.load (atF g 8 p)) fun x0 =>
 κ ⟨((btOf x0).map), ((btOf x0).has), ((btOf x0).cls), ((btOf x0).ver)⟩
def bitsT (g : Geo) (p : Int) : T Bt := bitsTK g p .ret
theorem bitsT_bind {β : Type} (g : Geo) (p : Int) (κ : Bt → T β) : (bitsT g p).bind κ = bitsTK g p κ := by
 unfold bitsT bitsTK
 first | rfl | (simp only [bind_cond, bind_ret_, bind_op, bind_fail, T.bind_assoc])
def turnsTK {β : Type} (g : Geo) (p : Int) (was : Bt) (now : Bt) (κ : Bool → T β) : T β :=
 .op (.cas (atF g 8 p) ((Bt.mk was.map was.has was.cls was.ver).word) ((Bt.mk now.map now.has now.cls now.ver).word)) fun b0 =>
 κ (b0)
def turnsT (g : Geo) (p : Int) (was : Bt) (now : Bt) : T Bool := turnsTK g p was now .ret
theorem turnsT_bind {β : Type} (g : Geo) (p : Int) (was : Bt) (now : Bt) (κ : Bool → T β) : (turnsT g p was now).bind κ = turnsTK g p was now κ := by
 unfold turnsT turnsTK
 first | rfl | (simp only [bind_cond, bind_ret_, bind_op, bind_fail, T.bind_assoc])
def anoneTK {β : Type} (g : Geo) (κ : Bool → T β) : T β :=
 κ (g.pages == 0)
def anoneT (g : Geo) : T Bool := anoneTK g .ret
theorem anoneT_bind {β : Type} (g : Geo) (κ : Bool → T β) : (anoneT g).bind κ = anoneTK g κ := by
 unfold anoneT anoneTK
 first | rfl | (simp only [bind_cond, bind_ret_, bind_op, bind_fail, T.bind_assoc])
def cnoneTK {β : Type} (g : Geo) (κ : Bool → T β) : T β :=
 .op (.self ) fun x0 =>
 κ (atF g 15 x0 == -1)
def cnoneT (g : Geo) : T Bool := cnoneTK g .ret
theorem cnoneT_bind {β : Type} (g : Geo) (κ : Bool → T β) : (cnoneT g).bind κ = cnoneTK g κ := by
 unfold cnoneT cnoneTK
 first | rfl | (simp only [bind_cond, bind_ret_, bind_op, bind_fail, T.bind_assoc])
def bnoneTK {β : Type} (g : Geo) (c : Int) (κ : Bool → T β) : T β :=
 .op (.self ) fun x0 =>
 κ (atF g 13 (inF x0 c 4) == -1)
def bnoneT (g : Geo) (c : Int) : T Bool := bnoneTK g c .ret
theorem bnoneT_bind {β : Type} (g : Geo) (c : Int) (κ : Bool → T β) : (bnoneT g c).bind κ = bnoneTK g c κ := by
 unfold bnoneT bnoneTK
 first | rfl | (simp only [bind_cond, bind_ret_, bind_op, bind_fail, T.bind_assoc])
def cgrainTK {β : Type} (it : Int) (κ : Int → T β) : T β :=
 κ (IntKind.i64.wrap (IntKind.i64.wrap it - 1))
def cgrainT (it : Int) : T Int := cgrainTK it .ret
theorem cgrainT_bind {β : Type} (it : Int) (κ : Int → T β) : (cgrainT it).bind κ = cgrainTK it κ := by
 unfold cgrainT cgrainTK
 first | rfl | (simp only [bind_cond, bind_ret_, bind_op, bind_fail, T.bind_assoc])
def cpagesTK {β : Type} (s : Int) (κ : Int → T β) : T β :=
 bif decide (s < 1) then (κ (0)) else
 κ (IntKind.i64.wrap (IntKind.i64.wrap ((IntKind.i64.wrap (s - 1)).tdiv 64) + 1))
def cpagesT (s : Int) : T Int := cpagesTK s .ret
theorem cpagesT_bind {β : Type} (s : Int) (κ : Int → T β) : (cpagesT s).bind κ = cpagesTK s κ := by
 unfold cpagesT cpagesTK
 first | rfl | (simp only [bind_cond, bind_ret_, bind_op, bind_fail, T.bind_assoc])
def cpowerTK {β : Type} (s : Int) (κ : Bool → T β) : T β :=
 bif decide (s > 0) then (κ (bits BinOp.and IntKind.i64 s (IntKind.i64.wrap (s - 1)) == 0)) else
 κ (false)
def cpowerT (s : Int) : T Bool := cpowerTK s .ret
theorem cpowerT_bind {β : Type} (s : Int) (κ : Bool → T β) : (cpowerT s).bind κ = cpowerTK s κ := by
 unfold cpowerT cpowerTK
 first | rfl | (simp only [bind_cond, bind_ret_, bind_op, bind_fail, T.bind_assoc])
def apowerTK {β : Type} (s : Int) (κ : Bool → T β) : T β :=
 bif decide (s > 0) then (κ (bits BinOp.and IntKind.i64 s (IntKind.i64.wrap (s - 1)) == 0)) else
 κ (false)
def apowerT (s : Int) : T Bool := apowerTK s .ret
theorem apowerT_bind {β : Type} (s : Int) (κ : Bool → T β) : (apowerT s).bind κ = apowerTK s κ := by
 unfold apowerT apowerTK
 first | rfl | (simp only [bind_cond, bind_ret_, bind_op, bind_fail, T.bind_assoc])
def usedTK {β : Type} (w : Pg) (k : Int) (κ : Bool → T β) : T β :=
 bif w.len == k then (bif w.kind == 4 then (κ (true)) else
 bif w.kind == 5 then (κ (true)) else
 κ (w.kind == 3)) else
 κ (false)
def usedT (w : Pg) (k : Int) : T Bool := usedTK w k .ret
theorem usedT_bind {β : Type} (w : Pg) (k : Int) (κ : Bool → T β) : (usedT w k).bind κ = usedTK w k κ := by
 unfold usedT usedTK
 first | rfl | (simp only [bind_cond, bind_ret_, bind_op, bind_fail, T.bind_assoc])
def longTK {β : Type} (w : Pg) (κ : Int → T β) : T β :=
 bif w.kind == 0 then (κ (1)) else
 bif w.kind == 2 then (κ (1)) else
 κ (if w.len < 1 then 1 else w.len)
def longT (w : Pg) : T Int := longTK w .ret
theorem longT_bind {β : Type} (w : Pg) (κ : Int → T β) : (longT w).bind κ = longTK w κ := by
 unfold longT longTK
 first | rfl | (simp only [bind_cond, bind_ret_, bind_op, bind_fail, T.bind_assoc])
def fillsTK {β : Type} (g : Geo) (nd it : Int) (κ : Bool → T β) : T β :=
 .op (.load (atF g 18 (inF (IntKind.i64.wrap (nd - 1)) 0 8))) fun x0 =>
 bif x0 == 0 then (.op (.store (atF g 18 (inF (IntKind.i64.wrap (nd - 1)) 0 8)) (it)) fun _ =>
 κ (true)) else
 .op (.load (atF g 18 (inF (IntKind.i64.wrap (nd - 1)) 1 8))) fun x2 =>
 bif x2 == 0 then (.op (.store (atF g 18 (inF (IntKind.i64.wrap (nd - 1)) 1 8)) (it)) fun _ =>
 κ (true)) else
 .op (.load (atF g 18 (inF (IntKind.i64.wrap (nd - 1)) 2 8))) fun x4 =>
 bif x4 == 0 then (.op (.store (atF g 18 (inF (IntKind.i64.wrap (nd - 1)) 2 8)) (it)) fun _ =>
 κ (true)) else
 .op (.load (atF g 18 (inF (IntKind.i64.wrap (nd - 1)) 3 8))) fun x6 =>
 bif x6 == 0 then (.op (.store (atF g 18 (inF (IntKind.i64.wrap (nd - 1)) 3 8)) (it)) fun _ =>
 κ (true)) else
 .op (.load (atF g 18 (inF (IntKind.i64.wrap (nd - 1)) 4 8))) fun x8 =>
 bif x8 == 0 then (.op (.store (atF g 18 (inF (IntKind.i64.wrap (nd - 1)) 4 8)) (it)) fun _ =>
 κ (true)) else
 .op (.load (atF g 18 (inF (IntKind.i64.wrap (nd - 1)) 5 8))) fun x10 =>
 bif x10 == 0 then (.op (.store (atF g 18 (inF (IntKind.i64.wrap (nd - 1)) 5 8)) (it)) fun _ =>
 κ (true)) else
 .op (.load (atF g 18 (inF (IntKind.i64.wrap (nd - 1)) 6 8))) fun x12 =>
 bif x12 == 0 then (.op (.store (atF g 18 (inF (IntKind.i64.wrap (nd - 1)) 6 8)) (it)) fun _ =>
 κ (true)) else
 .op (.load (atF g 18 (inF (IntKind.i64.wrap (nd - 1)) 7 8))) fun x14 =>
 bif x14 == 0 then (.op (.store (atF g 18 (inF (IntKind.i64.wrap (nd - 1)) 7 8)) (it)) fun _ =>
 κ (true)) else
 κ (false)
def fillsT (g : Geo) (nd it : Int) : T Bool := fillsTK g nd it .ret
theorem fillsT_bind {β : Type} (g : Geo) (nd it : Int) (κ : Bool → T β) : (fillsT g nd it).bind κ = fillsTK g nd it κ := by
 unfold fillsT fillsTK
 first | rfl | (simp only [bind_cond, bind_ret_, bind_op, bind_fail, T.bind_assoc])
def wrongTK {β : Type} (g : Geo) (a s : Int) (κ : Int → T β) : T β :=
 bif decide (s < 1) then (κ (11)) else
 bif decide (s > IntKind.i64.wrap (g.pages * 64)) then (κ (11)) else
 bif decide (a < 0) then (κ (13)) else
 bif decide (a ≥ IntKind.i64.wrap (g.pages * 64)) then (κ (13)) else
 bif a.tmod 8 != 0 then (κ (13)) else
 κ (0)
def wrongT (g : Geo) (a s : Int) : T Int := wrongTK g a s .ret
theorem wrongT_bind {β : Type} (g : Geo) (a s : Int) (κ : Int → T β) : (wrongT g a s).bind κ = wrongTK g a s κ := by
 unfold wrongT wrongTK
 first | rfl | (simp only [bind_cond, bind_ret_, bind_op, bind_fail, T.bind_assoc])
def m_mineT : Sm := fun args H => match args, H with
 | [.c .port], [] => some (mkS (Int) (mineT) fun r => some (.c (.int .u64 r), []))
 | _, _ => none
variable {σ : Type} {I : Port Tryz.prog σ}
theorem s_m_mineT (hl : SoundL I ka0) : SoundF I 233 m_mineT := by
 refine sq hl 1 Tryz.func233 fun args H t ht => ?_
 unfold m_mineT at ht
 split at ht
 ·skip
  cases ht
  refine Eq.trans ?_ (mineT_bind  _).symm
  kernel_rfl
 ·cases ht
def m_putT_ : Sm := fun args H => match args, H with
 | [.c .port, .agg gc, .c (.int .i64 k), .c (.int .u64 it)], [] => (match geoOf gc with
   | some g => some (mkS (Bool) (putT_ g k it) fun r => some (.c (.bool r), []))
   | _ => none)
 | _, _ => none
theorem s_m_putT_ (hl : SoundL I ka0) : SoundF I 89 m_putT_ := by
 refine sq hl 5 Tryz.func89 fun args H t ht => ?_
 unfold m_putT_ at ht
 split at ht
 ·rename_i gc k it
  split at ht
  ·rename_i g hg
   obtain rfl := geoOf_eq hg
   cases ht
   refine Eq.trans ?_ (putT__bind g k it _).symm
   kernel_rfl
  ·cases ht
 ·cases ht
def m_stealT : Sm := fun args H => match args, H with
 | [.c .port, .agg gc, .c (.int .i64 t), .c (.int .i64 k)], [] => (match geoOf gc with
   | some g => some (mkS ((Int × Bool)) (stealT g t k) fun r => some (.tup [.c (.int .u64 r.1), .c (.bool r.2)], []))
   | _ => none)
 | _, _ => none
theorem s_m_stealT (hl : SoundL I ka0) : SoundF I 253 m_stealT := by
 refine sq hl 5 Tryz.func253 fun args H t ht => ?_
 unfold m_stealT at ht
 split at ht
 ·rename_i gc t k
  split at ht
  ·rename_i g hg
   obtain rfl := geoOf_eq hg
   cases ht
   refine Eq.trans ?_ (stealT_bind g t k _).symm
   kernel_rfl
  ·cases ht
 ·cases ht
def m_serialT : Sm := fun args H => match args, H with
 | [.c .port, .agg gc], [] => (match geoOf gc with
   | some g => some (mkS (Int) (serialT g) fun r => some (.c (.int .u32 r), []))
   | _ => none)
 | _, _ => none
theorem s_m_serialT (hl : SoundL I ka0) : SoundF I 230 m_serialT := by
 refine sq hl 1 Tryz.func230 fun args H t ht => ?_
 unfold m_serialT at ht
 split at ht
 ·rename_i gc
  split at ht
  ·rename_i g hg
   obtain rfl := geoOf_eq hg
   cases ht
   refine Eq.trans ?_ (serialT_bind g _).symm
   kernel_rfl
  ·cases ht
 ·cases ht
def m_promisedT : Sm := fun args H => match args, H with
 | [.c (.int .i64 a), .c (.int .i64 b), .c (.int .u32 v)], [] => some (mkS (Stt) (promisedT a b v) fun r => some (.agg r.cells, []))
 | _, _ => none
theorem s_m_promisedT (hl : SoundL I ka0) : SoundF I 250 m_promisedT := by
 refine sq hl 1 Tryz.func250 fun args H t ht => ?_
 unfold m_promisedT at ht
 split at ht
 ·rename_i a b v
  cases ht
  refine Eq.trans ?_ (promisedT_bind a b v _).symm
  kernel_rfl
 ·cases ht
def m_getT_ : Sm := fun args H => match args, H with
 | [.agg (.port :: gc), .c (.int .i64 p)], [] => (match geoOf gc with
   | some g => some (mkS (Pg) (getT_ g p) fun r => some (.agg r.cells, []))
   | _ => none)
 | _, _ => none
theorem s_m_getT_ (hl : SoundL I ka0) : SoundF I 234 m_getT_ := by
 refine sq hl 1 Tryz.func234 fun args H t ht => ?_
 unfold m_getT_ at ht
 split at ht
 ·rename_i gc p
  split at ht
  ·rename_i g hg
   obtain rfl := geoOf_eq hg
   cases ht
   refine Eq.trans ?_ (getT__bind g p _).symm
   kernel_rfl
  ·cases ht
 ·cases ht
def m_dputT : Sm := fun args H => match args, H with
 | [.agg (.port :: gc), .c (.int .i64 p), .c (.int .i64 k), .c (.int .i64 n)], [] => (match geoOf gc with
   | some g => some (mkS (Unit) (dputT g p k n) fun r => some (.tup [], []))
   | _ => none)
 | _, _ => none
theorem s_m_dputT (hl : SoundL I ka0) : SoundF I 222 m_dputT := by
 refine sq hl 1 Tryz.func222 fun args H t ht => ?_
 unfold m_dputT at ht
 split at ht
 ·rename_i gc p k n
  split at ht
  ·rename_i g hg
   obtain rfl := geoOf_eq hg
   cases ht
   refine Eq.trans ?_ (dputT_bind g p k n _).symm
   kernel_rfl
  ·cases ht
 ·cases ht
def m_bitsT : Sm := fun args H => match args, H with
 | [.agg (.port :: gc)], [] => (match shOf gc with
   | some (g, p) => some (mkS (Bt) (bitsT g p) fun r => some (.agg r.cells, []))
   | _ => none)
 | _, _ => none
theorem s_m_bitsT (hl : SoundL I ka0) : SoundF I 176 m_bitsT := by
 refine sq hl 1 Tryz.func176 fun args H t ht => ?_
 unfold m_bitsT at ht
 split at ht
 ·rename_i gc
  split at ht
  ·rename_i g p hg
   obtain rfl := shOf_eq hg
   cases ht
   refine Eq.trans ?_ (bitsT_bind g p _).symm
   kernel_rfl
  ·cases ht
 ·cases ht
def m_turnsT : Sm := fun args H => match args, H with
 | [.agg (.port :: gc), .agg wasc, .agg nowc], [] => (match shOf gc with
   | some (g, p) => (match Bt.of wasc with
   | some was => (match Bt.of nowc with
   | some now => some (mkS (Bool) (turnsT g p was now) fun r => some (.c (.bool r), []))
   | _ => none)
   | _ => none)
   | _ => none)
 | _, _ => none
theorem s_m_turnsT (hl : SoundL I ka0) : SoundF I 178 m_turnsT := by
 refine sq hl 1 Tryz.func178 fun args H t ht => ?_
 unfold m_turnsT at ht
 split at ht
 ·rename_i gc wasc nowc
  split at ht
  ·rename_i g p hg
   obtain rfl := shOf_eq hg
   split at ht
   ·rename_i was hwas
    obtain rfl := Bt.of_eq hwas
    split at ht
    ·rename_i now hnow
     obtain rfl := Bt.of_eq hnow
     cases ht
     refine Eq.trans ?_ (turnsT_bind g p was now _).symm
     kernel_rfl
    ·cases ht
   ·cases ht
  ·cases ht
 ·cases ht
def m_anoneT : Sm := fun args H => match args, H with
 | [.c .port, .agg gc], [] => (match geoOf gc with
   | some g => some (mkS (Bool) (anoneT g) fun r => some (.c (.bool r), []))
   | _ => none)
 | _, _ => none
theorem s_m_anoneT (hl : SoundL I ka0) : SoundF I 73 m_anoneT := by
 refine sq hl 1 Tryz.func73 fun args H t ht => ?_
 unfold m_anoneT at ht
 split at ht
 ·rename_i gc
  split at ht
  ·rename_i g hg
   obtain rfl := geoOf_eq hg
   cases ht
   refine Eq.trans ?_ (anoneT_bind g _).symm
   kernel_rfl
  ·cases ht
 ·cases ht
def m_cnoneT : Sm := fun args H => match args, H with
 | [.c .port, .agg gc], [] => (match geoOf gc with
   | some g => some (mkS (Bool) (cnoneT g) fun r => some (.c (.bool r), []))
   | _ => none)
 | _, _ => none
theorem s_m_cnoneT (hl : SoundL I ka0) : SoundF I 83 m_cnoneT := by
 refine sq hl 1 Tryz.func83 fun args H t ht => ?_
 unfold m_cnoneT at ht
 split at ht
 ·rename_i gc
  split at ht
  ·rename_i g hg
   obtain rfl := geoOf_eq hg
   cases ht
   refine Eq.trans ?_ (cnoneT_bind g _).symm
   kernel_rfl
  ·cases ht
 ·cases ht
def m_bnoneT : Sm := fun args H => match args, H with
 | [.c .port, .agg gc, .c (.int .i64 c)], [] => (match geoOf gc with
   | some g => some (mkS (Bool) (bnoneT g c) fun r => some (.c (.bool r), []))
   | _ => none)
 | _, _ => none
theorem s_m_bnoneT (hl : SoundL I ka0) : SoundF I 173 m_bnoneT := by
 refine sq hl 1 Tryz.func173 fun args H t ht => ?_
 unfold m_bnoneT at ht
 split at ht
 ·rename_i gc c
  split at ht
  ·rename_i g hg
   obtain rfl := geoOf_eq hg
   cases ht
   refine Eq.trans ?_ (bnoneT_bind g c _).symm
   kernel_rfl
  ·cases ht
 ·cases ht
def m_cgrainT : Sm := fun args H => match args, H with
 | [.c (.int .u64 it)], [] => some (mkS (Int) (cgrainT it) fun r => some (.c (.int .i64 r), []))
 | _, _ => none
theorem s_m_cgrainT (hl : SoundL I ka0) : SoundF I 214 m_cgrainT := by
 refine sq hl 1 Tryz.func214 fun args H t ht => ?_
 unfold m_cgrainT at ht
 split at ht
 ·rename_i it
  cases ht
  refine Eq.trans ?_ (cgrainT_bind it _).symm
  kernel_rfl
 ·cases ht
def m_cpagesT : Sm := fun args H => match args, H with
 | [.c (.int .i64 s)], [] => some (mkS (Int) (cpagesT s) fun r => some (.c (.int .i64 r), []))
 | _, _ => none
theorem s_m_cpagesT (hl : SoundL I ka0) : SoundF I 78 m_cpagesT := by
 refine sq hl 1 Tryz.func78 fun args H t ht => ?_
 unfold m_cpagesT at ht
 split at ht
 ·rename_i s
  cases ht
  refine Eq.trans ?_ (cpagesT_bind s _).symm
  kernel_rfl
 ·cases ht
def m_cpowerT : Sm := fun args H => match args, H with
 | [.c (.int .i64 s)], [] => some (mkS (Bool) (cpowerT s) fun r => some (.c (.bool r), []))
 | _, _ => none
theorem s_m_cpowerT (hl : SoundL I ka0) : SoundF I 153 m_cpowerT := by
 refine sq hl 1 Tryz.func153 fun args H t ht => ?_
 unfold m_cpowerT at ht
 split at ht
 ·rename_i s
  cases ht
  refine Eq.trans ?_ (cpowerT_bind s _).symm
  kernel_rfl
 ·cases ht
def m_apowerT : Sm := fun args H => match args, H with
 | [.c (.int .i64 s)], [] => some (mkS (Bool) (apowerT s) fun r => some (.c (.bool r), []))
 | _, _ => none
theorem s_m_apowerT (hl : SoundL I ka0) : SoundF I 74 m_apowerT := by
 refine sq hl 1 Tryz.func74 fun args H t ht => ?_
 unfold m_apowerT at ht
 split at ht
 ·rename_i s
  cases ht
  refine Eq.trans ?_ (apowerT_bind s _).symm
  kernel_rfl
 ·cases ht
def m_usedT : Sm := fun args H => match args, H with
 | [.agg wc, .c (.int .i64 k)], [] => (match Pg.of wc with
   | some w => some (mkS (Bool) (usedT w k) fun r => some (.c (.bool r), []))
   | _ => none)
 | _, _ => none
theorem s_m_usedT (hl : SoundL I ka0) : SoundF I 264 m_usedT := by
 refine sq hl 1 Tryz.func264 fun args H t ht => ?_
 unfold m_usedT at ht
 split at ht
 ·rename_i wc k
  split at ht
  ·rename_i w hw
   obtain rfl := Pg.of_eq hw
   cases ht
   refine Eq.trans ?_ (usedT_bind w k _).symm
   kernel_rfl
  ·cases ht
 ·cases ht
def m_longT : Sm := fun args H => match args, H with
 | [.agg wc], [] => (match Pg.of wc with
   | some w => some (mkS (Int) (longT w) fun r => some (.c (.int .i64 r), []))
   | _ => none)
 | _, _ => none
theorem s_m_longT (hl : SoundL I ka0) : SoundF I 236 m_longT := by
 refine sq hl 1 Tryz.func236 fun args H t ht => ?_
 unfold m_longT at ht
 split at ht
 ·rename_i wc
  split at ht
  ·rename_i w hw
   obtain rfl := Pg.of_eq hw
   cases ht
   refine Eq.trans ?_ (longT_bind w _).symm
   kernel_rfl
  ·cases ht
 ·cases ht
def m_fillsT : Sm := fun args H => match args, H with
 | [.c .port, .agg gc, .c (.int .i64 nd), .c (.int .u64 it)], [] => (match geoOf gc with
   | some g => some (mkS (Bool) (fillsT g nd it) fun r => some (.c (.bool r), []))
   | _ => none)
 | _, _ => none
theorem s_m_fillsT (hl : SoundL I ka0) : SoundF I 237 m_fillsT := by
 refine sq hl 10 Tryz.func237 fun args H t ht => ?_
 unfold m_fillsT at ht
 split at ht
 ·rename_i gc nd it
  split at ht
  ·rename_i g hg
   obtain rfl := geoOf_eq hg
   cases ht
   refine Eq.trans ?_ (fillsT_bind g nd it _).symm
   kernel_rfl
  ·cases ht
 ·cases ht
def m_wrongT : Sm := fun args H => match args, H with
 | [.agg gc, .c (.int .i64 a), .c (.int .i64 s)], [] => (match geoOf gc with
   | some g => some (mkS (Int) (wrongT g a s) fun r => some (.c (.int .i64 r), []))
   | _ => none)
 | _, _ => none
theorem s_m_wrongT (hl : SoundL I ka0) : SoundF I 113 m_wrongT := by
 refine sq hl 1 Tryz.func113 fun args H t ht => ?_
 unfold m_wrongT at ht
 split at ht
 ·rename_i gc a s
  split at ht
  ·rename_i g hg
   obtain rfl := geoOf_eq hg
   cases ht
   refine Eq.trans ?_ (wrongT_bind g a s _).symm
   kernel_rfl
  ·cases ht
 ·cases ht
def ka1 : List (Nat × Sm) := (233, m_mineT) :: (89, m_putT_) :: (253, m_stealT) :: (230, m_serialT) :: (250, m_promisedT) :: (234, m_getT_) :: (222, m_dputT) :: (176, m_bitsT) :: (178, m_turnsT) :: (73, m_anoneT) :: (83, m_cnoneT) :: (173, m_bnoneT) :: (214, m_cgrainT) :: (78, m_cpagesT) :: (153, m_cpowerT) :: (74, m_apowerT) :: (264, m_usedT) :: (236, m_longT) :: (237, m_fillsT) :: (113, m_wrongT) :: ka0
theorem s_ka1 : SoundL I ka1 := (.cons (s_m_mineT s_ka0) (.cons (s_m_putT_ s_ka0) (.cons (s_m_stealT s_ka0) (.cons (s_m_serialT s_ka0) (.cons (s_m_promisedT s_ka0) (.cons (s_m_getT_ s_ka0) (.cons (s_m_dputT s_ka0) (.cons (s_m_bitsT s_ka0) (.cons (s_m_turnsT s_ka0) (.cons (s_m_anoneT s_ka0) (.cons (s_m_cnoneT s_ka0) (.cons (s_m_bnoneT s_ka0) (.cons (s_m_cgrainT s_ka0) (.cons (s_m_cpagesT s_ka0) (.cons (s_m_cpowerT s_ka0) (.cons (s_m_apowerT s_ka0) (.cons (s_m_usedT s_ka0) (.cons (s_m_longT s_ka0) (.cons (s_m_fillsT s_ka0) (.cons (s_m_wrongT s_ka0) s_ka0))))))))))))))))))))
end Go.Proofs.YtaegelbaghaooaaGreat.Lx
