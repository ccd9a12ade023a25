/- Summaries: runs, slab. (trees printed by program, wip/auto.py) -/
import Derived.Test.YtaegelbaghaooaaGreatRpQA2
import Derived.WalkKit
set_option linter.unusedSimpArgs false
set_option linter.unusedVariables false
set_option linter.unusedSectionVars false
namespace Go.Proofs.YtaegelbaghaooaaGreat.Lx
open Go
set_option maxRecDepth 1000000

def logTK {β : Type} (n : Int) (κ : Int → T β) : T β :=
 (guardT (decide (0 ≤ IntKind.u64.wrap n) && decide (IntKind.u64.wrap n ≤ 18446744073709551615))).bind fun r0 =>
 κ (IntKind.i64.wrap (↑(Lib.bitLen (Int.toNat (IntKind.u64.wrap n))) - 1))
def logT (n : Int) : T Int := logTK n .ret
theorem logT_bind {β : Type} (n : Int) (κ : Int → T β) : (logT n).bind κ = logTK n κ := by
 unfold logT logTK
 first | rfl | (simp only [bind_cond, bind_ret_, bind_op, bind_fail, T.bind_assoc])
def aheadTK {β : Type} (g : Geo) (p : Int) (κ : Int → T β) : T β :=
 bif p == 0 then (κ (0)) else
 (getT_ g (IntKind.i64.wrap (p - 1))).bind fun r1 =>
 bif r1.kind == 2 then (κ (r1.len)) else
 bif r1.kind == 1 then (κ (r1.len)) else
 κ (0)
def aheadT (g : Geo) (p : Int) : T Int := aheadTK g p .ret
theorem aheadT_bind {β : Type} (g : Geo) (p : Int) (κ : Int → T β) : (aheadT g p).bind κ = aheadTK g p κ := by
 unfold aheadT aheadTK
 first | rfl | (simp only [bind_cond, bind_ret_, bind_op, bind_fail, T.bind_assoc])
def behindTK {β : Type} (g : Geo) (p : Int) (κ : Int → T β) : T β :=
 bif p == g.pages then (κ (0)) else
 (getT_ g p).bind fun r1 =>
 bif r1.kind == 1 then (κ (r1.len)) else
 κ (0)
def behindT (g : Geo) (p : Int) : T Int := behindTK g p .ret
theorem behindT_bind {β : Type} (g : Geo) (p : Int) (κ : Int → T β) : (behindT g p).bind κ = behindTK g p κ := by
 unfold behindT behindTK
 first | rfl | (simp only [bind_cond, bind_ret_, bind_op, bind_fail, T.bind_assoc])
def markTK {β : Type} (g : Geo) (p k : Int) (κ : Bool → T β) : T β :=
 bif decide (p < 0) then (κ (false)) else
 bif decide (p ≥ g.pages) then (κ (false)) else
 bif decide (k < 1) then (κ (false)) else
 bif decide (k > g.pages) then (κ (false)) else
 .op (.cas (atF g 7 p) (Pg.word (Pg.mk 4 k 0 0)) (Pg.word (Pg.mk 5 k 0 0))) fun b4 =>
 κ (b4)
def markT (g : Geo) (p k : Int) : T Bool := markTK g p k .ret
theorem markT_bind {β : Type} (g : Geo) (p k : Int) (κ : Bool → T β) : (markT g p k).bind κ = markTK g p k κ := by
 unfold markT markTK
 first | rfl | (simp only [bind_cond, bind_ret_, bind_op, bind_fail, T.bind_assoc])
def grainTK {β : Type} (g : Geo) (p b : Int) (c : Cls) (κ : Int → T β) : T β :=
 κ (IntKind.i64.wrap (IntKind.i64.wrap (p * 8) + IntKind.i64.wrap (Int.tdiv (IntKind.i64.wrap (b * c.size)) 8)))
def grainT (g : Geo) (p b : Int) (c : Cls) : T Int := grainTK g p b c .ret
theorem grainT_bind {β : Type} (g : Geo) (p b : Int) (c : Cls) (κ : Int → T β) : (grainT g p b c).bind κ = grainTK g p b c κ := by
 unfold grainT grainTK
 first | rfl | (simp only [bind_cond, bind_ret_, bind_op, bind_fail, T.bind_assoc])
def blocksTK {β : Type} (c : Cls) (κ : Int → T β) : T β :=
 bif bif decide (c.blocks < 0) then false else true then (κ (IntKind.u8.wrap (IntKind.u8.wrap (1 * 2 ^ if Int.toNat c.blocks ≤ 8 then Int.toNat c.blocks else 8) - 1))) else
 .fail
def blocksT (c : Cls) : T Int := blocksTK c .ret
theorem blocksT_bind {β : Type} (c : Cls) (κ : Int → T β) : (blocksT c).bind κ = blocksTK c κ := by
 unfold blocksT blocksTK
 first | rfl | (simp only [bind_cond, bind_ret_, bind_op, bind_fail, T.bind_assoc])
def firstTK {β : Type} (b : Bt) (κ : Int → T β) : T β :=
 bif b.map == 0 then (κ (-1)) else
 (guardT (decide (0 ≤ b.map) && decide (b.map ≤ 255))).bind fun r1 =>
 κ (↑(Lib.trailingZeros8 (Int.toNat b.map)))
def firstT (b : Bt) : T Int := firstTK b .ret
theorem firstT_bind {β : Type} (b : Bt) (κ : Int → T β) : (firstT b).bind κ = firstTK b κ := by
 unfold firstT firstTK
 first | rfl | (simp only [bind_cond, bind_ret_, bind_op, bind_fail, T.bind_assoc])
def fullTK {β : Type} (b : Bt) (n : Int) (κ : Bool → T β) : T β :=
 bif decide (n > 8) then (κ (false)) else
 (guardT (decide (0 ≤ bits BinOp.xor IntKind.u8 (if IntKind.signed IntKind.u8 = true then -1 else IntKind.max IntKind.u8) b.map) && decide (bits BinOp.xor IntKind.u8 (if IntKind.signed IntKind.u8 = true then -1 else IntKind.max IntKind.u8) b.map ≤ 255))).bind fun r1 =>
 κ (decide (↑(Lib.trailingZeros8 (Int.toNat (bits BinOp.xor IntKind.u8 (if IntKind.signed IntKind.u8 = true then -1 else Int.ofNat (2 ^ 8 - 1)) b.map))) ≥ if n < 0 then 0 else n))
def fullT (b : Bt) (n : Int) : T Bool := fullTK b n .ret
theorem fullT_bind {β : Type} (b : Bt) (n : Int) (κ : Bool → T β) : (fullT b n).bind κ = fullTK b n κ := by
 unfold fullT fullTK
 first | rfl | (simp only [bind_cond, bind_ret_, bind_op, bind_fail, T.bind_assoc])
def birthTK {β : Type} (g : Geo) (k s : Int) (κ : Unit → T β) : T β :=
 (snone1T g k).bind fun r0 =>
 bif !r0 then ((serialT g).bind fun r2 =>
 .op (.store (atF g 11 k) (Stt.word (Stt.mk 1 s 0 r2))) fun _ =>
 κ ()) else
 κ ()
def birthT (g : Geo) (k s : Int) : T Unit := birthTK g k s .ret
theorem birthT_bind {β : Type} (g : Geo) (k s : Int) (κ : Unit → T β) : (birthT g k s).bind κ = birthTK g k s κ := by
 unfold birthT birthTK
 first | rfl | (simp only [bind_cond, bind_ret_, bind_op, bind_fail, T.bind_assoc])
def resizeTK {β : Type} (g : Geo) (k : Int) (s : Stt) (z : Int) (κ : Bool → T β) : T β :=
 (snone1T g k).bind fun r0 =>
 bif r0 then (κ (false)) else
 (serialT g).bind fun r2 =>
 .op (.cas (atF g 11 k) (Stt.word (Stt.mk s.kind s.size s.other s.ver)) (Stt.word (Stt.mk 1 z 0 r2))) fun b3 =>
 κ (b3)
def resizeT (g : Geo) (k : Int) (s : Stt) (z : Int) : T Bool := resizeTK g k s z .ret
theorem resizeT_bind {β : Type} (g : Geo) (k : Int) (s : Stt) (z : Int) (κ : Bool → T β) : (resizeT g k s z).bind κ = resizeTK g k s z κ := by
 unfold resizeT resizeTK
 first | rfl | (simp only [bind_cond, bind_ret_, bind_op, bind_fail, T.bind_assoc])
def promiseTK {β : Type} (g : Geo) (to fr z : Int) (κ : Int → T β) : T β :=
 (snone2T g to fr).bind fun r0 =>
 bif r0 then (κ (0)) else
 (serialT g).bind fun r2 =>
 .op (.store (atF g 11 to) (Stt.word (Stt.mk (Stt.mk 2 z fr r2).kind (Stt.mk 2 z fr r2).size (Stt.mk 2 z fr r2).other (Stt.mk 2 z fr r2).ver))) fun _ =>
 κ (r2)
def promiseT (g : Geo) (to fr z : Int) : T Int := promiseTK g to fr z .ret
theorem promiseT_bind {β : Type} (g : Geo) (to fr z : Int) (κ : Int → T β) : (promiseT g to fr z).bind κ = promiseTK g to fr z κ := by
 unfold promiseT promiseTK
 first | rfl | (simp only [bind_cond, bind_ret_, bind_op, bind_fail, T.bind_assoc])
def moveTK {β : Type} (g : Geo) (fr : Int) (s : Stt) (to v : Int) (κ : Bool → T β) : T β :=
 (snone2T g fr to).bind fun r0 =>
 bif r0 then (κ (false)) else
 .op (.cas (atF g 11 fr) (Stt.word (Stt.mk s.kind s.size s.other s.ver)) (Stt.word (Stt.mk 3 0 to v))) fun b2 =>
 κ (b2)
def moveT (g : Geo) (fr : Int) (s : Stt) (to v : Int) : T Bool := moveTK g fr s to v .ret
theorem moveT_bind {β : Type} (g : Geo) (fr : Int) (s : Stt) (to v : Int) (κ : Bool → T β) : (moveT g fr s to v).bind κ = moveTK g fr s to v κ := by
 unfold moveT moveTK
 first | rfl | (simp only [bind_cond, bind_ret_, bind_op, bind_fail, T.bind_assoc])
def settleTK {β : Type} (g : Geo) (to fr z v : Int) (κ : Unit → T β) : T β :=
 (snone2T g to fr).bind fun r0 =>
 bif r0 then (κ ()) else
 .op (.cas (atF g 11 to) (Stt.word (Stt.mk (Stt.mk 2 z fr v).kind (Stt.mk 2 z fr v).size (Stt.mk 2 z fr v).other (Stt.mk 2 z fr v).ver)) (Stt.word (Stt.mk 1 z 0 v))) fun b2 =>
 .op (.store (atF g 11 fr) (0)) fun _ =>
 κ ()
def settleT (g : Geo) (to fr z v : Int) : T Unit := settleTK g to fr z v .ret
theorem settleT_bind {β : Type} (g : Geo) (to fr z v : Int) (κ : Unit → T β) : (settleT g to fr z v).bind κ = settleTK g to fr z v κ := by
 unfold settleT settleTK
 first | rfl | (simp only [bind_cond, bind_ret_, bind_op, bind_fail, T.bind_assoc])
def abortTK {β : Type} (g : Geo) (to : Int) (κ : Unit → T β) : T β :=
 (snone1T g to).bind fun r0 =>
 bif !r0 then (.op (.store (atF g 11 to) (0)) fun _ =>
 κ ()) else
 κ ()
def abortT (g : Geo) (to : Int) : T Unit := abortTK g to .ret
theorem abortT_bind {β : Type} (g : Geo) (to : Int) (κ : Unit → T β) : (abortT g to).bind κ = abortTK g to κ := by
 unfold abortT abortTK
 first | rfl | (simp only [bind_cond, bind_ret_, bind_op, bind_fail, T.bind_assoc])
def lookTK {β : Type} (g : Geo) (k : Int) (κ : Seen → T β) : T β :=
 (snone1T g k).bind fun r0 =>
 bif r0 then (κ ⟨(0), (0), (0), (0), (false), (0)⟩) else
 .op (.load (atF g 11 k)) fun x2 =>
 .op (.steps ) fun x3 =>
 bif (sttOf x2).kind == 1 then (κ ⟨((sttOf x2).kind), ((sttOf x2).size), ((sttOf x2).other), ((sttOf x2).ver), (true), (x3)⟩) else
 bif (sttOf x2).kind == 2 then ((helpedT g k x2).bind fun r6 =>
 bif r6.2 then (κ ⟨(r6.fst.kind), (r6.fst.size), (r6.fst.other), (r6.fst.ver), (r6.fst.live), (r6.fst.lin)⟩) else
 .fail) else
 κ ⟨(0), (0), (0), (0), (false), (x3)⟩
def lookT (g : Geo) (k : Int) : T Seen := lookTK g k .ret
theorem lookT_bind {β : Type} (g : Geo) (k : Int) (κ : Seen → T β) : (lookT g k).bind κ = lookTK g k κ := by
 unfold lookT lookTK
 first | rfl | (simp only [bind_cond, bind_ret_, bind_op, bind_fail, T.bind_assoc])
def cblock0TK {β : Type} (o : Int) (κ : (Int × Bool) → T β) : T β :=
 bif decide (o < 0) then (κ ((0), (false))) else
 bif Int.tmod o 8 == 0 then (bif decide (IntKind.i64.wrap (Int.tdiv o 8) < 8) then (κ ((IntKind.i64.wrap (Int.tdiv o 8)), (true))) else
 κ ((0), (false))) else
 κ ((0), (false))
def cblock0T (o : Int) : T (Int × Bool) := cblock0TK o .ret
theorem cblock0T_bind {β : Type} (o : Int) (κ : (Int × Bool) → T β) : (cblock0T o).bind κ = cblock0TK o κ := by
 unfold cblock0T cblock0TK
 first | rfl | (simp only [bind_cond, bind_ret_, bind_op, bind_fail, T.bind_assoc])
def cblock1TK {β : Type} (o : Int) (κ : (Int × Bool) → T β) : T β :=
 bif decide (o < 0) then (κ ((0), (false))) else
 bif Int.tmod o 16 == 0 then (bif decide (IntKind.i64.wrap (Int.tdiv o 16) < 4) then (κ ((IntKind.i64.wrap (Int.tdiv o 16)), (true))) else
 κ ((0), (false))) else
 κ ((0), (false))
def cblock1T (o : Int) : T (Int × Bool) := cblock1TK o .ret
theorem cblock1T_bind {β : Type} (o : Int) (κ : (Int × Bool) → T β) : (cblock1T o).bind κ = cblock1TK o κ := by
 unfold cblock1T cblock1TK
 first | rfl | (simp only [bind_cond, bind_ret_, bind_op, bind_fail, T.bind_assoc])
def cblock2TK {β : Type} (o : Int) (κ : (Int × Bool) → T β) : T β :=
 bif decide (o < 0) then (κ ((0), (false))) else
 bif Int.tmod o 24 == 0 then (bif decide (IntKind.i64.wrap (Int.tdiv o 24) < 2) then (κ ((IntKind.i64.wrap (Int.tdiv o 24)), (true))) else
 κ ((0), (false))) else
 κ ((0), (false))
def cblock2T (o : Int) : T (Int × Bool) := cblock2TK o .ret
theorem cblock2T_bind {β : Type} (o : Int) (κ : (Int × Bool) → T β) : (cblock2T o).bind κ = cblock2TK o κ := by
 unfold cblock2T cblock2TK
 first | rfl | (simp only [bind_cond, bind_ret_, bind_op, bind_fail, T.bind_assoc])
def cblock3TK {β : Type} (o : Int) (κ : (Int × Bool) → T β) : T β :=
 bif decide (o < 0) then (κ ((0), (false))) else
 bif Int.tmod o 32 == 0 then (bif decide (IntKind.i64.wrap (Int.tdiv o 32) < 2) then (κ ((IntKind.i64.wrap (Int.tdiv o 32)), (true))) else
 κ ((0), (false))) else
 κ ((0), (false))
def cblock3T (o : Int) : T (Int × Bool) := cblock3TK o .ret
theorem cblock3T_bind {β : Type} (o : Int) (κ : (Int × Bool) → T β) : (cblock3T o).bind κ = cblock3TK o κ := by
 unfold cblock3T cblock3TK
 first | rfl | (simp only [bind_cond, bind_ret_, bind_op, bind_fail, T.bind_assoc])
def cofTK {β : Type} (s a : Int) (κ : Int → T β) : T β :=
 bif decide (s < 1) then (κ (-1)) else
 (cpowerT a).bind fun r1 =>
 bif !r1 then (κ (-1)) else
 bif decide (8 ≥ s) then (bif decide (8 ≥ a) then (κ (0)) else
 bif decide (16 ≥ s) then (bif decide (16 ≥ a) then (κ (1)) else
 bif decide (24 ≥ s) then (bif decide (8 ≥ a) then (κ (2)) else
 bif decide (32 ≥ s) then (bif decide (32 ≥ a) then (κ (3)) else
 κ (-1)) else
 κ (-1)) else
 bif decide (32 ≥ s) then (bif decide (32 ≥ a) then (κ (3)) else
 κ (-1)) else
 κ (-1)) else
 bif decide (24 ≥ s) then (bif decide (8 ≥ a) then (κ (2)) else
 bif decide (32 ≥ s) then (bif decide (32 ≥ a) then (κ (3)) else
 κ (-1)) else
 κ (-1)) else
 bif decide (32 ≥ s) then (bif decide (32 ≥ a) then (κ (3)) else
 κ (-1)) else
 κ (-1)) else
 bif decide (16 ≥ s) then (bif decide (16 ≥ a) then (κ (1)) else
 bif decide (24 ≥ s) then (bif decide (8 ≥ a) then (κ (2)) else
 bif decide (32 ≥ s) then (bif decide (32 ≥ a) then (κ (3)) else
 κ (-1)) else
 κ (-1)) else
 bif decide (32 ≥ s) then (bif decide (32 ≥ a) then (κ (3)) else
 κ (-1)) else
 κ (-1)) else
 bif decide (24 ≥ s) then (bif decide (8 ≥ a) then (κ (2)) else
 bif decide (32 ≥ s) then (bif decide (32 ≥ a) then (κ (3)) else
 κ (-1)) else
 κ (-1)) else
 bif decide (32 ≥ s) then (bif decide (32 ≥ a) then (κ (3)) else
 κ (-1)) else
 κ (-1)
def cofT (s a : Int) : T Int := cofTK s a .ret
theorem cofT_bind {β : Type} (s a : Int) (κ : Int → T β) : (cofT s a).bind κ = cofTK s a κ := by
 unfold cofT cofTK
 first | rfl | (simp only [bind_cond, bind_ret_, bind_op, bind_fail, T.bind_assoc])
def m_logT : Sm := fun args H => match args, H with
 | [.c (.int .i64 n)], [] => some (mkS (Int) (logT n) fun r => some (.c (.int .i64 r), []))
 | _, _ => none
variable {σ : Type} {I : Port Tryz.prog σ}
theorem s_m_logT (hl : SoundL I ka2) : SoundF I 257 m_logT := by
 refine sq hl 1 Tryz.func257 fun args H t ht => ?_
 unfold m_logT at ht
 split at ht
 ·rename_i n
  cases ht
  refine Eq.trans ?_ (logT_bind n _).symm
  kernel_rfl
 ·cases ht
def m_aheadT : Sm := fun args H => match args, H with
 | [.agg (.port :: gc), .c (.int .i64 p)], [] => (match geoOf gc with
   | some g => some (mkS (Int) (aheadT g p) fun r => some (.c (.int .i64 r), []))
   | _ => none)
 | _, _ => none
theorem s_m_aheadT (hl : SoundL I ka2) : SoundF I 265 m_aheadT := by
 refine sq hl 1 Tryz.func265 fun args H t ht => ?_
 unfold m_aheadT at ht
 split at ht
 ·rename_i gc p
  split at ht
  ·rename_i g hg
   obtain rfl := geoOf_eq hg
   cases ht
   refine Eq.trans ?_ (aheadT_bind g p _).symm
   kernel_rfl
  ·cases ht
 ·cases ht
def m_behindT : Sm := fun args H => match args, H with
 | [.agg (.port :: gc), .c (.int .i64 p)], [] => (match geoOf gc with
   | some g => some (mkS (Int) (behindT g p) fun r => some (.c (.int .i64 r), []))
   | _ => none)
 | _, _ => none
theorem s_m_behindT (hl : SoundL I ka2) : SoundF I 266 m_behindT := by
 refine sq hl 1 Tryz.func266 fun args H t ht => ?_
 unfold m_behindT at ht
 split at ht
 ·rename_i gc p
  split at ht
  ·rename_i g hg
   obtain rfl := geoOf_eq hg
   cases ht
   refine Eq.trans ?_ (behindT_bind g p _).symm
   kernel_rfl
  ·cases ht
 ·cases ht
def m_markT : Sm := fun args H => match args, H with
 | [.c .port, .agg gc, .c (.int .i64 p), .c (.int .i64 k)], [] => (match geoOf gc with
   | some g => some (mkS (Bool) (markT g p k) fun r => some (.c (.bool r), []))
   | _ => none)
 | _, _ => none
theorem s_m_markT (hl : SoundL I ka2) : SoundF I 85 m_markT := by
 refine sq hl 1 Tryz.func85 fun args H t ht => ?_
 unfold m_markT at ht
 split at ht
 ·rename_i gc p k
  split at ht
  ·rename_i g hg
   obtain rfl := geoOf_eq hg
   cases ht
   refine Eq.trans ?_ (markT_bind g p k _).symm
   kernel_rfl
  ·cases ht
 ·cases ht
def m_grainT : Sm := fun args H => match args, H with
 | [.agg (.port :: gc), .c (.int .i64 b), .agg cc], [] => (match shOf gc with
   | some (g, p) => (match Cls.of cc with
   | some c => some (mkS (Int) (grainT g p b c) fun r => some (.c (.int .i64 r), []))
   | _ => none)
   | _ => none)
 | _, _ => none
theorem s_m_grainT (hl : SoundL I ka2) : SoundF I 279 m_grainT := by
 refine sq hl 1 Tryz.func279 fun args H t ht => ?_
 unfold m_grainT at ht
 split at ht
 ·rename_i gc b cc
  split at ht
  ·rename_i g p hg
   obtain rfl := shOf_eq hg
   split at ht
   ·rename_i c hc
    obtain rfl := Cls.of_eq hc
    cases ht
    refine Eq.trans ?_ (grainT_bind g p b c _).symm
    kernel_rfl
   ·cases ht
  ·cases ht
 ·cases ht
def m_blocksT : Sm := fun args H => match args, H with
 | [.agg cc], [] => (match Cls.of cc with
   | some c => some (mkS (Int) (blocksT c) fun r => some (.c (.int .u8 r), []))
   | _ => none)
 | _, _ => none
theorem s_m_blocksT (hl : SoundL I ka2) : SoundF I 280 m_blocksT := by
 refine sq hl 1 Tryz.func280 fun args H t ht => ?_
 unfold m_blocksT at ht
 split at ht
 ·rename_i cc
  split at ht
  ·rename_i c hc
   obtain rfl := Cls.of_eq hc
   cases ht
   refine Eq.trans ?_ (blocksT_bind c _).symm
   kernel_rfl
  ·cases ht
 ·cases ht
def m_firstT : Sm := fun args H => match args, H with
 | [.agg bc], [] => (match Bt.of bc with
   | some b => some (mkS (Int) (firstT b) fun r => some (.c (.int .i64 r), []))
   | _ => none)
 | _, _ => none
theorem s_m_firstT (hl : SoundL I ka2) : SoundF I 278 m_firstT := by
 refine sq hl 1 Tryz.func278 fun args H t ht => ?_
 unfold m_firstT at ht
 split at ht
 ·rename_i bc
  split at ht
  ·rename_i b hb
   obtain rfl := Bt.of_eq hb
   cases ht
   refine Eq.trans ?_ (firstT_bind b _).symm
   kernel_rfl
  ·cases ht
 ·cases ht
def m_fullT : Sm := fun args H => match args, H with
 | [.agg bc, .c (.int .i64 n)], [] => (match Bt.of bc with
   | some b => some (mkS (Bool) (fullT b n) fun r => some (.c (.bool r), []))
   | _ => none)
 | _, _ => none
theorem s_m_fullT (hl : SoundL I ka2) : SoundF I 269 m_fullT := by
 refine sq hl 1 Tryz.func269 fun args H t ht => ?_
 unfold m_fullT at ht
 split at ht
 ·rename_i bc n
  split at ht
  ·rename_i b hb
   obtain rfl := Bt.of_eq hb
   cases ht
   refine Eq.trans ?_ (fullT_bind b n _).symm
   kernel_rfl
  ·cases ht
 ·cases ht
def m_birthT : Sm := fun args H => match args, H with
 | [.c .port, .agg gc, .c (.int .i64 k), .c (.int .i64 s)], [] => (match geoOf gc with
   | some g => some (mkS (Unit) (birthT g k s) fun r => some (.tup [], []))
   | _ => none)
 | _, _ => none
theorem s_m_birthT (hl : SoundL I ka2) : SoundF I 164 m_birthT := by
 refine sq hl 1 Tryz.func164 fun args H t ht => ?_
 unfold m_birthT at ht
 split at ht
 ·rename_i gc k s
  split at ht
  ·rename_i g hg
   obtain rfl := geoOf_eq hg
   cases ht
   refine Eq.trans ?_ (birthT_bind g k s _).symm
   kernel_rfl
  ·cases ht
 ·cases ht
def m_resizeT : Sm := fun args H => match args, H with
 | [.c .port, .agg gc, .c (.int .i64 k), .agg sc, .c (.int .i64 z)], [] => (match geoOf gc with
   | some g => (match Stt.of sc with
   | some s => some (mkS (Bool) (resizeT g k s z) fun r => some (.c (.bool r), []))
   | _ => none)
   | _ => none)
 | _, _ => none
theorem s_m_resizeT (hl : SoundL I ka2) : SoundF I 193 m_resizeT := by
 refine sq hl 1 Tryz.func193 fun args H t ht => ?_
 unfold m_resizeT at ht
 split at ht
 ·rename_i gc k sc z
  split at ht
  ·rename_i g hg
   obtain rfl := geoOf_eq hg
   split at ht
   ·rename_i s hs
    obtain rfl := Stt.of_eq hs
    cases ht
    refine Eq.trans ?_ (resizeT_bind g k s z _).symm
    kernel_rfl
   ·cases ht
  ·cases ht
 ·cases ht
def m_promiseT : Sm := fun args H => match args, H with
 | [.c .port, .agg gc, .c (.int .i64 to), .c (.int .i64 fr), .c (.int .i64 z)], [] => (match geoOf gc with
   | some g => some (mkS (Int) (promiseT g to fr z) fun r => some (.c (.int .u32 r), []))
   | _ => none)
 | _, _ => none
theorem s_m_promiseT (hl : SoundL I ka2) : SoundF I 195 m_promiseT := by
 refine sq hl 1 Tryz.func195 fun args H t ht => ?_
 unfold m_promiseT at ht
 split at ht
 ·rename_i gc to fr z
  split at ht
  ·rename_i g hg
   obtain rfl := geoOf_eq hg
   cases ht
   refine Eq.trans ?_ (promiseT_bind g to fr z _).symm
   kernel_rfl
  ·cases ht
 ·cases ht
def m_moveT : Sm := fun args H => match args, H with
 | [.c .port, .agg gc, .c (.int .i64 fr), .agg sc, .c (.int .i64 to), .c (.int .u32 v)], [] => (match geoOf gc with
   | some g => (match Stt.of sc with
   | some s => some (mkS (Bool) (moveT g fr s to v) fun r => some (.c (.bool r), []))
   | _ => none)
   | _ => none)
 | _, _ => none
theorem s_m_moveT (hl : SoundL I ka2) : SoundF I 196 m_moveT := by
 refine sq hl 1 Tryz.func196 fun args H t ht => ?_
 unfold m_moveT at ht
 split at ht
 ·rename_i gc fr sc to v
  split at ht
  ·rename_i g hg
   obtain rfl := geoOf_eq hg
   split at ht
   ·rename_i s hs
    obtain rfl := Stt.of_eq hs
    cases ht
    refine Eq.trans ?_ (moveT_bind g fr s to v _).symm
    kernel_rfl
   ·cases ht
  ·cases ht
 ·cases ht
def m_settleT : Sm := fun args H => match args, H with
 | [.c .port, .agg gc, .c (.int .i64 to), .c (.int .i64 fr), .c (.int .i64 z), .c (.int .u32 v)], [] => (match geoOf gc with
   | some g => some (mkS (Unit) (settleT g to fr z v) fun r => some (.tup [], []))
   | _ => none)
 | _, _ => none
theorem s_m_settleT (hl : SoundL I ka2) : SoundF I 198 m_settleT := by
 refine sq hl 1 Tryz.func198 fun args H t ht => ?_
 unfold m_settleT at ht
 split at ht
 ·rename_i gc to fr z v
  split at ht
  ·rename_i g hg
   obtain rfl := geoOf_eq hg
   cases ht
   refine Eq.trans ?_ (settleT_bind g to fr z v _).symm
   kernel_rfl
  ·cases ht
 ·cases ht
def m_abortT : Sm := fun args H => match args, H with
 | [.c .port, .agg gc, .c (.int .i64 to)], [] => (match geoOf gc with
   | some g => some (mkS (Unit) (abortT g to) fun r => some (.tup [], []))
   | _ => none)
 | _, _ => none
theorem s_m_abortT (hl : SoundL I ka2) : SoundF I 197 m_abortT := by
 refine sq hl 1 Tryz.func197 fun args H t ht => ?_
 unfold m_abortT at ht
 split at ht
 ·rename_i gc to
  split at ht
  ·rename_i g hg
   obtain rfl := geoOf_eq hg
   cases ht
   refine Eq.trans ?_ (abortT_bind g to _).symm
   kernel_rfl
  ·cases ht
 ·cases ht
def m_lookT : Sm := fun args H => match args, H with
 | [.c .port, .agg gc, .c (.int .i64 k)], [] => (match geoOf gc with
   | some g => some (mkS (Seen) (lookT g k) fun r => some (.agg r.cells, []))
   | _ => none)
 | _, _ => none
theorem s_m_lookT (hl : SoundL I ka2) : SoundF I 115 m_lookT := by
 refine sq hl 1 Tryz.func115 fun args H t ht => ?_
 unfold m_lookT at ht
 split at ht
 ·rename_i gc k
  split at ht
  ·rename_i g hg
   obtain rfl := geoOf_eq hg
   cases ht
   refine Eq.trans ?_ (lookT_bind g k _).symm
   kernel_rfl
  ·cases ht
 ·cases ht
def m_cblock0T : Sm := fun args H => match args, H with
 | [.c (.int .i64 0), .c (.int .i64 o)], [] => some (mkS ((Int × Bool)) (cblock0T o) fun r => some (.tup [.c (.int .i64 r.1), .c (.bool r.2)], []))
 | _, _ => none
theorem s_m_cblock0T (hl : SoundL I ka2) : SoundF I 177 m_cblock0T := by
 refine sq hl 1 Tryz.func177 fun args H t ht => ?_
 unfold m_cblock0T at ht
 split at ht
 ·rename_i o
  cases ht
  refine Eq.trans ?_ (cblock0T_bind o _).symm
  kernel_rfl
 ·cases ht
def m_cblock1T : Sm := fun args H => match args, H with
 | [.c (.int .i64 1), .c (.int .i64 o)], [] => some (mkS ((Int × Bool)) (cblock1T o) fun r => some (.tup [.c (.int .i64 r.1), .c (.bool r.2)], []))
 | _, _ => none
theorem s_m_cblock1T (hl : SoundL I ka2) : SoundF I 177 m_cblock1T := by
 refine sq hl 1 Tryz.func177 fun args H t ht => ?_
 unfold m_cblock1T at ht
 split at ht
 ·rename_i o
  cases ht
  refine Eq.trans ?_ (cblock1T_bind o _).symm
  kernel_rfl
 ·cases ht
def m_cblock2T : Sm := fun args H => match args, H with
 | [.c (.int .i64 2), .c (.int .i64 o)], [] => some (mkS ((Int × Bool)) (cblock2T o) fun r => some (.tup [.c (.int .i64 r.1), .c (.bool r.2)], []))
 | _, _ => none
theorem s_m_cblock2T (hl : SoundL I ka2) : SoundF I 177 m_cblock2T := by
 refine sq hl 1 Tryz.func177 fun args H t ht => ?_
 unfold m_cblock2T at ht
 split at ht
 ·rename_i o
  cases ht
  refine Eq.trans ?_ (cblock2T_bind o _).symm
  kernel_rfl
 ·cases ht
def m_cblock3T : Sm := fun args H => match args, H with
 | [.c (.int .i64 3), .c (.int .i64 o)], [] => some (mkS ((Int × Bool)) (cblock3T o) fun r => some (.tup [.c (.int .i64 r.1), .c (.bool r.2)], []))
 | _, _ => none
theorem s_m_cblock3T (hl : SoundL I ka2) : SoundF I 177 m_cblock3T := by
 refine sq hl 1 Tryz.func177 fun args H t ht => ?_
 unfold m_cblock3T at ht
 split at ht
 ·rename_i o
  cases ht
  refine Eq.trans ?_ (cblock3T_bind o _).symm
  kernel_rfl
 ·cases ht
def m_cofT : Sm := fun args H => match args, H with
 | [.c (.int .i64 s), .c (.int .i64 a)], [] => some (mkS (Int) (cofT s a) fun r => some (.c (.int .i64 r), []))
 | _, _ => none
theorem s_m_cofT (hl : SoundL I ka2) : SoundF I 75 m_cofT := by
 refine sq hl 6 Tryz.func75 fun args H t ht => ?_
 unfold m_cofT at ht
 split at ht
 ·rename_i s a
  cases ht
  refine Eq.trans ?_ (cofT_bind s a _).symm
  kernel_rfl
 ·cases ht
def ka3 : List (Nat × Sm) := (257, m_logT) :: (265, m_aheadT) :: (266, m_behindT) :: (85, m_markT) :: (279, m_grainT) :: (280, m_blocksT) :: (278, m_firstT) :: (269, m_fullT) :: (164, m_birthT) :: (193, m_resizeT) :: (195, m_promiseT) :: (196, m_moveT) :: (198, m_settleT) :: (197, m_abortT) :: (115, m_lookT) :: (177, (orSm m_cblock0T (orSm m_cblock1T (orSm m_cblock2T m_cblock3T)))) :: (75, m_cofT) :: ka2
theorem s_ka3 : SoundL I ka3 := (.cons (s_m_logT s_ka2) (.cons (s_m_aheadT s_ka2) (.cons (s_m_behindT s_ka2) (.cons (s_m_markT s_ka2) (.cons (s_m_grainT s_ka2) (.cons (s_m_blocksT s_ka2) (.cons (s_m_firstT s_ka2) (.cons (s_m_fullT s_ka2) (.cons (s_m_birthT s_ka2) (.cons (s_m_resizeT s_ka2) (.cons (s_m_promiseT s_ka2) (.cons (s_m_moveT s_ka2) (.cons (s_m_settleT s_ka2) (.cons (s_m_abortT s_ka2) (.cons (s_m_lookT s_ka2) (.cons (SoundF.or (s_m_cblock0T s_ka2) (SoundF.or (s_m_cblock1T s_ka2) (SoundF.or (s_m_cblock2T s_ka2) (s_m_cblock3T s_ka2)))) (.cons (s_m_cofT s_ka2) s_ka2)))))))))))))))))
end Go.Proofs.YtaegelbaghaooaaGreat.Lx
