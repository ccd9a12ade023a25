/- Summaries: package geom. -/
import Derived.Test.YtaegelbaghaooaaGreatQWord
import Derived.WalkKit
namespace Go.Proofs.YtaegelbaghaooaaGreat.Lx
open Go
set_option maxRecDepth 100000
set_option linter.unusedVariables false
/-- a geometry: pages, threads, where its regions begin. -/
structure Geo where
  (pages threads b0 b1 b2 b3 b4 b5 b6 b7 b8 b9 b10 b11 b12 b13 b14 b15 b16 b17 b18 b19 : Int)
def Geo.cells (g : Geo) : List C := [.int .i64 g.pages, .int .i64 g.threads, .int .i64 g.b0, .int .i64 g.b1, .int .i64 g.b2, .int .i64 g.b3, .int .i64 g.b4, .int .i64 g.b5, .int .i64 g.b6, .int .i64 g.b7, .int .i64 g.b8, .int .i64 g.b9, .int .i64 g.b10, .int .i64 g.b11, .int .i64 g.b12, .int .i64 g.b13, .int .i64 g.b14, .int .i64 g.b15, .int .i64 g.b16, .int .i64 g.b17, .int .i64 g.b18, .int .i64 g.b19]
def geoOf : List C → Option Geo
  | [.int .i64 x0, .int .i64 x1, .int .i64 x2, .int .i64 x3, .int .i64 x4, .int .i64 x5, .int .i64 x6, .int .i64 x7, .int .i64 x8, .int .i64 x9, .int .i64 x10, .int .i64 x11, .int .i64 x12, .int .i64 x13, .int .i64 x14, .int .i64 x15, .int .i64 x16, .int .i64 x17, .int .i64 x18, .int .i64 x19, .int .i64 x20, .int .i64 x21] => some ⟨x0, x1, x2, x3, x4, x5, x6, x7, x8, x9, x10, x11, x12, x13, x14, x15, x16, x17, x18, x19, x20, x21⟩
  | _ => none
theorem geoOf_eq {l : List C} {g : Geo} (h : geoOf l = some g) : l = g.cells := by
  unfold geoOf at h
  split at h
  · cases h; rfl
  · cases h
def Geo.base (g : Geo) : Nat → Int
  | 0 => g.b0
  | 1 => g.b1
  | 2 => g.b2
  | 3 => g.b3
  | 4 => g.b4
  | 5 => g.b5
  | 6 => g.b6
  | 7 => g.b7
  | 8 => g.b8
  | 9 => g.b9
  | 10 => g.b10
  | 11 => g.b11
  | 12 => g.b12
  | 13 => g.b13
  | 14 => g.b14
  | 15 => g.b15
  | 16 => g.b16
  | 17 => g.b17
  | 18 => g.b18
  | 19 => g.b19
  | _ => 0
/-- the word of a number of a region. -/
def atF (g : Geo) (r : Nat) (n : Int) : Int := bif decide (n < 0) then -1 else bif decide (n ≥ IntKind.i64.wrap (g.base (r + 1) - g.base r)) then -1 else IntKind.i64.wrap (g.base r + n)
def inF (n k many : Int) : Int := bif decide (n < 0) then -1 else bif decide (n > 1073741824) then -1 else bif decide (k < 0) then -1 else bif decide (k ≥ many) then -1 else IntKind.i64.wrap (IntKind.i64.wrap (n * many) + k)
def roomF (g : Geo) : Int := IntKind.i64.wrap (IntKind.i64.wrap (2 * g.threads) + 2)
def nodesF (g : Geo) : Int := bif g.pages == 0 then 0 else IntKind.i64.wrap (IntKind.i64.wrap (IntKind.i64.wrap (g.threads * 4) * IntKind.i64.wrap (g.pages + 1)) + IntKind.i64.wrap (g.threads * IntKind.i64.wrap (IntKind.i64.wrap (2 * g.threads) + 3)))
theorem cond_i64 (c : Bool) (k : IntKind) (a b : Int) : cond c (T.ret (V.c (C.int k a), ([] : Heap))) (T.ret (V.c (C.int k b), [])) = T.ret (V.c (C.int k (cond c a b)), []) := by cases c <;> rfl
def mAt : Sm := fun args H => match args, H with
  | [.agg gc, .c (.int .i64 r), .c (.int .i64 n)], [] => match geoOf gc with
    | some g => bif decide (0 ≤ r) && decide (r < 19) then one (.int .i64 (atF g r.toNat n)) else none
    | none => none
  | _, _ => none
theorem evAt (g : Geo) (n : Int) : ∀ r : Nat, r < 19 → evF Tryz.prog (lookK []) 0 Tryz.f124 [.agg g.cells, .c (.int .i64 (r : Int)), .c (.int .i64 n)] [] = cond (decide (n < 0)) (.ret (.c (.int .i64 (-1)), [])) (cond (decide (n ≥ IntKind.i64.wrap (g.base (r + 1) - g.base r))) (.ret (.c (.int .i64 (-1)), [])) (.ret (.c (.int .i64 (IntKind.i64.wrap (g.base r + n))), [])))
  | 0, _ => by kernel_rfl
  | 1, _ => by kernel_rfl
  | 2, _ => by kernel_rfl
  | 3, _ => by kernel_rfl
  | 4, _ => by kernel_rfl
  | 5, _ => by kernel_rfl
  | 6, _ => by kernel_rfl
  | 7, _ => by kernel_rfl
  | 8, _ => by kernel_rfl
  | 9, _ => by kernel_rfl
  | 10, _ => by kernel_rfl
  | 11, _ => by kernel_rfl
  | 12, _ => by kernel_rfl
  | 13, _ => by kernel_rfl
  | 14, _ => by kernel_rfl
  | 15, _ => by kernel_rfl
  | 16, _ => by kernel_rfl
  | 17, _ => by kernel_rfl
  | 18, _ => by kernel_rfl
  | r + 19, h => by omega

def mIn : Sm := fun args H => match args, H with
  | [.c (.int .i64 n), .c (.int .i64 k), .c (.int .i64 m)], [] => one (.int .i64 (inF n k m))
  | _, _ => none
def mPages : Sm := fun args H => match args, H with
  | [.agg gc], [] => match geoOf gc with
    | some g => one (.int .i64 (g.pages))
    | none => none
  | _, _ => none
def mThreads : Sm := fun args H => match args, H with
  | [.agg gc], [] => match geoOf gc with
    | some g => one (.int .i64 (g.threads))
    | none => none
  | _, _ => none
def mRoom : Sm := fun args H => match args, H with
  | [.agg gc], [] => match geoOf gc with
    | some g => one (.int .i64 (roomF g))
    | none => none
  | _, _ => none
def mNodes : Sm := fun args H => match args, H with
  | [.agg gc], [] => match geoOf gc with
    | some g => one (.int .i64 (nodesF g))
    | none => none
  | _, _ => none
def mWords : Sm := fun args H => match args, H with
  | [.agg gc], [] => match geoOf gc with
    | some g => one (.int .i64 (g.b19))
    | none => none
  | _, _ => none
def kg0 : List (Nat × Sm) := (124, mAt) :: (183, mIn) :: (24, mPages) :: (35, mThreads) :: (69, mRoom) :: (70, mNodes) :: (151, mWords) :: []
theorem s_mAt {σ : Type} {I : Port Tryz.prog σ} (hl : SoundL I []) : SoundF I 124 mAt := by
  refine sound_eq hl 0 Tryz.func124 (by kernel_rfl) (by kernel_rfl) fun args H t ht => ?_
  unfold mAt at ht
  split at ht
  · rename_i gc r n
    split at ht
    · rename_i g hg
      obtain ⟨h1, rfl⟩ := cond_some ht
      simp only [Bool.and_eq_true, decide_eq_true_eq] at h1
      obtain ⟨h1, h2⟩ := h1
      obtain rfl := geoOf_eq hg
      obtain ⟨k, rfl⟩ := Int.eq_ofNat_of_zero_le h1
      rw [evAt g n k (by omega), cond_i64, cond_i64]
      rfl
    · cases ht
  · cases ht
theorem s_mIn {σ : Type} {I : Port Tryz.prog σ} (hl : SoundL I []) : SoundF I 183 mIn := by
  refine sound_eq hl 0 Tryz.func183 (by kernel_rfl) (by kernel_rfl) fun args H t ht => ?_
  unfold mIn at ht
  split at ht
  · rename_i n k m
    cases ht
    have e : evF Tryz.prog (lookK []) 0 Tryz.f183 [.c (.int .i64 n), .c (.int .i64 k), .c (.int .i64 m)] [] = cond (decide (n < 0)) (.ret (.c (.int .i64 (-1)), [])) (cond (decide (n > 1073741824)) (.ret (.c (.int .i64 (-1)), [])) (cond (decide (k < 0)) (.ret (.c (.int .i64 (-1)), [])) (cond (decide (k ≥ m)) (.ret (.c (.int .i64 (-1)), [])) (.ret (.c (.int .i64 (IntKind.i64.wrap (IntKind.i64.wrap (n * m) + k))), []))))) := by kernel_rfl
    rw [e]
    simp only [cond_i64]
    rfl
  · cases ht
theorem s_mPages {σ : Type} {I : Port Tryz.prog σ} (hl : SoundL I []) : SoundF I 24 mPages := by
  refine sound_eq hl 0 Tryz.func24 (by kernel_rfl) (by kernel_rfl) fun args H t ht => ?_
  unfold mPages at ht
  split at ht
  · rename_i gc
    split at ht
    · rename_i g hg
      obtain rfl := geoOf_eq hg
      cases ht
      kernel_rfl
    · cases ht
  · cases ht
theorem s_mThreads {σ : Type} {I : Port Tryz.prog σ} (hl : SoundL I []) : SoundF I 35 mThreads := by
  refine sound_eq hl 0 Tryz.func35 (by kernel_rfl) (by kernel_rfl) fun args H t ht => ?_
  unfold mThreads at ht
  split at ht
  · rename_i gc
    split at ht
    · rename_i g hg
      obtain rfl := geoOf_eq hg
      cases ht
      kernel_rfl
    · cases ht
  · cases ht
theorem s_mRoom {σ : Type} {I : Port Tryz.prog σ} (hl : SoundL I []) : SoundF I 69 mRoom := by
  refine sound_eq hl 0 Tryz.func69 (by kernel_rfl) (by kernel_rfl) fun args H t ht => ?_
  unfold mRoom at ht
  split at ht
  · rename_i gc
    split at ht
    · rename_i g hg
      obtain rfl := geoOf_eq hg
      cases ht
      kernel_rfl
    · cases ht
  · cases ht
theorem s_mNodes {σ : Type} {I : Port Tryz.prog σ} (hl : SoundL I []) : SoundF I 70 mNodes := by
  refine sound_eq hl 0 Tryz.func70 (by kernel_rfl) (by kernel_rfl) fun args H t ht => ?_
  unfold mNodes at ht
  split at ht
  · rename_i gc
    split at ht
    · rename_i g hg
      obtain rfl := geoOf_eq hg
      cases ht
      have e : evF Tryz.prog (lookK []) 0 Tryz.f70 [.agg g.cells] [] = cond (g.pages == 0) (.ret (.c (.int .i64 0), [])) (.ret (.c (.int .i64 (IntKind.i64.wrap (IntKind.i64.wrap (IntKind.i64.wrap (g.threads * 4) * IntKind.i64.wrap (g.pages + 1)) + IntKind.i64.wrap (g.threads * IntKind.i64.wrap (IntKind.i64.wrap (2 * g.threads) + 3))))), [])) := by kernel_rfl
      rw [e]
      simp only [cond_i64]
      rfl
    · cases ht
  · cases ht
theorem s_mWords {σ : Type} {I : Port Tryz.prog σ} (hl : SoundL I []) : SoundF I 151 mWords := by
  refine sound_eq hl 0 Tryz.func151 (by kernel_rfl) (by kernel_rfl) fun args H t ht => ?_
  unfold mWords at ht
  split at ht
  · rename_i gc
    split at ht
    · rename_i g hg
      obtain rfl := geoOf_eq hg
      cases ht
      kernel_rfl
    · cases ht
  · cases ht
theorem s_kg0 {σ : Type} {I : Port Tryz.prog σ} : SoundL I kg0 := (.cons (s_mAt .nil) (.cons (s_mIn .nil) (.cons (s_mPages .nil) (.cons (s_mThreads .nil) (.cons (s_mRoom .nil) (.cons (s_mNodes .nil) (.cons (s_mWords .nil) .nil)))))))
def mLock : Sm := fun args H => match args, H with
  | [.agg gc], [] => match geoOf gc with
    | some g => one (.int .i64 (atF g 0 0))
    | none => none
  | _, _ => none
def mEpoch : Sm := fun args H => match args, H with
  | [.agg gc], [] => match geoOf gc with
    | some g => one (.int .i64 (atF g 1 0))
    | none => none
  | _, _ => none
def mPool : Sm := fun args H => match args, H with
  | [.agg gc], [] => match geoOf gc with
    | some g => one (.int .i64 (atF g 4 0))
    | none => none
  | _, _ => none
def mCount : Sm := fun args H => match args, H with
  | [.agg gc, .c (.int .i64 n)], [] => match geoOf gc with
    | some g => one (.int .i64 (atF g 2 n))
    | none => none
  | _, _ => none
def mBin : Sm := fun args H => match args, H with
  | [.agg gc, .c (.int .i64 n)], [] => match geoOf gc with
    | some g => one (.int .i64 (atF g 3 n))
    | none => none
  | _, _ => none
def mAdds : Sm := fun args H => match args, H with
  | [.agg gc, .c (.int .i64 n)], [] => match geoOf gc with
    | some g => one (.int .i64 (atF g 5 n))
    | none => none
  | _, _ => none
def mSerial : Sm := fun args H => match args, H with
  | [.agg gc, .c (.int .i64 n)], [] => match geoOf gc with
    | some g => one (.int .i64 (atF g 6 n))
    | none => none
  | _, _ => none
def mPage : Sm := fun args H => match args, H with
  | [.agg gc, .c (.int .i64 n)], [] => match geoOf gc with
    | some g => one (.int .i64 (atF g 7 n))
    | none => none
  | _, _ => none
def mBits : Sm := fun args H => match args, H with
  | [.agg gc, .c (.int .i64 n)], [] => match geoOf gc with
    | some g => one (.int .i64 (atF g 8 n))
    | none => none
  | _, _ => none
def mRemote : Sm := fun args H => match args, H with
  | [.agg gc, .c (.int .i64 n)], [] => match geoOf gc with
    | some g => one (.int .i64 (atF g 9 n))
    | none => none
  | _, _ => none
def mLink : Sm := fun args H => match args, H with
  | [.agg gc, .c (.int .i64 n)], [] => match geoOf gc with
    | some g => one (.int .i64 (atF g 10 n))
    | none => none
  | _, _ => none
def mState : Sm := fun args H => match args, H with
  | [.agg gc, .c (.int .i64 n)], [] => match geoOf gc with
    | some g => one (.int .i64 (atF g 11 n))
    | none => none
  | _, _ => none
def mGone : Sm := fun args H => match args, H with
  | [.agg gc, .c (.int .i64 n)], [] => match geoOf gc with
    | some g => one (.int .i64 (atF g 15 n))
    | none => none
  | _, _ => none
def mCache : Sm := fun args H => match args, H with
  | [.agg gc, .c (.int .i64 t), .c (.int .i64 c), .c (.int .i64 k)], [] => match geoOf gc with
    | some g => one (.int .i64 (atF g 12 (inF (inF t c 4) k 2)))
    | none => none
  | _, _ => none
def mHead : Sm := fun args H => match args, H with
  | [.agg gc, .c (.int .i64 t), .c (.int .i64 c)], [] => match geoOf gc with
    | some g => one (.int .i64 (atF g 13 (inF t c 4)))
    | none => none
  | _, _ => none
def mHazard : Sm := fun args H => match args, H with
  | [.agg gc, .c (.int .i64 t), .c (.int .i64 k)], [] => match geoOf gc with
    | some g => one (.int .i64 (atF g 14 (inF t k 2)))
    | none => none
  | _, _ => none
def mRetired : Sm := fun args H => match args, H with
  | [.agg gc, .c (.int .i64 t), .c (.int .i64 k)], [] => match geoOf gc with
    | some g => one (.int .i64 (atF g 16 (inF t k (roomF g))))
    | none => none
  | _, _ => none
def mNext : Sm := fun args H => match args, H with
  | [.agg gc, .c (.int .i64 n)], [] => match geoOf gc with
    | some g => one (.int .i64 (atF g 17 (inF (IntKind.i64.wrap (n - 1)) 0 1)))
    | none => none
  | _, _ => none
def mItem : Sm := fun args H => match args, H with
  | [.agg gc, .c (.int .i64 n), .c (.int .i64 k)], [] => match geoOf gc with
    | some g => one (.int .i64 (atF g 18 (inF (IntKind.i64.wrap (n - 1)) k 8)))
    | none => none
  | _, _ => none
def kg1 : List (Nat × Sm) := (95, mLock) :: (127, mEpoch) :: (202, mPool) :: (216, mCount) :: (256, mBin) :: (175, mAdds) :: (249, mSerial) :: (94, mPage) :: (99, mBits) :: (97, mRemote) :: (172, mLink) :: (55, mState) :: (166, mGone) :: (100, mCache) :: (101, mHead) :: (283, mHazard) :: (272, mRetired) :: (103, mNext) :: (102, mItem) :: kg0
theorem s_mLock {σ : Type} {I : Port Tryz.prog σ} (hl : SoundL I kg0) : SoundF I 95 mLock := by
  refine sound_eq hl 0 Tryz.func95 (by kernel_rfl) (by kernel_rfl) fun args H t ht => ?_
  unfold mLock at ht
  split at ht
  · rename_i gc
    split at ht
    · rename_i g hg
      obtain rfl := geoOf_eq hg
      cases ht
      kernel_rfl
    · cases ht
  · cases ht
theorem s_mEpoch {σ : Type} {I : Port Tryz.prog σ} (hl : SoundL I kg0) : SoundF I 127 mEpoch := by
  refine sound_eq hl 0 Tryz.func127 (by kernel_rfl) (by kernel_rfl) fun args H t ht => ?_
  unfold mEpoch at ht
  split at ht
  · rename_i gc
    split at ht
    · rename_i g hg
      obtain rfl := geoOf_eq hg
      cases ht
      kernel_rfl
    · cases ht
  · cases ht
theorem s_mPool {σ : Type} {I : Port Tryz.prog σ} (hl : SoundL I kg0) : SoundF I 202 mPool := by
  refine sound_eq hl 0 Tryz.func202 (by kernel_rfl) (by kernel_rfl) fun args H t ht => ?_
  unfold mPool at ht
  split at ht
  · rename_i gc
    split at ht
    · rename_i g hg
      obtain rfl := geoOf_eq hg
      cases ht
      kernel_rfl
    · cases ht
  · cases ht
theorem s_mCount {σ : Type} {I : Port Tryz.prog σ} (hl : SoundL I kg0) : SoundF I 216 mCount := by
  refine sound_eq hl 0 Tryz.func216 (by kernel_rfl) (by kernel_rfl) fun args H t ht => ?_
  unfold mCount at ht
  split at ht
  · rename_i gc n
    split at ht
    · rename_i g hg
      obtain rfl := geoOf_eq hg
      cases ht
      kernel_rfl
    · cases ht
  · cases ht
theorem s_mBin {σ : Type} {I : Port Tryz.prog σ} (hl : SoundL I kg0) : SoundF I 256 mBin := by
  refine sound_eq hl 0 Tryz.func256 (by kernel_rfl) (by kernel_rfl) fun args H t ht => ?_
  unfold mBin at ht
  split at ht
  · rename_i gc n
    split at ht
    · rename_i g hg
      obtain rfl := geoOf_eq hg
      cases ht
      kernel_rfl
    · cases ht
  · cases ht
theorem s_mAdds {σ : Type} {I : Port Tryz.prog σ} (hl : SoundL I kg0) : SoundF I 175 mAdds := by
  refine sound_eq hl 0 Tryz.func175 (by kernel_rfl) (by kernel_rfl) fun args H t ht => ?_
  unfold mAdds at ht
  split at ht
  · rename_i gc n
    split at ht
    · rename_i g hg
      obtain rfl := geoOf_eq hg
      cases ht
      kernel_rfl
    · cases ht
  · cases ht
theorem s_mSerial {σ : Type} {I : Port Tryz.prog σ} (hl : SoundL I kg0) : SoundF I 249 mSerial := by
  refine sound_eq hl 0 Tryz.func249 (by kernel_rfl) (by kernel_rfl) fun args H t ht => ?_
  unfold mSerial at ht
  split at ht
  · rename_i gc n
    split at ht
    · rename_i g hg
      obtain rfl := geoOf_eq hg
      cases ht
      kernel_rfl
    · cases ht
  · cases ht
theorem s_mPage {σ : Type} {I : Port Tryz.prog σ} (hl : SoundL I kg0) : SoundF I 94 mPage := by
  refine sound_eq hl 0 Tryz.func94 (by kernel_rfl) (by kernel_rfl) fun args H t ht => ?_
  unfold mPage at ht
  split at ht
  · rename_i gc n
    split at ht
    · rename_i g hg
      obtain rfl := geoOf_eq hg
      cases ht
      kernel_rfl
    · cases ht
  · cases ht
theorem s_mBits {σ : Type} {I : Port Tryz.prog σ} (hl : SoundL I kg0) : SoundF I 99 mBits := by
  refine sound_eq hl 0 Tryz.func99 (by kernel_rfl) (by kernel_rfl) fun args H t ht => ?_
  unfold mBits at ht
  split at ht
  · rename_i gc n
    split at ht
    · rename_i g hg
      obtain rfl := geoOf_eq hg
      cases ht
      kernel_rfl
    · cases ht
  · cases ht
theorem s_mRemote {σ : Type} {I : Port Tryz.prog σ} (hl : SoundL I kg0) : SoundF I 97 mRemote := by
  refine sound_eq hl 0 Tryz.func97 (by kernel_rfl) (by kernel_rfl) fun args H t ht => ?_
  unfold mRemote at ht
  split at ht
  · rename_i gc n
    split at ht
    · rename_i g hg
      obtain rfl := geoOf_eq hg
      cases ht
      kernel_rfl
    · cases ht
  · cases ht
theorem s_mLink {σ : Type} {I : Port Tryz.prog σ} (hl : SoundL I kg0) : SoundF I 172 mLink := by
  refine sound_eq hl 0 Tryz.func172 (by kernel_rfl) (by kernel_rfl) fun args H t ht => ?_
  unfold mLink at ht
  split at ht
  · rename_i gc n
    split at ht
    · rename_i g hg
      obtain rfl := geoOf_eq hg
      cases ht
      kernel_rfl
    · cases ht
  · cases ht
theorem s_mState {σ : Type} {I : Port Tryz.prog σ} (hl : SoundL I kg0) : SoundF I 55 mState := by
  refine sound_eq hl 0 Tryz.func55 (by kernel_rfl) (by kernel_rfl) fun args H t ht => ?_
  unfold mState at ht
  split at ht
  · rename_i gc n
    split at ht
    · rename_i g hg
      obtain rfl := geoOf_eq hg
      cases ht
      kernel_rfl
    · cases ht
  · cases ht
theorem s_mGone {σ : Type} {I : Port Tryz.prog σ} (hl : SoundL I kg0) : SoundF I 166 mGone := by
  refine sound_eq hl 0 Tryz.func166 (by kernel_rfl) (by kernel_rfl) fun args H t ht => ?_
  unfold mGone at ht
  split at ht
  · rename_i gc n
    split at ht
    · rename_i g hg
      obtain rfl := geoOf_eq hg
      cases ht
      kernel_rfl
    · cases ht
  · cases ht
theorem s_mCache {σ : Type} {I : Port Tryz.prog σ} (hl : SoundL I kg0) : SoundF I 100 mCache := by
  refine sound_eq hl 0 Tryz.func100 (by kernel_rfl) (by kernel_rfl) fun args H t ht => ?_
  unfold mCache at ht
  split at ht
  · rename_i gc t c k
    split at ht
    · rename_i g hg
      obtain rfl := geoOf_eq hg
      cases ht
      kernel_rfl
    · cases ht
  · cases ht
theorem s_mHead {σ : Type} {I : Port Tryz.prog σ} (hl : SoundL I kg0) : SoundF I 101 mHead := by
  refine sound_eq hl 0 Tryz.func101 (by kernel_rfl) (by kernel_rfl) fun args H t ht => ?_
  unfold mHead at ht
  split at ht
  · rename_i gc t c
    split at ht
    · rename_i g hg
      obtain rfl := geoOf_eq hg
      cases ht
      kernel_rfl
    · cases ht
  · cases ht
theorem s_mHazard {σ : Type} {I : Port Tryz.prog σ} (hl : SoundL I kg0) : SoundF I 283 mHazard := by
  refine sound_eq hl 0 Tryz.func283 (by kernel_rfl) (by kernel_rfl) fun args H t ht => ?_
  unfold mHazard at ht
  split at ht
  · rename_i gc t k
    split at ht
    · rename_i g hg
      obtain rfl := geoOf_eq hg
      cases ht
      kernel_rfl
    · cases ht
  · cases ht
theorem s_mRetired {σ : Type} {I : Port Tryz.prog σ} (hl : SoundL I kg0) : SoundF I 272 mRetired := by
  refine sound_eq hl 0 Tryz.func272 (by kernel_rfl) (by kernel_rfl) fun args H t ht => ?_
  unfold mRetired at ht
  split at ht
  · rename_i gc t k
    split at ht
    · rename_i g hg
      obtain rfl := geoOf_eq hg
      cases ht
      kernel_rfl
    · cases ht
  · cases ht
theorem s_mNext {σ : Type} {I : Port Tryz.prog σ} (hl : SoundL I kg0) : SoundF I 103 mNext := by
  refine sound_eq hl 0 Tryz.func103 (by kernel_rfl) (by kernel_rfl) fun args H t ht => ?_
  unfold mNext at ht
  split at ht
  · rename_i gc n
    split at ht
    · rename_i g hg
      obtain rfl := geoOf_eq hg
      cases ht
      kernel_rfl
    · cases ht
  · cases ht
theorem s_mItem {σ : Type} {I : Port Tryz.prog σ} (hl : SoundL I kg0) : SoundF I 102 mItem := by
  refine sound_eq hl 0 Tryz.func102 (by kernel_rfl) (by kernel_rfl) fun args H t ht => ?_
  unfold mItem at ht
  split at ht
  · rename_i gc n k
    split at ht
    · rename_i g hg
      obtain rfl := geoOf_eq hg
      cases ht
      kernel_rfl
    · cases ht
  · cases ht
theorem s_kg1 {σ : Type} {I : Port Tryz.prog σ} : SoundL I kg1 := (.cons (s_mLock s_kg0) (.cons (s_mEpoch s_kg0) (.cons (s_mPool s_kg0) (.cons (s_mCount s_kg0) (.cons (s_mBin s_kg0) (.cons (s_mAdds s_kg0) (.cons (s_mSerial s_kg0) (.cons (s_mPage s_kg0) (.cons (s_mBits s_kg0) (.cons (s_mRemote s_kg0) (.cons (s_mLink s_kg0) (.cons (s_mState s_kg0) (.cons (s_mGone s_kg0) (.cons (s_mCache s_kg0) (.cons (s_mHead s_kg0) (.cons (s_mHazard s_kg0) (.cons (s_mRetired s_kg0) (.cons (s_mNext s_kg0) (.cons (s_mItem s_kg0) s_kg0)))))))))))))))))))
end Go.Proofs.YtaegelbaghaooaaGreat.Lx
