/- Summaries: package word. -/
import Derived.Test.YtaegelbaghaooaaGreatQBase
import Derived.WalkKit
namespace Go.Proofs.YtaegelbaghaooaaGreat.Lx
open Go
set_option maxRecDepth 100000
/-! ### what its functions come to -/
def maskW (many : Int) : Int := IntKind.u64.wrap (IntKind.u64.wrap (1 * 2 ^ min many.toNat IntKind.u64.bits) - 1)
def ofW (k : IntKind) (w pos many : Int) : Int := k.wrap (bits .and .u64 (w.fdiv (2 ^ min pos.toNat IntKind.u64.bits)) (maskW many))
def fieldW (n pos many : Int) : Int := IntKind.u64.wrap (bits .and .u64 (IntKind.u64.wrap n) (maskW many) * 2 ^ min pos.toNat IntKind.u64.bits)
structure Ref where
  (idx : Int) (mark : Bool) (ver : Int)
structure Stt where
  (kind size other ver : Int)
structure Pg where
  (kind len cls owner : Int)
structure Bt where
  (map : Int) (has : Bool) (cls ver : Int)
def Ref.cells (r : Ref) : List C := [.int .i64 r.idx, .bool r.mark, .int .u32 r.ver]
def Stt.cells (r : Stt) : List C := [.int .i64 r.kind, .int .i64 r.size, .int .i64 r.other, .int .u32 r.ver]
def Pg.cells (r : Pg) : List C := [.int .i64 r.kind, .int .i64 r.len, .int .i64 r.cls, .int .i64 r.owner]
def Bt.cells (r : Bt) : List C := [.int .u8 r.map, .bool r.has, .int .i64 r.cls, .int .u32 r.ver]
def refOf (w : Int) : Ref := ⟨ofW .i64 w 0 24, ofW .i64 w 24 1 == 1, ofW .u32 w 32 32⟩
def sttOf (w : Int) : Stt := ⟨ofW .i64 w 0 2, ofW .i64 w 2 16, ofW .i64 w 18 12, ofW .u32 w 32 32⟩
def pgOf (w : Int) : Pg := ⟨ofW .i64 w 0 3, ofW .i64 w 3 10, ofW .i64 w 13 2, ofW .i64 w 16 7⟩
def btOf (w : Int) : Bt := ⟨ofW .u8 w 0 8, decide (ofW .i64 w 8 3 > 0), bif decide (ofW .i64 w 8 3 > 0) then IntKind.i64.wrap (ofW .i64 w 8 3 - 1) else 0, ofW .u32 w 32 32⟩
def orW (a b : Int) : Int := bits .or .u64 a b
def Ref.word (r : Ref) : Int := bif r.mark then orW (orW (fieldW r.idx 0 24) (fieldW r.ver 32 32)) 16777216 else orW (fieldW r.idx 0 24) (fieldW r.ver 32 32)
def Stt.word (r : Stt) : Int := orW (orW (orW (fieldW r.kind 0 2) (fieldW r.size 2 16)) (fieldW r.other 18 12)) (fieldW r.ver 32 32)
def Pg.word (r : Pg) : Int := orW (orW (orW (fieldW r.kind 0 3) (fieldW r.len 3 10)) (fieldW r.cls 13 2)) (fieldW r.owner 16 7)
def Bt.word (r : Bt) : Int := bif r.has then orW (orW (fieldW r.map 0 8) (fieldW r.ver 32 32)) (fieldW (IntKind.i64.wrap (r.cls + 1)) 8 3) else orW (fieldW r.map 0 8) (fieldW r.ver 32 32)
/-! ### summaries -/
def one (c : C) : Option Sum := some (mkS Unit (.ret ()) fun _ => some (.c c, []))
def agg (l : List C) : Option Sum := some (mkS Unit (.ret ()) fun _ => some (.agg l, []))
def mOf (k : IntKind) : Sm := fun args H => match args, H with
  | [.c (.int .u64 w), .c (.int .i64 a), .c (.int .i64 m)], [] => bif decide (0 ≤ a) && decide (0 ≤ m) then one (.int k (ofW k w a m)) else none
  | _, _ => none
def mField (k : IntKind) : Sm := fun args H => match args, H with
  | [.c (.int k' n), .c (.int .i64 a), .c (.int .i64 m)], [] => bif decide (k' = k) && (decide (0 ≤ a) && decide (0 ≤ m)) then one (.int .u64 (fieldW n a m)) else none
  | _, _ => none
def mRefWord : Sm := fun args H => match args, H with
  | [.agg [.int .i64 i, .bool m, .int .u32 v]], [] => one (.int .u64 (Ref.word ⟨i, m, v⟩))
  | _, _ => none
def mRefOf : Sm := fun args H => match args, H with
  | [.c (.int .u64 w)], [] => agg (refOf w).cells
  | _, _ => none
def mSttWord : Sm := fun args H => match args, H with
  | [.agg [.int .i64 a, .int .i64 b, .int .i64 c, .int .u32 d]], [] => one (.int .u64 (Stt.word ⟨a, b, c, d⟩))
  | _, _ => none
def mSttOf : Sm := fun args H => match args, H with
  | [.c (.int .u64 w)], [] => agg (sttOf w).cells
  | _, _ => none
def mPgWord : Sm := fun args H => match args, H with
  | [.agg [.int .i64 a, .int .i64 b, .int .i64 c, .int .i64 d]], [] => one (.int .u64 (Pg.word ⟨a, b, c, d⟩))
  | _, _ => none
def mPgOf : Sm := fun args H => match args, H with
  | [.c (.int .u64 w)], [] => agg (pgOf w).cells
  | _, _ => none
def mBtWord : Sm := fun args H => match args, H with
  | [.agg [.int .u8 a, .bool b, .int .i64 c, .int .u32 d]], [] => one (.int .u64 (Bt.word ⟨a, b, c, d⟩))
  | _, _ => none
def mBtOf : Sm := fun args H => match args, H with
  | [.c (.int .u64 w)], [] => agg (btOf w).cells
  | _, _ => none
def kw0 : List (Nat × Sm) := [(180, mOf .i64), (181, mOf .u32), (182, mOf .u8), (231, mField .i64), (232, mField .u32), (268, mField .u8)]
def kw1 : List (Nat × Sm) := (201, mRefWord) :: (96, mRefOf) :: (165, mSttWord) :: (191, mSttOf) :: (168, mPgWord) :: (93, mPgOf) :: (239, mBtWord) :: (98, mBtOf) :: kw0
section
variable {σ : Type} {I : Port Tryz.prog σ}
theorem evOf_i64 (w a m : Int) : evF Tryz.prog (lookK []) 0 Tryz.f180 [.c (.int .u64 w), .c (.int .i64 a), .c (.int .i64 m)] [] = cond (!(decide (a < 0))) (cond (!(decide (m < 0))) (.ret (.c (.int .i64 (ofW .i64 w a m)), [])) .fail) .fail := by kernel_rfl
theorem evOf_u32 (w a m : Int) : evF Tryz.prog (lookK []) 0 Tryz.f181 [.c (.int .u64 w), .c (.int .i64 a), .c (.int .i64 m)] [] = cond (!(decide (a < 0))) (cond (!(decide (m < 0))) (.ret (.c (.int .u32 (ofW .u32 w a m)), [])) .fail) .fail := by kernel_rfl
theorem evOf_u8 (w a m : Int) : evF Tryz.prog (lookK []) 0 Tryz.f182 [.c (.int .u64 w), .c (.int .i64 a), .c (.int .i64 m)] [] = cond (!(decide (a < 0))) (cond (!(decide (m < 0))) (.ret (.c (.int .u8 (ofW .u8 w a m)), [])) .fail) .fail := by kernel_rfl
theorem evField_i64 (n a m : Int) : evF Tryz.prog (lookK []) 0 Tryz.f231 [.c (.int .i64 n), .c (.int .i64 a), .c (.int .i64 m)] [] = cond (!(decide (m < 0))) (cond (!(decide (a < 0))) (.ret (.c (.int .u64 (fieldW n a m)), [])) .fail) .fail := by kernel_rfl
theorem evField_u32 (n a m : Int) : evF Tryz.prog (lookK []) 0 Tryz.f232 [.c (.int .u32 n), .c (.int .i64 a), .c (.int .i64 m)] [] = cond (!(decide (m < 0))) (cond (!(decide (a < 0))) (.ret (.c (.int .u64 (fieldW n a m)), [])) .fail) .fail := by kernel_rfl
theorem evField_u8 (n a m : Int) : evF Tryz.prog (lookK []) 0 Tryz.f268 [.c (.int .u8 n), .c (.int .i64 a), .c (.int .i64 m)] [] = cond (!(decide (m < 0))) (cond (!(decide (a < 0))) (.ret (.c (.int .u64 (fieldW n a m)), [])) .fail) .fail := by kernel_rfl
theorem cond_some.{u} {α : Type u} {c : Bool} {x y : α} (h : (bif c then some x else none) = some y) : c = true ∧ x = y := by
  cases c
  · cases h
  · cases h; exact ⟨rfl, rfl⟩
theorem two_ok {a m : Int} (h : (decide (0 ≤ a) && decide (0 ≤ m)) = true) : (!(decide (a < 0))) = true ∧ (!(decide (m < 0))) = true := by
  simp at h ⊢
  exact h
theorem s_kw0 : SoundL I kw0 := by
  refine .cons (sound_eq .nil 0 Tryz.func180 (by kernel_rfl) (by kernel_rfl) fun args H t ht => ?_) (.cons (sound_eq .nil 0 Tryz.func181 (by kernel_rfl) (by kernel_rfl) fun args H t ht => ?_) (.cons (sound_eq .nil 0 Tryz.func182 (by kernel_rfl) (by kernel_rfl) fun args H t ht => ?_) (.cons (sound_eq .nil 0 Tryz.func231 (by kernel_rfl) (by kernel_rfl) fun args H t ht => ?_) (.cons (sound_eq .nil 0 Tryz.func232 (by kernel_rfl) (by kernel_rfl) fun args H t ht => ?_) (.cons (sound_eq .nil 0 Tryz.func268 (by kernel_rfl) (by kernel_rfl) fun args H t ht => ?_) .nil)))))
  · unfold mOf at ht
    split at ht
    · obtain ⟨h1, rfl⟩ := cond_some ht
      obtain ⟨h2, h3⟩ := two_ok h1
      rw [evOf_i64, h2, h3]; rfl
    · cases ht
  · unfold mOf at ht
    split at ht
    · obtain ⟨h1, rfl⟩ := cond_some ht
      obtain ⟨h2, h3⟩ := two_ok h1
      rw [evOf_u32, h2, h3]; rfl
    · cases ht
  · unfold mOf at ht
    split at ht
    · obtain ⟨h1, rfl⟩ := cond_some ht
      obtain ⟨h2, h3⟩ := two_ok h1
      rw [evOf_u8, h2, h3]; rfl
    · cases ht
  · unfold mField at ht
    split at ht
    · obtain ⟨h0, rfl⟩ := cond_some ht
      simp only [Bool.and_eq_true, decide_eq_true_eq] at h0
      obtain ⟨rfl, h1⟩ := h0
      obtain ⟨h2, h3⟩ := two_ok (by simpa using h1)
      rw [evField_i64, h2, h3]; rfl
    · cases ht
  · unfold mField at ht
    split at ht
    · obtain ⟨h0, rfl⟩ := cond_some ht
      simp only [Bool.and_eq_true, decide_eq_true_eq] at h0
      obtain ⟨rfl, h1⟩ := h0
      obtain ⟨h2, h3⟩ := two_ok (by simpa using h1)
      rw [evField_u32, h2, h3]; rfl
    · cases ht
  · unfold mField at ht
    split at ht
    · obtain ⟨h0, rfl⟩ := cond_some ht
      simp only [Bool.and_eq_true, decide_eq_true_eq] at h0
      obtain ⟨rfl, h1⟩ := h0
      obtain ⟨h2, h3⟩ := two_ok (by simpa using h1)
      rw [evField_u8, h2, h3]; rfl
    · cases ht
theorem s_kw1 : SoundL I kw1 := by
  refine .cons (sound_eq s_kw0 0 Tryz.func201 (by kernel_rfl) (by kernel_rfl) fun args H t ht => ?_) (.cons (sound_eq s_kw0 0 Tryz.func96 (by kernel_rfl) (by kernel_rfl) fun args H t ht => ?_) (.cons (sound_eq s_kw0 0 Tryz.func165 (by kernel_rfl) (by kernel_rfl) fun args H t ht => ?_) (.cons (sound_eq s_kw0 0 Tryz.func191 (by kernel_rfl) (by kernel_rfl) fun args H t ht => ?_) (.cons (sound_eq s_kw0 0 Tryz.func168 (by kernel_rfl) (by kernel_rfl) fun args H t ht => ?_) (.cons (sound_eq s_kw0 0 Tryz.func93 (by kernel_rfl) (by kernel_rfl) fun args H t ht => ?_) (.cons (sound_eq s_kw0 0 Tryz.func239 (by kernel_rfl) (by kernel_rfl) fun args H t ht => ?_) (.cons (sound_eq s_kw0 0 Tryz.func98 (by kernel_rfl) (by kernel_rfl) fun args H t ht => ?_) s_kw0)))))))
  · unfold mRefWord at ht
    split at ht
    · rename_i i m v
      cases ht
      cases m <;> kernel_rfl
    · cases ht
  · unfold mRefOf at ht
    split at ht
    · cases ht
      kernel_rfl
    · cases ht
  · unfold mSttWord at ht
    split at ht
    · cases ht
      kernel_rfl
    · cases ht
  · unfold mSttOf at ht
    split at ht
    · cases ht
      kernel_rfl
    · cases ht
  · unfold mPgWord at ht
    split at ht
    · cases ht
      kernel_rfl
    · cases ht
  · unfold mPgOf at ht
    split at ht
    · cases ht
      kernel_rfl
    · cases ht
  · unfold mBtWord at ht
    split at ht
    · rename_i a b c d
      cases ht
      cases b <;> kernel_rfl
    · cases ht
  · unfold mBtOf at ht
    split at ht
    · rename_i w
      cases ht
      unfold btOf
      have e : evF Tryz.prog (lookK kw0) 0 Tryz.f98 [.c (.int .u64 w)] [] = cond (decide (ofW .i64 w 8 3 > 0)) (.ret (.agg [.int .u8 (ofW .u8 w 0 8), .bool true, .int .i64 (IntKind.i64.wrap (ofW .i64 w 8 3 - 1)), .int .u32 (ofW .u32 w 32 32)], [])) (.ret (.agg [.int .u8 (ofW .u8 w 0 8), .bool false, .int .i64 0, .int .u32 (ofW .u32 w 32 32)], [])) := by kernel_rfl
      rw [e]
      cases decide (ofW .i64 w 8 3 > 0) <;> rfl
    · cases ht
end
end Go.Proofs.YtaegelbaghaooaaGreat.Lx
