/- Part. -/
import Derived.Test.YtaegelbaghaooaaGreatCfPGone2
import Derived.Test.YtaegelbaghaooaaGreatCfPRenew
set_option linter.all false
open Go.IntKind (i64 u64 u32 u8)
namespace Go.Proofs.YtaegelbaghaooaaGreat
open Go Go.RowKit Lx
/-! ### counts -/
def addW (f : Nat -> Int) (i : Nat) (d : Int) : Nat -> Int := fun q => if q = i then u64.wrap (f q + u64.wrap d) else f q
def cntAl (f : Nat -> Int) (z : Int) : Nat -> Int := addW (addW (addW f 0 1) 3 1) 4 z
def xsa (f : Nat -> Int) (z : Int) : Nat -> Int := addW (addW (addW f 1 1) 3 (-1)) 4 (i64.wrap (0 - z))
def xsb (f : Nat -> Int) : Nat -> Int := addW f 2 1
def cntRe (f : Nat -> Int) (was now : Int) : Nat -> Int := addW f 4 (i64.wrap (now - was))
def csz (c : Cal) : Int := if c.op = 2 then i64.wrap (c.size * c.n) else c.size
def xcp (c : Cal) (r : Res) (f : Nat -> Int) : Nat -> Int := if r.e = 0 then cntAl f (csz c) else if r.e = 15 \/ r.e = 5 then xsb f else f
def cntD (c : Cal) (r : Res) (was : Int) (f : Nat -> Int) : Nat -> Int :=
 if c.op = 1 \/ c.op = 2 \/ c.op = 3 then xcp c r f
 else if c.op = 4 then (if r.e = 0 then cntRe f was c.size else if r.e = 15 \/ r.e = 5 then xsb f else f)
 else if c.op = 5 then (if r.e = 0 then xsa f r.n else f)
 else f
/-! ### what lives is held, and the other way round -/
structure LH (held : Nat -> Option HK) (live : Nat -> Option Nat) : Prop where
 lh : ∀ g z, live g = some z -> ∃ x, held g = some x /\ z <= 8 * x.ext
 hl : ∀ g x, held g = some x -> ∃ z, live g = some z
theorem LH.add {held : Nat -> Option HK} {live : Nat -> Option Nat} (h : LH held live) (g : Nat) {z : Nat} {x : HK} (hz : z <= 8 * x.ext) : LH (upd held g (some x)) (updS live g (some z)) := by
 refine ⟨fun q w hq => ?_, fun q y hq => ?_⟩
 ·by_cases hqg : q = g
  ·subst hqg
   rw [vt] at hq; cases hq
   exact ⟨x, xy _ _ _, hz⟩
  ·rw [wm _ _ hqg] at hq
   obtain ⟨y, h1, h2⟩ := h.lh q w hq
   exact ⟨y, by rw [upd_ne _ _ hqg, h1], h2⟩
 ·by_cases hqg : q = g
  ·subst hqg; exact ⟨z, vt _ _ _⟩
  ·rw [upd_ne _ _ hqg] at hq
   obtain ⟨w, hw⟩ := h.hl q y hq
   exact ⟨w, by rw [wm _ _ hqg, hw]⟩
theorem LH.del {held : Nat -> Option HK} {live : Nat -> Option Nat} (h : LH held live) (g : Nat) : LH (upd held g none) (updS live g none) := by
 refine ⟨fun q w hq => ?_, fun q y hq => ?_⟩
 ·by_cases hqg : q = g
  ·subst hqg; rw [vt] at hq; cases hq
  ·rw [wm _ _ hqg] at hq
   obtain ⟨y, h1, h2⟩ := h.lh q w hq
   exact ⟨y, by rw [upd_ne _ _ hqg, h1], h2⟩
 ·by_cases hqg : q = g
  ·subst hqg; rw [xy] at hq; cases hq
  ·rw [upd_ne _ _ hqg] at hq
   obtain ⟨w, hw⟩ := h.hl q y hq
   exact ⟨w, by rw [wm _ _ hqg, hw]⟩
theorem LH.stay {held : Nat -> Option HK} {live : Nat -> Option Nat} (h : LH held live) {g s : Nat} {x : HK} (hg : held g = some x) (hs : s <= 8 * x.ext) : LH held (updS live g (some s)) := by
 refine ⟨fun q w hq => ?_, fun q y hq => ?_⟩
 ·by_cases hqg : q = g
  ·subst hqg
   rw [vt] at hq; cases hq
   exact ⟨x, hg, hs⟩
  ·rw [wm _ _ hqg] at hq; exact h.lh q w hq
 ·by_cases hqg : q = g
  ·subst hqg; exact ⟨s, vt _ _ _⟩
  ·obtain ⟨w, hw⟩ := h.hl q y hq
   exact ⟨w, by rw [wm _ _ hqg, hw]⟩
theorem LH.nil : LH (fun _ => none) (fun _ => none) := ⟨fun _ _ h => (by cases h), fun _ _ h => (by cases h)⟩
theorem HG.ext1 {n : Nat} {held : Nat -> Option HK} (h : HG n held) {g : Nat} {x : HK} (hg : held g = some x) : g + x.ext <= 8 * n := by
 cases x with
 | blk c => obtain ⟨_, p, j, q1, q2, q3⟩ := h.blk g c hg; have := xU q2; simp only [HK.ext]; omega
 | run m => obtain ⟨_, p, q1, q2⟩ := h.run g m hg; simp only [HK.ext]; omega
structure Hp (n t : Nat) (A : AS) (held : Nat -> Option HK) (live : Nat -> Option Nat) : Prop where
 hi : HInv n t A held
 si : SI n t A live
 lh : LH held live
 bys : Bys A.b
 len : A.b.length = 64 * n
/-! ### what is answered -/
def AskRes (n : Nat) (held : Nat -> Option HK) (live : Nat -> Option Nat) (s a : Int) (r : Res) (held' : Nat -> Option HK) (live' : Nat -> Option Nat) : Prop :=
 (held' = held /\ live' = live /\ r = Res.none r.e r.lin /\ ((r.e = 11 /\ (s < 1 \/ 64 * n < s)) \/ (1 <= s /\ s <= 64 * n /\ ((r.e = 12 /\ powA a = false) \/ (r.e = 15 /\ powA a = true /\ NoRoom n held s a))))) \/
 ∃ (g : Nat) (x : HK), r = ⟨((8 * g : Nat) : Int), ((8 * x.ext : Nat) : Int), 0, 0, 0, 0, 0, 0, 0, r.lin, 0⟩ /\ held g = none /\ held' = upd held g (some x) /\ live' = updS live g (some s.toNat) /\ 1 <= s /\ s <= 64 * n /\ powA a = true /\ GotRoom n s a g x
theorem AskRes.lh {n : Nat} {held held' : Nat -> Option HK} {live live' : Nat -> Option Nat} {s a : Int} {r : Res} (h : AskRes n held live s a r held' live') (hl : LH held live) : LH held' live' := by
 rcases h with ⟨rfl, rfl, _⟩ | ⟨g, x, _, _, rfl, rfl, h1, _, _, h2⟩
 ·exact hl
 ·have := xbe h1 h2
  exact hl.add g (by omega)
inductive Did (n : Nat) (held : Nat -> Option HK) (live : Nat -> Option Nat) (b : List Int) (f : Nat -> Int) (c : Cal) : Res -> (Nat -> Option HK) -> (Nat -> Option Nat) -> List Int -> Int -> Prop
 | ask (r : Res) (held' : Nat -> Option HK) (live' : Nat -> Option Nat) (b' : List Int) : (c.op = 1 \/ c.op = 2 \/ c.op = 3) -> AskRes n held live (if c.op = 2 then yB n c.n c.size else c.size) (if c.op = 3 then c.align else 1) r held' live' ->
   (b' = b /\ (c.op = 2 -> r.e ≠ 0) \/ c.op = 2 /\ ∃ g : Nat, r.at_ = ((8 * g : Nat) : Int) /\ b' = zeroed b (8 * g) (yB n c.n c.size).toNat) -> Did n held live b f c r held' live' b' 0
 | renew (r : Res) (was : Int) (held' : Nat -> Option HK) (live' : Nat -> Option Nat) (b' : List Int) : c.op = 4 -> Renewed n held live b c.at_ c.size (r, was) held' live' b' -> Did n held live b f c r held' live' b' was
 | bad (l : Int) : (c.op = 5 \/ c.op = 6 \/ c.op = 7 \/ c.op = 8) -> (∀ g z : Nat, live g = some z -> c.at_ ≠ ((8 * g : Nat) : Int)) -> Did n held live b f c (Res.none 13 l) held live b 0
 | free (l : Int) (g z : Nat) : c.op = 5 -> c.at_ = ((8 * g : Nat) : Int) -> live g = some z -> Did n held live b f c ⟨0, (z : Int), 0, 0, 0, 0, 0, 0, 0, l, 0⟩ (upd held g none) (updS live g none) b 0
 | use (l : Int) (g z : Nat) (x : HK) : c.op = 6 -> c.at_ = ((8 * g : Nat) : Int) -> live g = some z -> held g = some x -> Did n held live b f c ⟨0, ((8 * x.ext : Nat) : Int), 0, 0, 0, 0, 0, 0, 0, l, 0⟩ held live b 0
 | out (l : Int) (g z : Nat) : (c.op = 7 \/ c.op = 8) -> c.at_ = ((8 * g : Nat) : Int) -> live g = some z -> (c.off < 0 \/ (z : Int) <= c.off) -> Did n held live b f c (Res.none 14 l) held live b 0
 | write (l m : Int) (g z k : Nat) : c.op = 7 -> c.at_ = ((8 * g : Nat) : Int) -> live g = some z -> c.off = (k : Int) -> k < z -> Did n held live b f c ⟨0, 0, 0, 0, 0, 0, 0, 0, 0, l, m⟩ held live (b.set (8 * g + k) c.byte) 0
 | read (l m : Int) (g z k : Nat) (y : Int) : c.op = 8 -> c.at_ = ((8 * g : Nat) : Int) -> live g = some z -> c.off = (k : Int) -> k < z -> b[8 * g + k]? = some y -> Did n held live b f c ⟨0, 0, y, 0, 0, 0, 0, 0, 0, l, m⟩ held live b 0
 | tidy (l : Int) : (c.op = 9 \/ c.op = 10) -> Did n held live b f c (Res.none 0 l) held live b 0
 | stats (l : Int) : c.op = 11 -> Did n held live b f c ⟨0, 0, 0, f 0, f 1, f 2, f 3, f 4, 0, l, 0⟩ held live b 0
 | other (l : Int) : (c.op < 1 \/ 11 < c.op) -> Did n held live b f c (Res.none 1 l) held live b 0
structure Called (n t : Nat) (A : AS) (held : Nat -> Option HK) (live : Nat -> Option Nat) (c : Cal) (r : Res) (A' : AS) (held' : Nat -> Option HK) (live' : Nat -> Option Nat) (was : Int) : Prop where
 hp : Hp n t A' held' live'
 self : A'.self = A.self
 told : A'.told = some r.cells
 lin : ∃ l T : Nat, A.steps < l /\ l <= A'.steps /\ r.lin = i64.wrap l /\ r.touch = i64.wrap T /\ ((T = 0 /\ ¬ (r.e = 0 /\ (c.op = 7 \/ c.op = 8))) \/ (l < T /\ T <= A'.steps /\ r.e = 0 /\ (c.op = 7 \/ c.op = 8)))
 steps : A'.steps <= A.steps + 100000000000
 cnt : ∀ i, A'.w 2 i = cntD c r was (A.w 2) i
 did : Did n held live A.b (A.w 2) c r held' live' A'.b was
section
variable {n t : Nat} (hf : Small n t) {A : AS} {held : Nat -> Option HK} {live : Nat -> Option Nat}
include hf
theorem at2 {i : Nat} (hi : i < 5) : atF (xb n t) 2 (i : Int) = ((Br n t 2 + i : Nat) : Int) := vH hf.toFew (by omega) (by simpa [Zr] using hi)
omit hf in
theorem xsc (B : AS) (a : Nat) (x : Int) : ((B.set 2 a (u64.wrap (B.w 2 a + u64.wrap x))).tick).w 2 = addW (B.w 2) a x := by
 funext q
 simp only [AS.tick_w, AS.set_w, true_and, addW]
 by_cases h : q = a
 ·subst h; rfl
 ·rw [if_neg h, if_neg h]
theorem xh7 {a b c : Nat} {x y z : Int} (ha : a < 5) (hb : b < 5) (hc : c < 5) : Rn n t (Vi (xb n t) (a : Int) x (b : Int) y (c : Int) z) A fun _ A' => (∀ i, A'.w 2 i = addW (addW (addW (A.w 2) a x) b y) c z i) /\ Fr [2] 3 A A' := by
 unfold Vi xdA
 refine Rn.add (at2 hf ha) (by omega) (by simpa [Zr] using ha) (Rn.add (at2 hf hb) (by omega) (by simpa [Zr] using hb) (Rn.add (at2 hf hc) (by omega) (by simpa [Zr] using hc) (Rn.ret ⟨fun i => ?_, ?_⟩)))
 ·rw [xsc, xsc, xsc]
 ·exact ((Fr.sett (R := [2]) A _ (by simp)).trans (Fr.sett (R := [2]) _ _ (by simp)) (S := [2]) (e := 2)).trans (Fr.sett (R := [2]) _ _ (by simp))
theorem xh8 {a : Nat} {x : Int} (ha : a < 5) : Rn n t (Vh (xb n t) (a : Int) x) A fun _ A' => (∀ i, A'.w 2 i = addW (A.w 2) a x i) /\ Fr [2] 3 A A' := by
 unfold Vh xdz
 refine Rn.add (at2 hf ha) (by omega) (by simpa [Zr] using ha) (Rn.ret ⟨fun i => ?_, (Fr.sett (R := [2]) A _ (by simp)).mono⟩)
 rw [xsc]
theorem xp4 {z : Int} : Rn n t (YV (xb n t) z) A fun _ A' => (∀ i, A'.w 2 i = cntAl (A.w 2) z i) /\ Fr [2] 3 A A' := by
 unfold YV xav
 exact Rn.bind (xh7 hf (a := 0) (b := 3) (c := 4) (by omega) (by omega) (by omega)) fun _ A1 h => Rn.ret h
theorem xp5 {z : Int} : Rn n t (YW (xb n t) z) A fun _ A' => (∀ i, A'.w 2 i = xsa (A.w 2) z i) /\ Fr [2] 3 A A' := by
 unfold YW xaw
 exact Rn.bind (xh7 hf (a := 1) (b := 3) (c := 4) (by omega) (by omega) (by omega)) fun _ A1 h => Rn.ret h
theorem xcq : Rn n t (kT (xb n t)) A fun _ A' => (∀ i, A'.w 2 i = xsb (A.w 2) i) /\ Fr [2] 3 A A' := by
 unfold kT YX
 exact Rn.bind (xh8 hf (a := 2) (by omega)) fun _ A1 h => Rn.ret h
theorem xjx {w z : Int} : Rn n t (kz (xb n t) w z) A fun _ A' => (∀ i, A'.w 2 i = cntRe (A.w 2) w z i) /\ Fr [2] 3 A A' := by
 unfold kz Zu
 exact Rn.bind (xh8 hf (a := 4) (by omega)) fun _ A1 h => Rn.ret h
theorem WQ {r : Res} : (wo r).run (xl n t) A = some (decide (r.e = 15 \/ r.e = 5), A) := by
 unfold wo Xq
 by_cases h : r.e = 15
 ·rw [show (r.e == 15) = true by simp [h]]; simp [h, T.run]
 ·rw [show (r.e == 15) = false by simp [h]]; simp only [cond_false, T.run, h, false_or]
  congr 2
theorem xt4 {c : Cal} {r : Res} : Rn n t (qC (xb n t) c r) A fun r' A' => r' = r /\ Fr [2] 3 A A' /\ ∀ i, A'.w 2 i = xcp c r (A.w 2) i := by
 unfold qC xcW
 refine Rn.cond (fun h => ?_) (fun h => ?_)
 ·have h0 : r.e = 0 := by simpa using h
  have hsz : (kR c).run (xl n t) A = some (csz c, A) := by
   unfold kR xad csz
   by_cases h2 : c.op = 2
   ·rw [show (c.op == 2) = true by simp [h2]]; simp [h2, T.run]
   ·rw [show (c.op == 2) = false by simp [h2]]; simp [h2, T.run]
  refine Rn.run hsz (Rn.bind (xp4 hf) ?_)
  rintro _ A1 ⟨h1, h2⟩
  exact Rn.ret ⟨rfl, h2, fun i => by rw [h1, xcp, if_pos h0]⟩
 ·have h0 : r.e ≠ 0 := by simpa using h
  refine Rn.run (WQ hf) (Rn.cond (fun h5 => ?_) (fun h5 => ?_))
  ·refine Rn.bind (xcq hf) ?_
   rintro _ A1 ⟨h1, h2⟩
   exact Rn.ret ⟨rfl, h2, fun i => by rw [h1, xcp, if_neg h0, if_pos (by simpa using h5)]⟩
  ·exact Rn.ret ⟨rfl, (Fr.refl [2] A).mono, fun i => by rw [xcp, if_neg h0, if_neg (by simpa using h5)]⟩
theorem xv9 {r : Res} : (Wj r).run (xl n t) A = some ({ r with lin := i64.wrap A.steps }, A.tell { r with lin := i64.wrap A.steps }) := by
 unfold Wj xkA
 simp only [T.run, xl]
 rfl
theorem xZ {r : Res} : (yi r).run (xl n t) A = some (r, A.tell r) := by
 unfold yi xae
 simp only [T.run, xl]
 rfl
theorem xbf {me : Nat} {a : Int} (hme : me < t) (hself : A.self = (me : Int)) (hp : Hp n t A held live) : Rn n t (ZJ (xb n t) a) A fun x A' =>
  (∃ l : Nat, A.steps <= l /\ l <= A'.steps /\ x.2.2.1 = Res.none 13 (i64.wrap l) /\ x.2.2.2 = false /\ (∀ g z : Nat, live g = some z -> a ≠ ((8 * g : Nat) : Int)) /\ ∃ A1, Fr [] 1 A A1 /\ A' = A1.tell (Res.none 13 (i64.wrap l))) \/
  ∃ g z v : Nat, a = ((8 * g : Nat) : Int) /\ live g = some z /\ A.w 11 g = Stt.word ⟨1, (z : Int), 0, (v : Int)⟩ /\ x = ((g : Int), ⟨1, (z : Int), 0, (v : Int), true, i64.wrap (A.steps + 1)⟩, x.2.2.1, true) /\ A' = A.tick := by
 have hn := hf.n2
 have hn1 := hf.n1
 have hlt : ∀ g z, live g = some z -> g < n * 8 := fun g z hl => by
  obtain ⟨x, hx, _⟩ := hp.lh.lh g z hl
  exact HInv.small hf hp.hi hx
 have e64 : i64.wrap ((xb n t).pages * 64) = ((64 * n : Nat) : Int) := by
  show i64.wrap (((n : Nat) : Int) * 64) = _
  rw [show ((n : Nat) : Int) * 64 = ((64 * n : Nat) : Int) by omega, wN _ (by omega)]
 unfold ZJ xc4
 by_cases h1 : a < 0
 ·refine Rn.yes (decide_eq_true h1) (Rn.steps (Rn.run (xZ hf) (Rn.ret (.inl ?_))))
  exact ⟨A.steps, Nat.le_refl _, Nat.le_refl _, rfl, rfl, fun g z hl hh => by omega, A, (Fr.refl [] A).mono, rfl⟩
 refine Rn.no (decide_eq_false h1) ?_
 rw [e64]
 by_cases h2 : a >= ((64 * n : Nat) : Int)
 ·refine Rn.yes (decide_eq_true h2) (Rn.steps (Rn.run (xZ hf) (Rn.ret (.inl ?_))))
  exact ⟨A.steps, Nat.le_refl _, Nat.le_refl _, rfl, rfl, fun g z hl hh => by have := hlt g z hl; omega, A, (Fr.refl [] A).mono, rfl⟩
 refine Rn.no (decide_eq_false h2) ?_
 have em : Int.tmod a 8 = a % 8 := Int.tmod_eq_emod_of_nonneg (by omega)
 rw [em]
 by_cases h3 : a % 8 = 0
 ·refine Rn.no (by rw [h3]; rfl) ?_
  obtain ⟨g, rfl⟩ : ∃ g : Nat, a = ((8 * g : Nat) : Int) := ⟨(a / 8).toNat, by omega⟩
  have hgn : g < n * 8 := by omega
  have ed : i64.wrap (Int.tdiv ((8 * g : Nat) : Int) 8) = (g : Int) := by
   rw [Int.tdiv_eq_ediv_of_nonneg (by omega)]
   have : ((8 * g : Nat) : Int) / 8 = (g : Int) := by omega
   rw [this, wN _ (by omega)]
  rw [ed]
  rcases xe1 hf (A := A) hme hself hgn hp.si with ⟨k1, k2⟩ | ⟨z, v, k1, kv, kw, k2⟩
  ·refine Rn.run k2 (Rn.yes rfl (Rn.run (xZ hf) (Rn.ret (.inl ?_))))
   exact ⟨A.steps + 1, by omega, Nat.le_refl _, rfl, rfl, fun q z hl hh => (by
    obtain rfl : q = g := by omega
    rw [k1] at hl; cases hl), A.tick, Fr.tick [] A, rfl⟩
  ·exact Rn.run k2 (Rn.no rfl (Rn.ret (.inr ⟨g, z, v, rfl, k1, kw, rfl, rfl⟩)))
 ·refine Rn.yes (by simpa using h3) (Rn.steps (Rn.run (xZ hf) (Rn.ret (.inl ?_))))
  exact ⟨A.steps, Nat.le_refl _, Nat.le_refl _, rfl, rfl, fun g z hl hh => by omega, A, (Fr.refl [] A).mono, rfl⟩
end
end Go.Proofs.YtaegelbaghaooaaGreat
