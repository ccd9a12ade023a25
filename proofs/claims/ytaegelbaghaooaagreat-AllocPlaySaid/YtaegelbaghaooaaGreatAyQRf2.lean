/- Summaries: the document (13, 15), room and fits. (trees printed by program, wip/auto.py) -/
import Derived.Test.YtaegelbaghaooaaGreatAyQRf1
import Derived.WalkKit
set_option linter.unusedSimpArgs false
set_option linter.unusedVariables false
set_option linter.unusedSectionVars false
namespace Go.Proofs.YtaegelbaghaooaaGreat.Lx
open Go
set_option maxRecDepth 1000000

def Ym {β : Type} (n0 : Nat) (a1 a2 a3 : Int) (b4 : Bool) (q6 : RowsL) (κ0 : Unit → T β) (κ1 : Unit → T β) (i : Int) (k : Int → T β) : T β :=
 bif decide (i < IntKind.i64.wrap (a2 + a3)) then (bif decide (i ≥ a1) then (κ0 ()) else
 (onT n0 q6 i).bind fun r2 =>
 bif decide (↑r2.1 > (0 : Int)) then (κ0 ()) else
 k (IntKind.i64.wrap (i + 1))) else
 κ1 ()
def ks {β : Type} (n0 : Nat) (a1 a2 a3 : Int) (b4 : Bool) (q6 : RowsL) (a5 : Int) (κ0 : Unit → T β) (κ1 : Unit → T β) : T β := xA xd (Ym n0 a1 a2 a3 b4 q6 κ0 κ1) (a5)
theorem xeJ {β γ : Type} (n0 : Nat) (a1 a2 a3 : Int) (b4 : Bool) (q6 : RowsL) (a5 : Int) (κ0 : Unit → T β) (κ1 : Unit → T β) (κ : β → T γ) : (ks n0 a1 a2 a3 b4 q6 a5 κ0 κ1).bind κ = ks n0 a1 a2 a3 b4 q6 a5 (fun u => (κ0 u).bind κ) (fun u => (κ1 u).bind κ) := by
 unfold ks
 refine xp κ (fun i k => ?_) _ _
 unfold Ym
 first | rfl | (simp only [xa, xb, xe, xc, T.bind_assoc])
def xeK : Pat := ⟨xr 28 0 [(0, .c (.slr 0)), (1, .c (.int .i64)), (2, .c (.int .i64)), (3, .c (.int .i64)), (8, .c (.bool)), (9, .c (.int .i64))], [some ⟨[], 254, true, some (.rows [.int .i64, .int .i64, .int .i64])⟩]⟩
def jl : Pat := ⟨xr 28 0 [(8, .c (.bool))], [some ⟨[], 254, true, some (.rows [.int .i64, .int .i64, .int .i64])⟩]⟩
def Yn : St → (Ex → St → T R) → Option (T R) := fun st K => match xy xeK st with
 | some [.n n0, .i a1, .i a2, .i a3, .b b4, .i a5, .r q6] => some (ks n0 a1 a2 a3 b4 q6 a5 (fun _ => K (.ret) (xf jl [.b false, .r q6])) (fun _ => K (.exit 0) (xf jl [.b b4, .r q6])))
 | _ => none
theorem xoM : ∀ st K t, Yn st K = some t → xK xd (lf kr1 xd 1 .no [1, 0, 1, 0] Tryz.f189 K) st = t := by
 intro st K t h
 unfold Yn at h
 split at h
 ·rename_i n0 a1 a2 a3 b4 a5 q6 hm
  cases h
  rw [xn hm]
  exact cast (by kernel_rfl) (xB (F := lf kr1 xd 1 .no [1, 0, 1, 0] Tryz.f189 K) (S := fun i => xf xeK [.n n0, .i a1, .i a2, .i a3, .b b4, .i i, .r q6]) (B := Ym n0 a1 a2 a3 b4 q6 (fun _ => K (.ret) (xf jl [.b false, .r q6])) (fun _ => K (.exit 0) (xf jl [.b b4, .r q6]))) (fun i k => by kernel_rfl) xd (a5))
 ·cases h
def xcp {β : Type} (n : Nat) (L : RowsL) (m pg k : Int) (κ : Bool → T β) : T β :=
 ks (n) (m) (pg) (k) (false) (L) (pg) (fun y0_0 =>
 κ (false)) (fun y0_0 =>
 κ (true))
def xaY (n : Nat) (L : RowsL) (m pg k : Int) : T Bool := xcp n L m pg k .ret
theorem xl7 {β : Type} (n : Nat) (L : RowsL) (m pg k : Int) (κ : Bool → T β) : (xaY n L m pg k).bind κ = xcp n L m pg k κ := by
 unfold xaY xcp
 first | rfl | (simp only [xa, xb, xe, xc, T.bind_assoc, xeJ])
def xcq {β : Type} (s a : Int) (κ : Int → T β) : T β :=
 bif decide (s ≤ 8) then (bif decide (a ≤ 8) then (κ (0)) else
 bif decide (s ≤ 16) then (bif decide (a ≤ 16) then (κ (1)) else
 bif decide (s ≤ 24) then (bif decide (a ≤ 8) then (κ (2)) else
 bif decide (s ≤ 32) then (bif decide (a ≤ 32) then (κ (3)) else
 κ ((-1))) else
 κ ((-1))) else
 bif decide (s ≤ 32) then (bif decide (a ≤ 32) then (κ (3)) else
 κ ((-1))) else
 κ ((-1))) else
 bif decide (s ≤ 24) then (bif decide (a ≤ 8) then (κ (2)) else
 bif decide (s ≤ 32) then (bif decide (a ≤ 32) then (κ (3)) else
 κ ((-1))) else
 κ ((-1))) else
 bif decide (s ≤ 32) then (bif decide (a ≤ 32) then (κ (3)) else
 κ ((-1))) else
 κ ((-1))) else
 bif decide (s ≤ 16) then (bif decide (a ≤ 16) then (κ (1)) else
 bif decide (s ≤ 24) then (bif decide (a ≤ 8) then (κ (2)) else
 bif decide (s ≤ 32) then (bif decide (a ≤ 32) then (κ (3)) else
 κ ((-1))) else
 κ ((-1))) else
 bif decide (s ≤ 32) then (bif decide (a ≤ 32) then (κ (3)) else
 κ ((-1))) else
 κ ((-1))) else
 bif decide (s ≤ 24) then (bif decide (a ≤ 8) then (κ (2)) else
 bif decide (s ≤ 32) then (bif decide (a ≤ 32) then (κ (3)) else
 κ ((-1))) else
 κ ((-1))) else
 bif decide (s ≤ 32) then (bif decide (a ≤ 32) then (κ (3)) else
 κ ((-1))) else
 κ ((-1))
def xaZ (s a : Int) : T Int := xcq s a .ret
theorem xl8 {β : Type} (s a : Int) (κ : Int → T β) : (xaZ s a).bind κ = xcq s a κ := by
 unfold xaZ xcq
 first | rfl | (simp only [xa, xb, xe, xc, T.bind_assoc])
def xcr {β : Type} (m s a : Int) (κ : Int → T β) : T β :=
 bif decide (s < 1) then (κ (11)) else
 bif decide (s > IntKind.i64.wrap (64 * m)) then (κ (11)) else
 (WJ a).bind fun r2 =>
 bif !r2 then (κ (12)) else
 κ (0)
def xa0 (m s a : Int) : T Int := xcr m s a .ret
theorem xl9 {β : Type} (m s a : Int) (κ : Int → T β) : (xa0 m s a).bind κ = xcr m s a κ := by
 unfold xa0 xcr
 first | rfl | (simp only [xa, xb, xe, xc, T.bind_assoc])
def Yo {β : Type} (n0 : Nat) (b1 : Bool) (q3 : RowsL) (a4 a5 a6 : Int) (κ0 : Unit → T β) (κ1 : Unit → T β) (i : Int) (k : Int → T β) : T β :=
 bif decide (i < ↑n0) then (bif decide ((0 : Int) ≤ i ∧ i < ↑n0) then (bif inR (List.length q3) i then (bif decide (getI (getR q3 (Int.toNat i)) 0 < IntKind.i64.wrap (a4 + a5)) then (bif decide ((0 : Int) ≤ i ∧ i < ↑n0) then (bif inR (List.length q3) i then (bif decide ((0 : Int) ≤ i ∧ i < ↑n0) then (bif inR (List.length q3) i then (bif decide   (a4 < IntKind.i64.wrap (getI (getR q3 (Int.toNat i)) 0 + getI (getR q3 (Int.toNat i)) 1)) then (κ0 ()) else
 k (IntKind.i64.wrap (i + 1))) else
 .fail) else
 .fail) else
 .fail) else
 .fail) else
 k (IntKind.i64.wrap (i + 1))) else
 .fail) else
 .fail) else
 κ1 ()
def kt {β : Type} (n0 : Nat) (b1 : Bool) (q3 : RowsL) (a4 a5 a6 a2 : Int) (κ0 : Unit → T β) (κ1 : Unit → T β) : T β := xA xd (Yo n0 b1 q3 a4 a5 a6 κ0 κ1) (a2)
theorem xeL {β γ : Type} (n0 : Nat) (b1 : Bool) (q3 : RowsL) (a4 a5 a6 a2 : Int) (κ0 : Unit → T β) (κ1 : Unit → T β) (κ : β → T γ) : (kt n0 b1 q3 a4 a5 a6 a2 κ0 κ1).bind κ = kt n0 b1 q3 a4 a5 a6 a2 (fun u => (κ0 u).bind κ) (fun u => (κ1 u).bind κ) := by
 unfold kt
 refine xp κ (fun i k => ?_) _ _
 unfold Yo
 first | rfl | (simp only [xa, xb, xe, xc, T.bind_assoc])
def xeM : Pat := ⟨xr 75 0 [(0, .c (.slr 0)), (6, .c (.raw (.ptr 1 0))), (8, .c (.bool)), (9, .c (.int .i64))], [some ⟨[], 55, true, some (.rows [.int .i64, .int .i64, .int .i64])⟩, some ⟨[.int .i64, .int .i64, .int .i64], 55, false, none⟩]⟩
def jm : Pat := ⟨xr 75 0 [(8, .c (.bool))], [some ⟨[], 55, true, some (.rows [.int .i64, .int .i64, .int .i64])⟩]⟩
def Yp : St → (Ex → St → T R) → Option (T R) := fun st K => match xy xeM st with
 | some [.n n0, .b b1, .i a2, .r q3, .i a4, .i a5, .i a6] => some (kt n0 b1 q3 a4 a5 a6 a2 (fun _ => K (.ret) (xf jm [.b false, .r q3])) (fun _ => K (.exit 0) (xf jm [.b b1, .r q3])))
 | _ => none
theorem xoN : ∀ st K t, Yp st K = some t → xK xd (lf kr1 xd 1 .no [1, 1, 0, 1, 0] Tryz.f41 K) st = t := by
 intro st K t h
 unfold Yp at h
 split at h
 ·rename_i n0 b1 a2 q3 a4 a5 a6 hm
  cases h
  rw [xn hm]
  exact cast (by kernel_rfl) (xB (F := lf kr1 xd 1 .no [1, 1, 0, 1, 0] Tryz.f41 K) (S := fun i => xf xeM [.n n0, .b b1, .i i, .r q3, .i a4, .i a5, .i a6]) (B := Yo n0 b1 q3 a4 a5 a6 (fun _ => K (.ret) (xf jm [.b false, .r q3])) (fun _ => K (.exit 0) (xf jm [.b b1, .r q3]))) (fun i k => by kernel_rfl) xd (a2))
 ·cases h
def xcs {β : Type} (n : Nat) (L : RowsL) (ar p q u al : Int) (κ : Bool → T β) : T β :=
 bif decide (p < 0) then (κ (false)) else
 bif decide (q < u) then (κ (false)) else
 bif decide (IntKind.i64.wrap (p + q) > ar) then (κ (false)) else
 bif Int.tmod p 8 != 0 then (κ (false)) else
 bif !al == 0 then (bif Int.tmod p al != 0 then (κ (false)) else
 kt (n) (false) (L) (p) (q) (u) (0) (fun y6_0 =>
 κ (false)) (fun y6_0 =>
 κ (true))) else
 .fail
def xa1 (n : Nat) (L : RowsL) (ar p q u al : Int) : T Bool := xcs n L ar p q u al .ret
theorem xma {β : Type} (n : Nat) (L : RowsL) (ar p q u al : Int) (κ : Bool → T β) : (xa1 n L ar p q u al).bind κ = xcs n L ar p q u al κ := by
 unfold xa1 xcs
 first | rfl | (simp only [xa, xb, xe, xc, T.bind_assoc, xeL])
def Yq {β : Type} (n0 : Nat) (a1 a2 : Int) (b3 : Bool) (q5 : RowsL) (κ0 : Unit → T β) (κ1 : Unit → T β) (i : Int) (k : Int → T β) : T β :=
 bif decide (i < a1) then ((onT n0 q5 i).bind fun r1 =>
 bif ↑r1.1 == (0 : Int) then (κ0 ()) else
 bif decide ((0 : Int) ≤ (0 : Int) ∧ (0 : Int) < ↑r1.fst) then (bif inR (List.length r1.2) 0 then (bif getI (getR r1.2 0) 1 == a2 then ((xpN a2).bind fun r6 =>
 bif decide (↑r1.1 < r6) then (κ0 ()) else
 k (IntKind.i64.wrap (i + 1))) else
 k (IntKind.i64.wrap (i + 1))) else
 .fail) else
 .fail) else
 κ1 ()
def ku {β : Type} (n0 : Nat) (a1 a2 : Int) (b3 : Bool) (q5 : RowsL) (a4 : Int) (κ0 : Unit → T β) (κ1 : Unit → T β) : T β := xA xd (Yq n0 a1 a2 b3 q5 κ0 κ1) (a4)
theorem xeN {β γ : Type} (n0 : Nat) (a1 a2 : Int) (b3 : Bool) (q5 : RowsL) (a4 : Int) (κ0 : Unit → T β) (κ1 : Unit → T β) (κ : β → T γ) : (ku n0 a1 a2 b3 q5 a4 κ0 κ1).bind κ = ku n0 a1 a2 b3 q5 a4 (fun u => (κ0 u).bind κ) (fun u => (κ1 u).bind κ) := by
 unfold ku
 refine xp κ (fun i k => ?_) _ _
 unfold Yq
 first | rfl | (simp only [xa, xb, xe, xc, T.bind_assoc])
def xeO : Pat := ⟨xr 35 0 [(0, .c (.slr 0)), (1, .c (.int .i64)), (2, .c (.int .i64)), (6, .c (.bool)), (7, .c (.int .i64))], [some ⟨[], 254, true, some (.rows [.int .i64, .int .i64, .int .i64])⟩]⟩
def jn : Pat := ⟨xr 35 0 [(6, .c (.bool))], [some ⟨[], 254, true, some (.rows [.int .i64, .int .i64, .int .i64])⟩]⟩
def Yr : St → (Ex → St → T R) → Option (T R) := fun st K => match xy xeO st with
 | some [.n n0, .i a1, .i a2, .b b3, .i a4, .r q5] => some (ku n0 a1 a2 b3 q5 a4 (fun _ => K (.ret) (xf jn [.b true, .r q5])) (fun _ => K (.exit 0) (xf jn [.b b3, .r q5])))
 | _ => none
theorem xoO : ∀ st K t, Yr st K = some t → xK xd (lf kr1 xd 1 .no [1, 0, 1, 0] Tryz.f110 K) st = t := by
 intro st K t h
 unfold Yr at h
 split at h
 ·rename_i n0 a1 a2 b3 a4 q5 hm
  cases h
  rw [xn hm]
  exact cast (by kernel_rfl) (xB (F := lf kr1 xd 1 .no [1, 0, 1, 0] Tryz.f110 K) (S := fun i => xf xeO [.n n0, .i a1, .i a2, .b b3, .i i, .r q5]) (B := Yq n0 a1 a2 b3 q5 (fun _ => K (.ret) (xf jn [.b true, .r q5])) (fun _ => K (.exit 0) (xf jn [.b b3, .r q5]))) (fun i k => by kernel_rfl) xd (a4))
 ·cases h
def xct {β : Type} (n : Nat) (L : RowsL) (m c : Int) (κ : Bool → T β) : T β :=
 ku (n) (m) (c) (false) (L) (0) (fun y0_0 =>
 κ (true)) (fun y0_0 =>
 κ (false))
def xa2 (n : Nat) (L : RowsL) (m c : Int) : T Bool := xct n L m c .ret
theorem xmb {β : Type} (n : Nat) (L : RowsL) (m c : Int) (κ : Bool → T β) : (xa2 n L m c).bind κ = xct n L m c κ := by
 unfold xa2 xct
 first | rfl | (simp only [xa, xb, xe, xc, T.bind_assoc, xeN])
def xeP : Sm := fun args H => match args, H with
 | [.c (.slr 0 n), .c (.int .i64 m), .c (.int .i64 pg), .c (.int .i64 k)], [some ⟨[], 254, true, some (.rows [.int .i64, .int .i64, .int .i64] L)⟩] => some (mkS (Bool) (xaY n L m pg k) fun r => some (.c (.bool r), [some ⟨[], 254, true, some (.rows [.int .i64, .int .i64, .int .i64] L)⟩]))
 | _, _ => none
theorem xmc : Good Tryz.prog (xt kr1) xd 1 (lsAt Yn .no [1, 0, 1, 0]) (Tryz.f189.body.getD .skip) (xv Tryz.f189.results.toList) := (xH (xl (by kernel_rfl)) xE xoM)
variable {σ : Type} {I : Port Tryz.prog σ}
theorem xoP (hl : SoundL I kr1) : SoundF I 189 xeP := by
 refine sq hl xd Tryz.func189 fun args H t ht => ?_
 unfold xeP at ht
 split at ht
 ·rename_i n m pg k L
  cases ht
  refine (xG (P := Tryz.prog) (n := xd) (x := (lsAt Yn .no [1, 0, 1, 0])) (fn := Tryz.f189) (H := [some ⟨[], 254, true, some (.rows [.int .i64, .int .i64, .int .i64] L)⟩]) (c := Tryz.f189.body.getD .skip) (xl (by kernel_rfl)) xmc).symm.trans ?_
  refine Eq.trans ?_ (xl7 n L m pg k _).symm
  kernel_rfl
 ·cases ht
def xeQ : Sm := fun args H => match args, H with
 | [.c (.int .i64 s), .c (.int .i64 a)], [] => some (mkS (Int) (xaZ s a) fun r => some (.c (.int .i64 r), []))
 | _, _ => none
theorem xoQ (hl : SoundL I kr1) : SoundF I 109 xeQ := by
 refine sq hl 6 Tryz.func109 fun args H t ht => ?_
 unfold xeQ at ht
 split at ht
 ·rename_i s a
  cases ht
  refine Eq.trans ?_ (xl8 s a _).symm
  kernel_rfl
 ·cases ht
def xeR : Sm := fun args H => match args, H with
 | [.c (.int .i64 m), .c (.int .i64 s), .c (.int .i64 a)], [] => some (mkS (Int) (xa0 m s a) fun r => some (.c (.int .i64 r), []))
 | _, _ => none
theorem xoR (hl : SoundL I kr1) : SoundF I 39 xeR := by
 refine sq hl 1 Tryz.func39 fun args H t ht => ?_
 unfold xeR at ht
 split at ht
 ·rename_i m s a
  cases ht
  refine Eq.trans ?_ (xl9 m s a _).symm
  kernel_rfl
 ·cases ht
def xeS : Sm := fun args H => match args, H with
 | [.c (.slr 0 n), .c (.int .i64 ar), .agg [.int .i64 p, .int .i64 q, .int .i64 u], .c (.int .i64 al)], [some ⟨[], 55, true, some (.rows [.int .i64, .int .i64, .int .i64] L)⟩] => some (mkS (Bool) (xa1 n L ar p q u al) fun r => some (.c (.bool r), [some ⟨[], 55, true, some (.rows [.int .i64, .int .i64, .int .i64] L)⟩]))
 | _, _ => none
theorem xmd : Good Tryz.prog (xt kr1) xd 1 (lsAt Yp .no [1, 1, 0, 1, 0]) (Tryz.f41.body.getD .skip) (xv Tryz.f41.results.toList) := (xH (xl (by kernel_rfl)) xE xoN)
theorem xoS (hl : SoundL I kr1) : SoundF I 41 xeS := by
 refine sq hl xd Tryz.func41 fun args H t ht => ?_
 unfold xeS at ht
 split at ht
 ·rename_i n ar p q u al L
  cases ht
  refine (xG (P := Tryz.prog) (n := xd) (x := (lsAt Yp .no [1, 1, 0, 1, 0])) (fn := Tryz.f41) (H := [some ⟨[], 55, true, some (.rows [.int .i64, .int .i64, .int .i64] L)⟩]) (c := Tryz.f41.body.getD .skip) (xl (by kernel_rfl)) xmd).symm.trans ?_
  refine Eq.trans ?_ (xma n L ar p q u al _).symm
  kernel_rfl
 ·cases ht
def xeT : Sm := fun args H => match args, H with
 | [.c (.slr 0 n), .c (.int .i64 m), .c (.int .i64 c)], [some ⟨[], 254, true, some (.rows [.int .i64, .int .i64, .int .i64] L)⟩] => some (mkS (Bool) (xa2 n L m c) fun r => some (.c (.bool r), [some ⟨[], 254, true, some (.rows [.int .i64, .int .i64, .int .i64] L)⟩]))
 | _, _ => none
theorem xme : Good Tryz.prog (xt kr1) xd 1 (lsAt Yr .no [1, 0, 1, 0]) (Tryz.f110.body.getD .skip) (xv Tryz.f110.results.toList) := (xH (xl (by kernel_rfl)) xE xoO)
theorem xoT (hl : SoundL I kr1) : SoundF I 110 xeT := by
 refine sq hl xd Tryz.func110 fun args H t ht => ?_
 unfold xeT at ht
 split at ht
 ·rename_i n m c L
  cases ht
  refine (xG (P := Tryz.prog) (n := xd) (x := (lsAt Yr .no [1, 0, 1, 0])) (fn := Tryz.f110) (H := [some ⟨[], 254, true, some (.rows [.int .i64, .int .i64, .int .i64] L)⟩]) (c := Tryz.f110.body.getD .skip) (xl (by kernel_rfl)) xme).symm.trans ?_
  refine Eq.trans ?_ (xmb n L m c _).symm
  kernel_rfl
 ·cases ht
noncomputable def kr2 : List (Nat × Sm) := (189, xeP) :: (109, xeQ) :: (39, xeR) :: (41, xeS) :: (110, xeT) :: kr1
theorem s_kr2 : SoundL I kr2 := (.cons (xoP xgQ) (.cons (xoQ xgQ) (.cons (xoR xgQ) (.cons (xoS xgQ) (.cons (xoT xgQ) xgQ)))))
end Go.Proofs.YtaegelbaghaooaaGreat.Lx
