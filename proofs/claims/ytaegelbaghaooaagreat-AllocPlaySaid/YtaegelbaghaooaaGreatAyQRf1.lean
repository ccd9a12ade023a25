/- Summaries: the document (13, 15), lists of blocks. (trees printed by program, wip/auto.py) -/
import Derived.Test.YtaegelbaghaooaaGreatAyQRf0
import Derived.WalkKit
set_option linter.unusedSimpArgs false
set_option linter.unusedVariables false
set_option linter.unusedSectionVars false
namespace Go.Proofs.YtaegelbaghaooaaGreat.Lx
open Go
set_option maxRecDepth 1000000

def qh {β : Type} (b1 : Bool) (κ0 : Int → T β) (i : Int) (k : Int → T β) : T β :=
 bif decide (i > 1) then (bif Int.tmod i 2 == 0 then (k (IntKind.i64.wrap (Int.tdiv i 2))) else
 κ0 (i)) else
 κ0 (i)
def wq {β : Type} (b1 : Bool) (a0 : Int) (κ0 : Int → T β) : T β := xA xd (qh b1 κ0) (a0)
theorem xeC {β γ : Type} (b1 : Bool) (a0 : Int) (κ0 : Int → T β) (κ : β → T γ) : (wq b1 a0 κ0).bind κ = wq b1 a0 (fun ae0 => (κ0 ae0).bind κ) := by
 unfold wq
 refine xp κ (fun i k => ?_) _ _
 unfold qh
 first | rfl | (simp only [xa, xb, xe, xc, T.bind_assoc])
def Zj : Pat := ⟨xr 14 0 [(0, .c (.int .i64)), (2, .c (.bool))], []⟩
def Yj : St → (Ex → St → T R) → Option (T R) := fun st K => match xy Zj st with
 | some [.i a0, .b b1] => some (wq b1 a0 (fun ae0 => K (.exit 0) (xf Zj [.i ae0, .b b1])))
 | _ => none
theorem xoE : ∀ st K t, Yj st K = some t → xK xd (lf kr0 xd 0 .no [1, 0, 0] Tryz.f108 K) st = t := by
 intro st K t h
 unfold Yj at h
 split at h
 ·rename_i a0 b1 hm
  cases h
  rw [xn hm]
  exact cast (by kernel_rfl) (xB (F := lf kr0 xd 0 .no [1, 0, 0] Tryz.f108 K) (S := fun i => xf Zj [.i i, .b b1]) (B := qh b1 (fun ae0 => K (.exit 0) (xf Zj [.i ae0, .b b1]))) (fun i k => by kernel_rfl) xd (a0))
 ·cases h
def Ky {β : Type} (x : Int) (κ : Bool → T β) : T β :=
 wq (false) (x) (fun y0_0 =>
 κ (y0_0 == 1))
def WJ (x : Int) : T Bool := Ky x .ret
theorem xl1 {β : Type} (x : Int) (κ : Bool → T β) : (WJ x).bind κ = Ky x κ := by
 unfold WJ Ky
 first | rfl | (simp only [xa, xb, xe, xc, T.bind_assoc, xeC])
def Yk {β : Type} (n0 : Nat) (a1 a2 : Int) (q4 : RowsL) (κ0 : Int → T β) (κ1 : Unit → T β) (i : Int) (k : Int → T β) : T β :=
 bif decide (i < ↑n0) then (bif decide (0 ≤ i ∧ i < ↑n0) then (bif inR (List.length q4) i then (bif getI (getR q4 (Int.toNat i)) 0 == a1 then (κ0 (i)) else
 k (IntKind.i64.wrap (i + 1))) else
 .fail) else
 .fail) else
 κ1 ()
def kr {β : Type} (n0 : Nat) (a1 a2 : Int) (q4 : RowsL) (a3 : Int) (κ0 : Int → T β) (κ1 : Unit → T β) : T β := xA xd (Yk n0 a1 a2 q4 κ0 κ1) (a3)
theorem xeD {β γ : Type} (n0 : Nat) (a1 a2 : Int) (q4 : RowsL) (a3 : Int) (κ0 : Int → T β) (κ1 : Unit → T β) (κ : β → T γ) : (kr n0 a1 a2 q4 a3 κ0 κ1).bind κ = kr n0 a1 a2 q4 a3 (fun ae0 => (κ0 ae0).bind κ) (fun u => (κ1 u).bind κ) := by
 unfold kr
 refine xp κ (fun i k => ?_) _ _
 unfold Yk
 first | rfl | (simp only [xa, xb, xe, xc, T.bind_assoc])
def xeE : Pat := ⟨xr 20 0 [(0, .c (.slr 0)), (1, .c (.int .i64)), (4, .c (.int .i64)), (5, .c (.int .i64))], [some ⟨[], 55, true, some (.rows [.int .i64, .int .i64, .int .i64])⟩]⟩
def jk : Pat := ⟨xr 20 0 [(4, .c (.int .i64))], [some ⟨[], 55, true, some (.rows [.int .i64, .int .i64, .int .i64])⟩]⟩
def Yl : St → (Ex → St → T R) → Option (T R) := fun st K => match xy xeE st with
 | some [.n n0, .i a1, .i a2, .i a3, .r q4] => some (kr n0 a1 a2 q4 a3 (fun ae0 => K (.ret) (xf jk [.i ae0, .r q4])) (fun _ => K (.exit 0) (xf jk [.i a2, .r q4])))
 | _ => none
theorem xoF : ∀ st K t, Yl st K = some t → xK xd (lf kr0 xd 1 .no [1, 0, 1, 0] Tryz.f37 K) st = t := by
 intro st K t h
 unfold Yl at h
 split at h
 ·rename_i n0 a1 a2 a3 q4 hm
  cases h
  rw [xn hm]
  exact cast (by kernel_rfl) (xB (F := lf kr0 xd 1 .no [1, 0, 1, 0] Tryz.f37 K) (S := fun i => xf xeE [.n n0, .i a1, .i a2, .i i, .r q4]) (B := Yk n0 a1 a2 q4 (fun ae0 => K (.ret) (xf jk [.i ae0, .r q4])) (fun _ => K (.exit 0) (xf jk [.i a2, .r q4]))) (fun i k => by kernel_rfl) xd (a3))
 ·cases h
def xco {β : Type} (n : Nat) (L : RowsL) (at_ : Int) (κ : Int → T β) : T β :=
 kr (n) (at_) (0) (L) (0) (fun y0_0 =>
 κ (y0_0)) (fun y0_0 =>
 κ ((-1)))
def xaW (n : Nat) (L : RowsL) (at_ : Int) : T Int := xco n L at_ .ret
theorem xl2 {β : Type} (n : Nat) (L : RowsL) (at_ : Int) (κ : Int → T β) : (xaW n L at_).bind κ = xco n L at_ κ := by
 unfold xaW xco
 first | rfl | (simp only [xa, xb, xe, xc, T.bind_assoc, xeD])
def Kz {β : Type} (n0 : Nat) (a1 : Int) (n2 : Nat) (q5 q6 : RowsL) (κ0 : Nat → RowsL → T β) (i : Nat × Int × RowsL) (k : Nat × Int × RowsL → T β) : T β :=
 bif decide (i.2.1 < ↑n0) then (bif i.2.1 != a1 then (bif decide (0 ≤ i.2.1 ∧ i.2.1 < ↑n0) then (bif inR (List.length q5) i.2.1 then (bif Nat.beq (List.length i.2.2) i.1 && Nat.ble i.1 1000 then (k (i.1 + 1, IntKind.i64.wrap (i.2.1 + 1), i.2.2 ++   [[getI (getR q5 (Int.toNat i.2.1)) 0, getI (getR q5 (Int.toNat i.2.1)) 1,       getI (getR q5 (Int.toNat i.2.1)) 2]])) else
 .fail) else
 .fail) else
 .fail) else
 k (i.1, IntKind.i64.wrap (i.2.1 + 1), i.2.2)) else
 κ0 (i.1) (i.2.2)
def qi {β : Type} (n0 : Nat) (a1 : Int) (n2 : Nat) (q5 q6 : RowsL) (n3 : Nat) (a4 : Int) (q7 : RowsL) (κ0 : Nat → RowsL → T β) : T β := xA xd (Kz n0 a1 n2 q5 q6 κ0) (n3, a4, q7)
theorem xfx {β γ : Type} (n0 : Nat) (a1 : Int) (n2 : Nat) (q5 q6 : RowsL) (n3 : Nat) (a4 : Int) (q7 : RowsL) (κ0 : Nat → RowsL → T β) (κ : β → T γ) : (qi n0 a1 n2 q5 q6 n3 a4 q7 κ0).bind κ = qi n0 a1 n2 q5 q6 n3 a4 q7 (fun ne1 qe4 => (κ0 ne1 qe4).bind κ) := by
 unfold qi
 refine xp κ (fun i k => ?_) _ _
 unfold Kz
 first | rfl | (simp only [xa, xb, xe, xc, T.bind_assoc])
def xgN : Pat := ⟨xr 24 0 [(0, .c (.slr 0)), (1, .c (.int .i64)), (4, .c (.slr 1)), (5, .c (.slr 2)), (6, .c (.int .i64))], [some ⟨[], 55, true, some (.rows [.int .i64, .int .i64, .int .i64])⟩, some ⟨[], 55, true, some (.rows [.int .i64, .int .i64, .int .i64])⟩, some ⟨[], 55, true, some (.rows [.int .i64, .int .i64, .int .i64])⟩]⟩
def xeF : Pat := ⟨xr 24 0 [(4, .c (.slr 1)), (5, .c (.slr 2))], [some ⟨[], 55, true, some (.rows [.int .i64, .int .i64, .int .i64])⟩, some ⟨[], 55, true, some (.rows [.int .i64, .int .i64, .int .i64])⟩, some ⟨[], 55, true, some (.rows [.int .i64, .int .i64, .int .i64])⟩]⟩
def KA : St → (Ex → St → T R) → Option (T R) := fun st K => match xy xgN st with
 | some [.n n0, .i a1, .n n2, .n n3, .i a4, .r q5, .r q6, .r q7] => some (qi n0 a1 n2 q5 q6 n3 a4 q7 (fun ne1 qe4 => K (.exit 0) (xf xeF [.n n2, .n ne1, .r q5, .r q6, .r qe4])))
 | _ => none
theorem xrT : ∀ st K t, KA st K = some t → xK xd (lf kr0 (⟨xd, [⟨4, 55, .rows [.int .i64, .int .i64, .int .i64]⟩, ⟨5, 55, .rows [.int .i64, .int .i64, .int .i64]⟩], true⟩ : Fu) 1 .no [1, 1, 0, 1, 0] Tryz.f33 K) st = t := by
 intro st K t h
 unfold KA at h
 split at h
 ·rename_i n0 a1 n2 n3 a4 q5 q6 q7 hm
  cases h
  rw [xn hm]
  exact cast (by kernel_rfl) (xB (F := lf kr0 (⟨xd, [⟨4, 55, .rows [.int .i64, .int .i64, .int .i64]⟩, ⟨5, 55, .rows [.int .i64, .int .i64, .int .i64]⟩], true⟩ : Fu) 1 .no [1, 1, 0, 1, 0] Tryz.f33 K) (S := fun i => xf xgN [.n n0, .i a1, .n n2, .n (i.1), .i (i.2.1), .r q5, .r q6, .r (i.2.2)]) (B := Kz n0 a1 n2 q5 q6 (fun ne1 qe4 => K (.exit 0) (xf xeF [.n n2, .n ne1, .r q5, .r q6, .r qe4]))) (fun i k => by kernel_rfl) xd (n3, a4, q7))
 ·cases h
def xjh {β : Type} (n : Nat) (L : RowsL) (at_ : Int) (κ : (Nat × RowsL) → T β) : T β :=
 qi (n) (at_) (0) (L) ([]) (0) (0) ([]) (fun y0_0 y0_1 =>
 κ (y0_0, y0_1))
def xgO (n : Nat) (L : RowsL) (at_ : Int) : T (Nat × RowsL) := xjh n L at_ .ret
theorem xoG {β : Type} (n : Nat) (L : RowsL) (at_ : Int) (κ : (Nat × RowsL) → T β) : (xgO n L at_).bind κ = xjh n L at_ κ := by
 unfold xgO xjh
 first | rfl | (simp only [xa, xb, xe, xc, T.bind_assoc, xfx])
def KB {β : Type} (n0 n1 : Nat) (q4 q5 : RowsL) (κ0 : Nat → RowsL → T β) (i : Nat × Int × RowsL) (k : Nat × Int × RowsL → T β) : T β :=
 bif decide (i.2.1 < ↑n0) then (bif decide (0 ≤ i.2.1 ∧ i.2.1 < ↑n0) then (bif inR (List.length q4) i.2.1 then (bif decide   (IntKind.i64.wrap       (IntKind.i64.wrap (Int.tdiv (getI (getR q4 (Int.toNat i.2.1)) 1) 8) - 1) >     3) then (bif decide (0 ≤ i.2.1 ∧ i.2.1 < ↑n0) then (bif inR (List.length q4) i.2.1 then (bif decide (0 ≤ i.2.1 ∧ i.2.1 < ↑n0) then (bif inR (List.length q4) i.2.1 then (bif Nat.beq (List.length i.2.2) i.1 && Nat.ble i.1 1000 then (k (i.1 + 1, IntKind.i64.wrap (i.2.1 + 1), i.2.2 ++   [[IntKind.i64.wrap (Int.tdiv (getI (getR q4 (Int.toNat i.2.1)) 0) 8), (-1),       IntKind.i64.wrap (Int.tdiv (getI (getR q4 (Int.toNat i.2.1)) 1) 8)]])) else
 .fail) else
 .fail) else
 .fail) else
 .fail) else
 .fail) else
 bif decide (0 ≤ i.2.1 ∧ i.2.1 < ↑n0) then (bif inR (List.length q4) i.2.1 then (bif decide (0 ≤ i.2.1 ∧ i.2.1 < ↑n0) then (bif inR (List.length q4) i.2.1 then (bif Nat.beq (List.length i.2.2) i.1 && Nat.ble i.1 1000 then (k (i.1 + 1, IntKind.i64.wrap (i.2.1 + 1), i.2.2 ++   [[IntKind.i64.wrap (Int.tdiv (getI (getR q4 (Int.toNat i.2.1)) 0) 8),       IntKind.i64.wrap         (IntKind.i64.wrap (Int.tdiv (getI (getR q4 (Int.toNat i.2.1)) 1) 8) - 1),       IntKind.i64.wrap (Int.tdiv (getI (getR q4 (Int.toNat i.2.1)) 1) 8)]])) else
 .fail) else
 .fail) else
 .fail) else
 .fail) else
 .fail) else
 .fail) else
 .fail) else
 κ0 (i.1) (i.2.2)
def qj {β : Type} (n0 n1 : Nat) (q4 q5 : RowsL) (n2 : Nat) (a3 : Int) (q6 : RowsL) (κ0 : Nat → RowsL → T β) : T β := xA xd (KB n0 n1 q4 q5 κ0) (n2, a3, q6)
theorem xfy {β γ : Type} (n0 n1 : Nat) (q4 q5 : RowsL) (n2 : Nat) (a3 : Int) (q6 : RowsL) (κ0 : Nat → RowsL → T β) (κ : β → T γ) : (qj n0 n1 q4 q5 n2 a3 q6 κ0).bind κ = qj n0 n1 q4 q5 n2 a3 q6 (fun ne1 qe4 => (κ0 ne1 qe4).bind κ) := by
 unfold qj
 refine xp κ (fun i k => ?_) _ _
 unfold KB
 first | rfl | (simp only [xa, xb, xe, xc, T.bind_assoc])
def xgP : Pat := ⟨xr 39 0 [(0, .c (.slr 0)), (2, .c (.slr 1)), (3, .c (.slr 2)), (4, .c (.int .i64))], [some ⟨[], 55, true, some (.rows [.int .i64, .int .i64, .int .i64])⟩, some ⟨[], 254, true, some (.rows [.int .i64, .int .i64, .int .i64])⟩, some ⟨[], 254, true, some (.rows [.int .i64, .int .i64, .int .i64])⟩]⟩
def xeG : Pat := ⟨xr 39 0 [(2, .c (.slr 1)), (3, .c (.slr 2))], [some ⟨[], 55, true, some (.rows [.int .i64, .int .i64, .int .i64])⟩, some ⟨[], 254, true, some (.rows [.int .i64, .int .i64, .int .i64])⟩, some ⟨[], 254, true, some (.rows [.int .i64, .int .i64, .int .i64])⟩]⟩
def KC : St → (Ex → St → T R) → Option (T R) := fun st K => match xy xgP st with
 | some [.n n0, .n n1, .n n2, .i a3, .r q4, .r q5, .r q6] => some (qj n0 n1 q4 q5 n2 a3 q6 (fun ne1 qe4 => K (.exit 0) (xf xeG [.n n1, .n ne1, .r q4, .r q5, .r qe4])))
 | _ => none
theorem xrU : ∀ st K t, KC st K = some t → xK xd (lf kr0 (⟨xd, [⟨2, 254, .rows [.int .i64, .int .i64, .int .i64]⟩, ⟨3, 254, .rows [.int .i64, .int .i64, .int .i64]⟩], true⟩ : Fu) 1 .no [1, 1, 0, 1, 0] Tryz.f111 K) st = t := by
 intro st K t h
 unfold KC at h
 split at h
 ·rename_i n0 n1 n2 a3 q4 q5 q6 hm
  cases h
  rw [xn hm]
  exact cast (by kernel_rfl) (xB (F := lf kr0 (⟨xd, [⟨2, 254, .rows [.int .i64, .int .i64, .int .i64]⟩, ⟨3, 254, .rows [.int .i64, .int .i64, .int .i64]⟩], true⟩ : Fu) 1 .no [1, 1, 0, 1, 0] Tryz.f111 K) (S := fun i => xf xgP [.n n0, .n n1, .n (i.1), .i (i.2.1), .r q4, .r q5, .r (i.2.2)]) (B := KB n0 n1 q4 q5 (fun ne1 qe4 => K (.exit 0) (xf xeG [.n n1, .n ne1, .r q4, .r q5, .r qe4]))) (fun i k => by kernel_rfl) xd (n2, a3, q6))
 ·cases h
def xji {β : Type} (n : Nat) (L : RowsL) (κ : (Nat × RowsL) → T β) : T β :=
 qj (n) (0) (L) ([]) (0) (0) ([]) (fun y0_0 y0_1 =>
 κ (y0_0, y0_1))
def xbB (n : Nat) (L : RowsL) : T (Nat × RowsL) := xji n L .ret
theorem xoH {β : Type} (n : Nat) (L : RowsL) (κ : (Nat × RowsL) → T β) : (xbB n L).bind κ = xji n L κ := by
 unfold xbB xji
 first | rfl | (simp only [xa, xb, xe, xc, T.bind_assoc, xfy])
def xjj {β : Type} (n0 : Nat) (a1 : Int) (n2 : Nat) (q5 q6 : RowsL) (κ0 : Nat → RowsL → T β) (i : Nat × Int × RowsL) (k : Nat × Int × RowsL → T β) : T β :=
 bif decide (i.2.1 < ↑n0) then (bif decide (0 ≤ i.2.1 ∧ i.2.1 < ↑n0) then (bif inR (List.length q5) i.2.1 then (bif decide   (getI (getR q5 (Int.toNat i.2.1)) 0 <     IntKind.i64.wrap (IntKind.i64.wrap (8 * a1) + 8)) then (bif decide (0 ≤ i.2.1 ∧ i.2.1 < ↑n0) then (bif inR (List.length q5) i.2.1 then (bif decide (0 ≤ i.2.1 ∧ i.2.1 < ↑n0) then (bif inR (List.length q5) i.2.1 then (bif decide   (IntKind.i64.wrap (getI (getR q5 (Int.toNat i.2.1)) 0 + getI (getR q5 (Int.toNat i.2.1)) 2) >     IntKind.i64.wrap (8 * a1)) then (bif decide (0 ≤ i.2.1 ∧ i.2.1 < ↑n0) then (bif inR (List.length q5) i.2.1 then (bif Nat.beq (List.length i.2.2) i.1 && Nat.ble i.1 1000 then (k (i.1 + 1, IntKind.i64.wrap (i.2.1 + 1), i.2.2 ++   [[getI (getR q5 (Int.toNat i.2.1)) 0, getI (getR q5 (Int.toNat i.2.1)) 1,       getI (getR q5 (Int.toNat i.2.1)) 2]])) else
 .fail) else
 .fail) else
 .fail) else
 k (i.1, IntKind.i64.wrap (i.2.1 + 1), i.2.2)) else
 .fail) else
 .fail) else
 .fail) else
 .fail) else
 k (i.1, IntKind.i64.wrap (i.2.1 + 1), i.2.2)) else
 .fail) else
 .fail) else
 κ0 (i.1) (i.2.2)
def xaX {β : Type} (n0 : Nat) (a1 : Int) (n2 : Nat) (q5 q6 : RowsL) (n3 : Nat) (a4 : Int) (q7 : RowsL) (κ0 : Nat → RowsL → T β) : T β := xA xd (xjj n0 a1 n2 q5 q6 κ0) (n3, a4, q7)
theorem xl3 {β γ : Type} (n0 : Nat) (a1 : Int) (n2 : Nat) (q5 q6 : RowsL) (n3 : Nat) (a4 : Int) (q7 : RowsL) (κ0 : Nat → RowsL → T β) (κ : β → T γ) : (xaX n0 a1 n2 q5 q6 n3 a4 q7 κ0).bind κ = xaX n0 a1 n2 q5 q6 n3 a4 q7 (fun ne1 qe4 => (κ0 ne1 qe4).bind κ) := by
 unfold xaX
 refine xp κ (fun i k => ?_) _ _
 unfold xjj
 first | rfl | (simp only [xa, xb, xe, xc, T.bind_assoc])
def xpO : Pat := ⟨xr 46 0 [(0, .c (.slr 0)), (1, .c (.int .i64)), (4, .c (.slr 1)), (5, .c (.slr 2)), (6, .c (.int .i64))], [some ⟨[], 254, true, some (.rows [.int .i64, .int .i64, .int .i64])⟩, some ⟨[], 254, true, some (.rows [.int .i64, .int .i64, .int .i64])⟩, some ⟨[], 254, true, some (.rows [.int .i64, .int .i64, .int .i64])⟩]⟩
def xl4 : Pat := ⟨xr 46 0 [(4, .c (.slr 1)), (5, .c (.slr 2))], [some ⟨[], 254, true, some (.rows [.int .i64, .int .i64, .int .i64])⟩, some ⟨[], 254, true, some (.rows [.int .i64, .int .i64, .int .i64])⟩, some ⟨[], 254, true, some (.rows [.int .i64, .int .i64, .int .i64])⟩]⟩
def xjk : St → (Ex → St → T R) → Option (T R) := fun st K => match xy xpO st with
 | some [.n n0, .i a1, .n n2, .n n3, .i a4, .r q5, .r q6, .r q7] => some (xaX n0 a1 n2 q5 q6 n3 a4 q7 (fun ne1 qe4 => K (.exit 0) (xf xl4 [.n n2, .n ne1, .r q5, .r q6, .r qe4])))
 | _ => none
theorem onT_0Ok : ∀ st K t, xjk st K = some t → xK xd (lf kr0 (⟨xd, [⟨4, 254, .rows [.int .i64, .int .i64, .int .i64]⟩, ⟨5, 254, .rows [.int .i64, .int .i64, .int .i64]⟩], true⟩ : Fu) 1 .no [1, 1, 0, 1, 0] Tryz.f187 K) st = t := by
 intro st K t h
 unfold xjk at h
 split at h
 ·rename_i n0 a1 n2 n3 a4 q5 q6 q7 hm
  cases h
  rw [xn hm]
  exact cast (by kernel_rfl) (xB (F := lf kr0 (⟨xd, [⟨4, 254, .rows [.int .i64, .int .i64, .int .i64]⟩, ⟨5, 254, .rows [.int .i64, .int .i64, .int .i64]⟩], true⟩ : Fu) 1 .no [1, 1, 0, 1, 0] Tryz.f187 K) (S := fun i => xf xpO [.n n0, .i a1, .n n2, .n (i.1), .i (i.2.1), .r q5, .r q6, .r (i.2.2)]) (B := xjj n0 a1 n2 q5 q6 (fun ne1 qe4 => K (.exit 0) (xf xl4 [.n n2, .n ne1, .r q5, .r q6, .r qe4]))) (fun i k => by kernel_rfl) xd (n3, a4, q7))
 ·cases h
def onTK {β : Type} (n : Nat) (L : RowsL) (pg : Int) (κ : (Nat × RowsL) → T β) : T β :=
 xaX (n) (pg) (0) (L) ([]) (0) (0) ([]) (fun y0_0 y0_1 =>
 κ (y0_0, y0_1))
def onT (n : Nat) (L : RowsL) (pg : Int) : T (Nat × RowsL) := onTK n L pg .ret
theorem xty {β : Type} (n : Nat) (L : RowsL) (pg : Int) (κ : (Nat × RowsL) → T β) : (onT n L pg).bind κ = onTK n L pg κ := by
 unfold onT onTK
 first | rfl | (simp only [xa, xb, xe, xc, T.bind_assoc, xl3])
def xeH : Sm := fun args H => match args, H with
 | [.c (.int .i64 x)], [] => some (mkS (Bool) (WJ x) fun r => some (.c (.bool r), []))
 | _, _ => none
theorem xl5 : Good Tryz.prog (xt kr0) xd 0 (lsAt Yj .no [1, 0, 0]) (Tryz.f108.body.getD .skip) (xv Tryz.f108.results.toList) := xH (xl (by kernel_rfl)) xE xoE
variable {σ : Type} {I : Port Tryz.prog σ}
theorem xoI (hl : SoundL I kr0) : SoundF I 108 xeH := by
 refine sq hl xd Tryz.func108 fun args H t ht => ?_
 unfold xeH at ht
 split at ht
 ·rename_i x
  cases ht
  refine (xG (P := Tryz.prog) (n := xd) (x := (lsAt Yj .no [1, 0, 0])) (fn := Tryz.f108) (H := []) (c := Tryz.f108.body.getD .skip) (xl (by kernel_rfl)) xl5).symm.trans ?_
  refine Eq.trans ?_ (xl1 x _).symm
  kernel_rfl
 ·cases ht
def xeI : Sm := fun args H => match args, H with
 | [.c (.slr 0 n), .c (.int .i64 at_)], [some ⟨[], 55, true, some (.rows [.int .i64, .int .i64, .int .i64] L)⟩] => some (mkS (Int) (xaW n L at_) fun r => some (.c (.int .i64 r), [some ⟨[], 55, true, some (.rows [.int .i64, .int .i64, .int .i64] L)⟩]))
 | _, _ => none
theorem xl6 : Good Tryz.prog (xt kr0) xd 1 (lsAt Yl .no [1, 0, 1, 0]) (Tryz.f37.body.getD .skip) (xv Tryz.f37.results.toList) := xH (xl (by kernel_rfl)) xE xoF
theorem xoJ (hl : SoundL I kr0) : SoundF I 37 xeI := by
 refine sq hl xd Tryz.func37 fun args H t ht => ?_
 unfold xeI at ht
 split at ht
 ·rename_i n at_ L
  cases ht
  refine (xG (P := Tryz.prog) (n := xd) (x := (lsAt Yl .no [1, 0, 1, 0])) (fn := Tryz.f37) (H := [some ⟨[], 55, true, some (.rows [.int .i64, .int .i64, .int .i64] L)⟩]) (c := Tryz.f37.body.getD .skip) (xl (by kernel_rfl)) xl6).symm.trans ?_
  refine Eq.trans ?_ (xl2 n L at_ _).symm
  kernel_rfl
 ·cases ht
def xjl : Sm := fun args H => match args, H with
 | [.c (.slr 0 n), .c (.int .i64 at_)], [some ⟨[], 55, true, some (.rows [.int .i64, .int .i64, .int .i64] L)⟩] => some (mkS ((Nat × RowsL)) (xgO n L at_) fun r => some (.c (.slr 1 r.1), [some ⟨[], 55, true, some (.rows [.int .i64, .int .i64, .int .i64] L)⟩, some ⟨[], 55, true, some (.rows [.int .i64, .int .i64, .int .i64] r.2)⟩]))
 | _, _ => none
theorem xoK : Good Tryz.prog (xt kr0) (⟨xd, [⟨4, 55, .rows [.int .i64, .int .i64, .int .i64]⟩, ⟨5, 55, .rows [.int .i64, .int .i64, .int .i64]⟩], true⟩ : Fu) 1 (lsAt KA .no [1, 1, 0, 1, 0]) (Tryz.f33.body.getD .skip) (xv Tryz.f33.results.toList) := xH (xl (by kernel_rfl)) xE xrT
theorem xrV (hl : SoundL I kr0) : SoundF I 33 xjl := by
 refine ZJ hl (⟨xd, [⟨4, 55, .rows [.int .i64, .int .i64, .int .i64]⟩, ⟨5, 55, .rows [.int .i64, .int .i64, .int .i64]⟩], true⟩ : Fu) Tryz.func33 (by kernel_rfl) (by kernel_rfl) fun args H t ht => ?_
 unfold xjl at ht
 split at ht
 ·rename_i n at_ L
  cases ht
  refine (xG (P := Tryz.prog) (n := (⟨xd, [⟨4, 55, .rows [.int .i64, .int .i64, .int .i64]⟩, ⟨5, 55, .rows [.int .i64, .int .i64, .int .i64]⟩], true⟩ : Fu)) (x := (lsAt KA .no [1, 1, 0, 1, 0])) (fn := Tryz.f33) (H := [some ⟨[], 55, true, some (.rows [.int .i64, .int .i64, .int .i64] L)⟩]) (c := Tryz.f33.body.getD .skip) (xl (by kernel_rfl)) xoK).symm.trans ?_
  refine Eq.trans ?_ (xoG n L at_ _).symm
  kernel_rfl
 ·cases ht
def xjm : Sm := fun args H => match args, H with
 | [.c (.slr 0 n)], [some ⟨[], 55, true, some (.rows [.int .i64, .int .i64, .int .i64] L)⟩] => some (mkS ((Nat × RowsL)) (xbB n L) fun r => some (.c (.slr 1 r.1), [some ⟨[], 55, true, some (.rows [.int .i64, .int .i64, .int .i64] L)⟩, some ⟨[], 254, true, some (.rows [.int .i64, .int .i64, .int .i64] r.2)⟩]))
 | _, _ => none
theorem xoL : Good Tryz.prog (xt kr0) (⟨xd, [⟨2, 254, .rows [.int .i64, .int .i64, .int .i64]⟩, ⟨3, 254, .rows [.int .i64, .int .i64, .int .i64]⟩], true⟩ : Fu) 1 (lsAt KC .no [1, 1, 0, 1, 0]) (Tryz.f111.body.getD .skip) (xv Tryz.f111.results.toList) := xH (xl (by kernel_rfl)) xE xrU
theorem xrW (hl : SoundL I kr0) : SoundF I 111 xjm := by
 refine ZJ hl (⟨xd, [⟨2, 254, .rows [.int .i64, .int .i64, .int .i64]⟩, ⟨3, 254, .rows [.int .i64, .int .i64, .int .i64]⟩], true⟩ : Fu) Tryz.func111 (by kernel_rfl) (by kernel_rfl) fun args H t ht => ?_
 unfold xjm at ht
 split at ht
 ·rename_i n L
  cases ht
  refine (xG (P := Tryz.prog) (n := (⟨xd, [⟨2, 254, .rows [.int .i64, .int .i64, .int .i64]⟩, ⟨3, 254, .rows [.int .i64, .int .i64, .int .i64]⟩], true⟩ : Fu)) (x := (lsAt KC .no [1, 1, 0, 1, 0])) (fn := Tryz.f111) (H := [some ⟨[], 55, true, some (.rows [.int .i64, .int .i64, .int .i64] L)⟩]) (c := Tryz.f111.body.getD .skip) (xl (by kernel_rfl)) xoL).symm.trans ?_
  refine Eq.trans ?_ (xoH n L _).symm
  kernel_rfl
 ·cases ht
def m_onT : Sm := fun args H => match args, H with
 | [.c (.slr 0 n), .c (.int .i64 pg)], [some ⟨[], 254, true, some (.rows [.int .i64, .int .i64, .int .i64] L)⟩] => some (mkS ((Nat × RowsL)) (onT n L pg) fun r => some (.c (.slr 1 r.1), [some ⟨[], 254, true, some (.rows [.int .i64, .int .i64, .int .i64] L)⟩, some ⟨[], 254, true, some (.rows [.int .i64, .int .i64, .int .i64] r.2)⟩]))
 | _, _ => none
theorem xtz : Good Tryz.prog (xt kr0) (⟨xd, [⟨4, 254, .rows [.int .i64, .int .i64, .int .i64]⟩, ⟨5, 254, .rows [.int .i64, .int .i64, .int .i64]⟩], true⟩ : Fu) 1 (lsAt xjk .no [1, 1, 0, 1, 0]) (Tryz.f187.body.getD .skip) (xv Tryz.f187.results.toList) := xH (xl (by kernel_rfl)) xE onT_0Ok
theorem s_m_onT (hl : SoundL I kr0) : SoundF I 187 m_onT := by
 refine ZJ hl (⟨xd, [⟨4, 254, .rows [.int .i64, .int .i64, .int .i64]⟩, ⟨5, 254, .rows [.int .i64, .int .i64, .int .i64]⟩], true⟩ : Fu) Tryz.func187 (by kernel_rfl) (by kernel_rfl) fun args H t ht => ?_
 unfold m_onT at ht
 split at ht
 ·rename_i n pg L
  cases ht
  refine (xG (P := Tryz.prog) (n := (⟨xd, [⟨4, 254, .rows [.int .i64, .int .i64, .int .i64]⟩, ⟨5, 254, .rows [.int .i64, .int .i64, .int .i64]⟩], true⟩ : Fu)) (x := (lsAt xjk .no [1, 1, 0, 1, 0])) (fn := Tryz.f187) (H := [some ⟨[], 254, true, some (.rows [.int .i64, .int .i64, .int .i64] L)⟩]) (c := Tryz.f187.body.getD .skip) (xl (by kernel_rfl)) xtz).symm.trans ?_
  refine Eq.trans ?_ (xty n L pg _).symm
  kernel_rfl
 ·cases ht
noncomputable def kr1 : List (Nat × Sm) := (108, xeH) :: (37, xeI) :: (33, xjl) :: (111, xjm) :: (187, m_onT) :: kr0
theorem xgQ : SoundL I kr1 := (.cons (xoI xgM) (.cons (xoJ xgM) (.cons (xrV xgM) (.cons (xrW xgM) (.cons (s_m_onT xgM) xgM)))))
end Go.Proofs.YtaegelbaghaooaaGreat.Lx
