/- Summaries: is an arena whole? (trees printed by program, wip/auto.py) -/
import Derived.Test.YtaegelbaghaooaaGreatErQKz
import Derived.WalkKit
set_option linter.all false
open Go.IntKind (i64 u64 u32 u8)
namespace Go.Proofs.YtaegelbaghaooaaGreat.Lx
open Go
set_option maxRecDepth 1000000
def xcp {β : Type} (b0 : Bool) (n2 n3 n4 n5 : Nat) (l6 l7 : xh) (g8 : Geo) (κ0 : Unit -> T β) (κ1 : Unit -> T β) (i : Int) (k : Int -> T β) : T β :=
 bif decide (i < g8.pages) then ((xE (decide (n3 = n2 /\ n5 = n4 /\ List.length l6 = n2 /\ List.length l7 = n4 /\ n2 <= 1000000 /\ n4 <= 1000000) && true)).bind fun r1 =>
 bif ofW i64 (oz (atI l6 (atF g8 9 i))) 0 24 != 0 then (κ0 ()) else
 (xE (decide (n3 = n2 /\ n5 = n4 /\ List.length l6 = n2 /\ List.length l7 = n4 /\ n2 <= 1000000 /\ n4 <= 1000000) && true)).bind fun r3 =>
 bif decide (ofW i64 (oz (atI l6 (atF g8 8 i))) 8 3 > 0) then (κ0 ()) else
 k (i64.wrap (i + 1))) else
 κ1 ()
def Zh {β : Type} (b0 : Bool) (n2 n3 n4 n5 : Nat) (l6 l7 : xh) (g8 : Geo) (a1 : Int) (κ0 : Unit -> T β) (κ1 : Unit -> T β) : T β := xz xd (xcp b0 n2 n3 n4 n5 l6 l7 g8 κ0 κ1) a1
theorem xjs {β γ : Type} (b0 : Bool) (n2 n3 n4 n5 : Nat) (l6 l7 : xh) (g8 : Geo) (a1 : Int) (κ0 : Unit -> T β) (κ1 : Unit -> T β) (κ : β -> T γ) : (Zh b0 n2 n3 n4 n5 l6 l7 g8 a1 κ0 κ1).bind κ = Zh b0 n2 n3 n4 n5 l6 l7 g8 a1 (fun u => (κ0 u).bind κ) (fun u => (κ1 u).bind κ) := by
 unfold Zh
 refine xn κ (fun i k => ?_) _ _
 unfold xcp
 first | rfl | (simp only [xa, xb, xe, xc, T.bind_assoc])
def xms : Pat := ⟨xu 110 0 [(0, .c (.raw (.ptr 0 0))), (3, .c (.raw (.ptr 3 0))), (4, .c (.bool)), (5, .c (.int .i64))], [some ⟨[.sl 1 0, .sl 2 0], 188, false, none⟩, some ⟨[], 34, false, some (.col .u64)⟩, some ⟨[], 5, false, some (.col .u8)⟩, some ⟨[.geo], 24, false, none⟩]⟩
def Yq : Pat := ⟨xu 110 0 [(0, .c (.raw (.ptr 0 0))), (3, .c (.raw (.ptr 3 0))), (4, .c (.bool))], [some ⟨[.sl 1 0, .sl 2 0], 188, false, none⟩, some ⟨[], 34, false, some (.col .u64)⟩, some ⟨[], 5, false, some (.col .u8)⟩, some ⟨[.geo], 24, false, none⟩]⟩
def xcq : St -> (Ex -> St -> T R) -> Option (T R) := fun st K => match xx xms st with
 | some [.b b0, .i a1, .n n2, .n n3, .n n4, .n n5, .l l6, .l l7, .g g8] => some (Zh b0 n2 n3 n4 n5 l6 l7 g8 a1 (fun _ => K (.ret) (xf Yq [.b false, .n n2, .n n3, .n n4, .n n5, .l l6, .l l7, .g g8])) (fun _ => K (.exit 0) (xf Yq [.b b0, .n n2, .n n3, .n n4, .n n5, .l l6, .l l7, .g g8])))
 | _ => none
theorem xtx : ∀ st K t, xcq st K = some t -> xF xd (lf kz0m xd 3 .no [1, 1, 0, 1, 0] Tryz.f29 K) st = t := by
 intro st K t h
 unfold xcq at h
 split at h
 ·rename_i b0 a1 n2 n3 n4 n5 l6 l7 g8 hm
  cases h
  rw [xp hm]
  exact cast (by kernel_rfl) (xy (F := lf kz0m xd 3 .no [1, 1, 0, 1, 0] Tryz.f29 K) (S := fun i => xf xms [.b b0, .i i, .n n2, .n n3, .n n4, .n n5, .l l6, .l l7, .g g8]) (B := xcp b0 n2 n3 n4 n5 l6 l7 g8 (fun _ => K (.ret) (xf Yq [.b false, .n n2, .n n3, .n n4, .n n5, .l l6, .l l7, .g g8])) (fun _ => K (.exit 0) (xf Yq [.b b0, .n n2, .n n3, .n n4, .n n5, .l l6, .l l7, .g g8]))) (fun i k => by kernel_rfl) xd a1)
 ·cases h
def xcr {β : Type} (b0 : Bool) (a1 a2 a3 a4 : Int) (n6 n7 n8 n9 : Nat) (l10 l11 : xh) (g12 : Geo) (κ0 : Unit -> T β) (κ1 : Unit -> T β) (i : Int) (k : Int -> T β) : T β :=
 bif decide (i < 8) then ((xE (decide (n7 = n6 /\ n9 = n8 /\ List.length l10 = n6 /\ List.length l11 = n8 /\ n6 <= 1000000 /\ n8 <= 1000000) && true)).bind fun r1 =>
 bif oz (atI l10 (atF g12 18 (inF (i64.wrap (a3 - 1)) i 8))) != 0 then (κ0 ()) else
 k (i64.wrap (i + 1))) else
 κ1 ()
def Zi {β : Type} (b0 : Bool) (a1 a2 a3 a4 : Int) (n6 n7 n8 n9 : Nat) (l10 l11 : xh) (g12 : Geo) (a5 : Int) (κ0 : Unit -> T β) (κ1 : Unit -> T β) : T β := xz xd (xcr b0 a1 a2 a3 a4 n6 n7 n8 n9 l10 l11 g12 κ0 κ1) a5
theorem xjt {β γ : Type} (b0 : Bool) (a1 a2 a3 a4 : Int) (n6 n7 n8 n9 : Nat) (l10 l11 : xh) (g12 : Geo) (a5 : Int) (κ0 : Unit -> T β) (κ1 : Unit -> T β) (κ : β -> T γ) : (Zi b0 a1 a2 a3 a4 n6 n7 n8 n9 l10 l11 g12 a5 κ0 κ1).bind κ = Zi b0 a1 a2 a3 a4 n6 n7 n8 n9 l10 l11 g12 a5 (fun u => (κ0 u).bind κ) (fun u => (κ1 u).bind κ) := by
 unfold Zi
 refine xn κ (fun i k => ?_) _ _
 unfold xcr
 first | rfl | (simp only [xa, xb, xe, xc, T.bind_assoc])
def xmt : Pat := ⟨xu 110 0 [(0, .c (.raw (.ptr 0 0))), (3, .c (.raw (.ptr 3 0))), (4, .c (.bool)), (6, .c (.int .i64)), (7, .c (.int .i64)), (8, .c (.int .i64)), (9, .c (.int .i64)), (10, .c (.int .i64))], [some ⟨[.sl 1 0, .sl 2 0], 188, false, none⟩, some ⟨[], 34, false, some (.col .u64)⟩, some ⟨[], 5, false, some (.col .u8)⟩, some ⟨[.geo], 24, false, none⟩]⟩
def ks : Pat := ⟨xu 110 0 [(0, .c (.raw (.ptr 0 0))), (3, .c (.raw (.ptr 3 0))), (4, .c (.bool)), (6, .c (.int .i64)), (7, .c (.int .i64)), (8, .c (.int .i64)), (9, .c (.int .i64))], [some ⟨[.sl 1 0, .sl 2 0], 188, false, none⟩, some ⟨[], 34, false, some (.col .u64)⟩, some ⟨[], 5, false, some (.col .u8)⟩, some ⟨[.geo], 24, false, none⟩]⟩
def wn : St -> (Ex -> St -> T R) -> Option (T R) := fun st K => match xx xmt st with
 | some [.b b0, .i a1, .i a2, .i a3, .i a4, .i a5, .n n6, .n n7, .n n8, .n n9, .l l10, .l l11, .g g12] => some (Zi b0 a1 a2 a3 a4 n6 n7 n8 n9 l10 l11 g12 a5 (fun _ => K (.ret) (xf ks [.b false, .i a1, .i a2, .i a3, .i a4, .n n6, .n n7, .n n8, .n n9, .l l10, .l l11, .g g12])) (fun _ => K (.exit 8) (xf ks [.b b0, .i a1, .i a2, .i a3, .i a4, .n n6, .n n7, .n n8, .n n9, .l l10, .l l11, .g g12])))
 | _ => none
theorem xty : ∀ st K t, wn st K = some t -> xF xd (lf kz0m xd 3 .no [1, 1, 1, 0, 1, 0, 0, 1, 0, 0, 1, 0, 0, 1, 0, 0, 1, 1, 1, 0, 0, 1, 0, 0, 0, 1, 0] Tryz.f29 K) st = t := by
 intro st K t h
 unfold wn at h
 split at h
 ·rename_i b0 a1 a2 a3 a4 a5 n6 n7 n8 n9 l10 l11 g12 hm
  cases h
  rw [xp hm]
  exact cast (by kernel_rfl) (xy (F := lf kz0m xd 3 .no [1, 1, 1, 0, 1, 0, 0, 1, 0, 0, 1, 0, 0, 1, 0, 0, 1, 1, 1, 0, 0, 1, 0, 0, 0, 1, 0] Tryz.f29 K) (S := fun i => xf xmt [.b b0, .i a1, .i a2, .i a3, .i a4, .i i, .n n6, .n n7, .n n8, .n n9, .l l10, .l l11, .g g12]) (B := xcr b0 a1 a2 a3 a4 n6 n7 n8 n9 l10 l11 g12 (fun _ => K (.ret) (xf ks [.b false, .i a1, .i a2, .i a3, .i a4, .n n6, .n n7, .n n8, .n n9, .l l10, .l l11, .g g12])) (fun _ => K (.exit 8) (xf ks [.b b0, .i a1, .i a2, .i a3, .i a4, .n n6, .n n7, .n n8, .n n9, .l l10, .l l11, .g g12]))) (fun i k => by kernel_rfl) xd a5)
 ·cases h
def xcs {β : Type} (b0 : Bool) (a1 a2 : Int) (n5 n6 n7 n8 : Nat) (l9 l10 : xh) (g11 : Geo) (κ0 : Unit -> T β) (κ1 : Unit -> T β) (i : Int × Int) (k : Int × Int -> T β) : T β :=
 bif i.1 != 0 then (Zi b0 a1 a2 (i.1) (i.2) n5 n6 n7 n8 l9 l10 g11 (0) (fun y1_0 =>
 κ0 ()) (fun y1_0 =>
 bif decide (i.2 > kE g11) then (κ0 ()) else
 (xE (decide (n6 = n5 /\ n8 = n7 /\ List.length l9 = n5 /\ List.length l10 = n7 /\ n5 <= 1000000 /\ n7 <= 1000000) && true)).bind fun r3 =>
 k (ofW i64 (oz (atI l9 (atF { pages := g11.pages, threads := g11.threads, b0 := g11.b0, b1 := g11.b1, b2 := g11.b2, b3 := g11.b3, b4 := g11.b4, b5 := g11.b5, b6 := g11.b6, b7 := g11.b7, b8 := g11.b8, b9 := g11.b9, b10 := g11.b10, b11 := g11.b11, b12 := g11.b12, b13 := g11.b13, b14 := g11.b14, b15 := g11.b15, b16 := g11.b16, b17 := g11.b17, b18 := g11.b18, b19 := g11.b19 } 17 (inF (i64.wrap (i.1 - 1)) 0 1)))) 0 24, i64.wrap (i.2 + 1)))) else
 κ1 ()
def Zj {β : Type} (b0 : Bool) (a1 a2 : Int) (n5 n6 n7 n8 : Nat) (l9 l10 : xh) (g11 : Geo) (a3 a4 : Int) (κ0 : Unit -> T β) (κ1 : Unit -> T β) : T β := xz xd (xcs b0 a1 a2 n5 n6 n7 n8 l9 l10 g11 κ0 κ1) (a3, a4)
theorem xju {β γ : Type} (b0 : Bool) (a1 a2 : Int) (n5 n6 n7 n8 : Nat) (l9 l10 : xh) (g11 : Geo) (a3 a4 : Int) (κ0 : Unit -> T β) (κ1 : Unit -> T β) (κ : β -> T γ) : (Zj b0 a1 a2 n5 n6 n7 n8 l9 l10 g11 a3 a4 κ0 κ1).bind κ = Zj b0 a1 a2 n5 n6 n7 n8 l9 l10 g11 a3 a4 (fun u => (κ0 u).bind κ) (fun u => (κ1 u).bind κ) := by
 unfold Zj
 refine xn κ (fun i k => ?_) _ _
 unfold xcs
 first | rfl | (simp only [xa, xb, xe, xc, T.bind_assoc, xjt])
def kt : Pat := ⟨xu 110 0 [(0, .c (.raw (.ptr 0 0))), (3, .c (.raw (.ptr 3 0))), (4, .c (.bool)), (6, .c (.int .i64)), (7, .c (.int .i64))], [some ⟨[.sl 1 0, .sl 2 0], 188, false, none⟩, some ⟨[], 34, false, some (.col .u64)⟩, some ⟨[], 5, false, some (.col .u8)⟩, some ⟨[.geo], 24, false, none⟩]⟩
def jo : St -> (Ex -> St -> T R) -> Option (T R) := fun st K => match xx ks st with
 | some [.b b0, .i a1, .i a2, .i a3, .i a4, .n n5, .n n6, .n n7, .n n8, .l l9, .l l10, .g g11] => some (Zj b0 a1 a2 n5 n6 n7 n8 l9 l10 g11 a3 a4 (fun _ => K (.ret) (xf kt [.b false, .i a1, .i a2, .n n5, .n n6, .n n7, .n n8, .l l9, .l l10, .g g11])) (fun _ => K (.exit 6) (xf kt [.b b0, .i a1, .i a2, .n n5, .n n6, .n n7, .n n8, .l l9, .l l10, .g g11])))
 | _ => none
theorem xtz : ∀ st K t, jo st K = some t -> xF xd (lf kz0m xd 3 (lsAt wn .no [1, 0, 0, 0, 1, 0]) [1, 1, 1, 0, 1, 0, 0, 1, 0, 0, 1, 0, 0, 1, 0, 0, 1, 1, 1, 0] Tryz.f29 K) st = t := by
 intro st K t h
 unfold jo at h
 split at h
 ·rename_i b0 a1 a2 a3 a4 n5 n6 n7 n8 l9 l10 g11 hm
  cases h
  rw [xp hm]
  exact cast (by kernel_rfl) (xy (F := lf kz0m xd 3 (lsAt wn .no [1, 0, 0, 0, 1, 0]) [1, 1, 1, 0, 1, 0, 0, 1, 0, 0, 1, 0, 0, 1, 0, 0, 1, 1, 1, 0] Tryz.f29 K) (S := fun i => xf ks [.b b0, .i a1, .i a2, .i (i.1), .i (i.2), .n n5, .n n6, .n n7, .n n8, .l l9, .l l10, .g g11]) (B := xcs b0 a1 a2 n5 n6 n7 n8 l9 l10 g11 (fun _ => K (.ret) (xf kt [.b false, .i a1, .i a2, .n n5, .n n6, .n n7, .n n8, .l l9, .l l10, .g g11])) (fun _ => K (.exit 6) (xf kt [.b b0, .i a1, .i a2, .n n5, .n n6, .n n7, .n n8, .l l9, .l l10, .g g11]))) (fun i k => by kernel_rfl) xd (a3, a4))
 ·cases h
def xct {β : Type} (b0 : Bool) (a1 : Int) (n3 n4 n5 n6 : Nat) (l7 l8 : xh) (g9 : Geo) (κ0 : Unit -> T β) (κ1 : Unit -> T β) (i : Int) (k : Int -> T β) : T β :=
 bif decide (i < 4) then ((xE (decide (n4 = n3 /\ n6 = n5 /\ List.length l7 = n3 /\ List.length l8 = n5 /\ n3 <= 1000000 /\ n5 <= 1000000) && true)).bind fun r1 =>
 bif oz (atI l7 (atF g9 12 (inF (inF a1 i 4) 0 2))) != 0 then (κ0 ()) else
 (xE (decide (n4 = n3 /\ n6 = n5 /\ List.length l7 = n3 /\ List.length l8 = n5 /\ n3 <= 1000000 /\ n5 <= 1000000) && true)).bind fun r3 =>
 bif oz (atI l7 (atF g9 12 (inF (inF a1 i 4) 1 2))) != 0 then (κ0 ()) else
 (xE (decide (n4 = n3 /\ n6 = n5 /\ List.length l7 = n3 /\ List.length l8 = n5 /\ n3 <= 1000000 /\ n5 <= 1000000) && true)).bind fun r5 =>
 Zj b0 a1 (i) n3 n4 n5 n6 l7 l8 g9 (ofW i64 (oz (atI l7 (atF g9 13 (inF a1 i 4)))) 0 24) (0) (fun y6_0 =>
 κ0 ()) (fun y6_0 =>
 k (i64.wrap (i + 1)))) else
 κ1 ()
def Zk {β : Type} (b0 : Bool) (a1 : Int) (n3 n4 n5 n6 : Nat) (l7 l8 : xh) (g9 : Geo) (a2 : Int) (κ0 : Unit -> T β) (κ1 : Unit -> T β) : T β := xz xd (xct b0 a1 n3 n4 n5 n6 l7 l8 g9 κ0 κ1) a2
theorem xjv {β γ : Type} (b0 : Bool) (a1 : Int) (n3 n4 n5 n6 : Nat) (l7 l8 : xh) (g9 : Geo) (a2 : Int) (κ0 : Unit -> T β) (κ1 : Unit -> T β) (κ : β -> T γ) : (Zk b0 a1 n3 n4 n5 n6 l7 l8 g9 a2 κ0 κ1).bind κ = Zk b0 a1 n3 n4 n5 n6 l7 l8 g9 a2 (fun u => (κ0 u).bind κ) (fun u => (κ1 u).bind κ) := by
 unfold Zk
 refine xn κ (fun i k => ?_) _ _
 unfold xct
 first | rfl | (simp only [xa, xb, xe, xc, T.bind_assoc, xju])
def ku : Pat := ⟨xu 110 0 [(0, .c (.raw (.ptr 0 0))), (3, .c (.raw (.ptr 3 0))), (4, .c (.bool)), (6, .c (.int .i64))], [some ⟨[.sl 1 0, .sl 2 0], 188, false, none⟩, some ⟨[], 34, false, some (.col .u64)⟩, some ⟨[], 5, false, some (.col .u8)⟩, some ⟨[.geo], 24, false, none⟩]⟩
def Yr : St -> (Ex -> St -> T R) -> Option (T R) := fun st K => match xx kt st with
 | some [.b b0, .i a1, .i a2, .n n3, .n n4, .n n5, .n n6, .l l7, .l l8, .g g9] => some (Zk b0 a1 n3 n4 n5 n6 l7 l8 g9 a2 (fun _ => K (.ret) (xf ku [.b false, .i a1, .n n3, .n n4, .n n5, .n n6, .l l7, .l l8, .g g9])) (fun _ => K (.exit 4) (xf ku [.b b0, .i a1, .n n3, .n n4, .n n5, .n n6, .l l7, .l l8, .g g9])))
 | _ => none
theorem xtA : ∀ st K t, Yr st K = some t -> xF xd (lf kz0m xd 3 (lsAt jo (lsAt wn .no [1, 0, 0, 0, 1, 0]) [1, 0, 0, 1, 1, 1, 0]) [1, 1, 1, 0, 1, 0, 0, 1, 0, 0, 1, 0] Tryz.f29 K) st = t := by
 intro st K t h
 unfold Yr at h
 split at h
 ·rename_i b0 a1 a2 n3 n4 n5 n6 l7 l8 g9 hm
  cases h
  rw [xp hm]
  exact cast (by kernel_rfl) (xy (F := lf kz0m xd 3 (lsAt jo (lsAt wn .no [1, 0, 0, 0, 1, 0]) [1, 0, 0, 1, 1, 1, 0]) [1, 1, 1, 0, 1, 0, 0, 1, 0, 0, 1, 0] Tryz.f29 K) (S := fun i => xf kt [.b b0, .i a1, .i i, .n n3, .n n4, .n n5, .n n6, .l l7, .l l8, .g g9]) (B := xct b0 a1 n3 n4 n5 n6 l7 l8 g9 (fun _ => K (.ret) (xf ku [.b false, .i a1, .n n3, .n n4, .n n5, .n n6, .l l7, .l l8, .g g9])) (fun _ => K (.exit 4) (xf ku [.b b0, .i a1, .n n3, .n n4, .n n5, .n n6, .l l7, .l l8, .g g9]))) (fun i k => by kernel_rfl) xd a2)
 ·cases h
def xcu {β : Type} (b0 : Bool) (n2 n3 n4 n5 : Nat) (l6 l7 : xh) (g8 : Geo) (κ0 : Unit -> T β) (κ1 : Unit -> T β) (i : Int) (k : Int -> T β) : T β :=
 bif decide (i < g8.threads) then (Zk b0 (i) n2 n3 n4 n5 l6 l7 g8 (0) (fun y1_0 =>
 κ0 ()) (fun y1_0 =>
 k (i64.wrap (i + 1)))) else
 κ1 ()
def wV {β : Type} (b0 : Bool) (n2 n3 n4 n5 : Nat) (l6 l7 : xh) (g8 : Geo) (a1 : Int) (κ0 : Unit -> T β) (κ1 : Unit -> T β) : T β := xz xd (xcu b0 n2 n3 n4 n5 l6 l7 g8 κ0 κ1) a1
theorem xjw {β γ : Type} (b0 : Bool) (n2 n3 n4 n5 : Nat) (l6 l7 : xh) (g8 : Geo) (a1 : Int) (κ0 : Unit -> T β) (κ1 : Unit -> T β) (κ : β -> T γ) : (wV b0 n2 n3 n4 n5 l6 l7 g8 a1 κ0 κ1).bind κ = wV b0 n2 n3 n4 n5 l6 l7 g8 a1 (fun u => (κ0 u).bind κ) (fun u => (κ1 u).bind κ) := by
 unfold wV
 refine xn κ (fun i k => ?_) _ _
 unfold xcu
 first | rfl | (simp only [xa, xb, xe, xc, T.bind_assoc, xjv])
def Ys : Pat := ⟨xu 110 0 [(4, .c (.bool))], [some ⟨[.sl 1 0, .sl 2 0], 188, false, none⟩, some ⟨[], 34, false, some (.col .u64)⟩, some ⟨[], 5, false, some (.col .u8)⟩]⟩
def xcv : St -> (Ex -> St -> T R) -> Option (T R) := fun st K => match xx ku st with
 | some [.b b0, .i a1, .n n2, .n n3, .n n4, .n n5, .l l6, .l l7, .g g8] => some (wV b0 n2 n3 n4 n5 l6 l7 g8 a1 (fun _ => K (.ret) (xf Ys [.b false, .n n2, .n n3, .n n4, .n n5, .l l6, .l l7])) (fun _ => K (.exit 2) (xf Ys [.b b0, .n n2, .n n3, .n n4, .n n5, .l l6, .l l7])))
 | _ => none
theorem xtB : ∀ st K t, xcv st K = some t -> xF xd (lf kz0m xd 3 (lsAt Yr (lsAt jo (lsAt wn .no [1, 0, 0, 0, 1, 0]) [1, 0, 0, 1, 1, 1, 0]) [1, 0, 0, 1, 0]) [1, 1, 1, 0, 1, 0] Tryz.f29 K) st = t := by
 intro st K t h
 unfold xcv at h
 split at h
 ·rename_i b0 a1 n2 n3 n4 n5 l6 l7 g8 hm
  cases h
  rw [xp hm]
  exact cast (by kernel_rfl) (xy (F := lf kz0m xd 3 (lsAt Yr (lsAt jo (lsAt wn .no [1, 0, 0, 0, 1, 0]) [1, 0, 0, 1, 1, 1, 0]) [1, 0, 0, 1, 0]) [1, 1, 1, 0, 1, 0] Tryz.f29 K) (S := fun i => xf ku [.b b0, .i i, .n n2, .n n3, .n n4, .n n5, .l l6, .l l7, .g g8]) (B := xcu b0 n2 n3 n4 n5 l6 l7 g8 (fun _ => K (.ret) (xf Ys [.b false, .n n2, .n n3, .n n4, .n n5, .l l6, .l l7])) (fun _ => K (.exit 2) (xf Ys [.b b0, .n n2, .n n3, .n n4, .n n5, .l l6, .l l7]))) (fun i k => by kernel_rfl) xd a1)
 ·cases h
def xpS {β : Type} (g : Geo) (x x2 y y2 : Nat) (W B : xh) (κ : Bool -> T β) : T β :=
 (xE (decide (x2 = x /\ y2 = y /\ List.length W = x /\ List.length B = y /\ x <= 1000000 /\ y <= 1000000) && true)).bind fun r0 =>
 bif !(ofW i64 (oz (atI W (atF g 7 0))) 0 3 == 1 && (ofW i64 (oz (atI W (atF g 7 0))) 3 10 == g.pages && (ofW i64 (oz (atI W (atF g 7 0))) 13 2 == 0 && (ofW i64 (oz (atI W (atF g 7 0))) 16 7 == 0 && true)))) then (κ (false)) else
 (xE (decide (x2 = x /\ y2 = y /\ List.length W = x /\ List.length B = y /\ x <= 1000000 /\ y <= 1000000) && true)).bind fun r2 =>
 bif oz (atI W (atF g 0 0)) != 0 then (κ (false)) else
 Zh (false) (x) x2 (y) y2 (W) (B) (g) (0) (fun y4_0 =>
 κ (false)) (fun y4_0 =>
 wV (false) (x) x2 (y) y2 (W) (B) (g) (0) (fun y5_0 =>
 κ (false)) (fun y5_0 =>
 κ (true)))
def whoT (g : Geo) (x x2 y y2 : Nat) (W B : xh) : T Bool := xpS g x x2 y y2 W B .ret
theorem xrR {β : Type} (g : Geo) (x x2 y y2 : Nat) (W B : xh) (κ : Bool -> T β) : (whoT g x x2 y y2 W B).bind κ = xpS g x x2 y y2 W B κ := by
 unfold whoT xpS
 first | rfl | (simp only [xa, xb, xe, xc, T.bind_assoc, xjs, xjw])
def xo2 : Sm := fun args H => match args, H with
 | [.c (.ptr 0 0), .agg gc], [some ⟨[.sl 1 0 x x2, .sl 2 0 y y2], 188, false, none⟩, some ⟨[], 34, false, some (.col .u64 W)⟩, some ⟨[], 5, false, some (.col .u8 B)⟩] => (match xr gc with
   | some g => some (mkS (Bool) (whoT g x x2 y y2 W B) fun r => some (.c (.bool r), [some ⟨[.sl 1 0 x x2, .sl 2 0 y y2], 188, false, none⟩, some ⟨[], 34, false, some (.col .u64 W)⟩, some ⟨[], 5, false, some (.col .u8 B)⟩]))
   | _ => none)
 | _, _ => none
theorem xrS : Good Tryz.prog (xw kz0m) xd 3 (mrg (lsAt xcq .no [1, 1, 0, 1, 0]) (lsAt xcv (lsAt Yr (lsAt jo (lsAt wn .no [1, 0, 0, 0, 1, 0]) [1, 0, 0, 1, 1, 1, 0]) [1, 0, 0, 1, 0]) [1, 1, 1, 0, 1, 0])) (Tryz.f29.body.getD .skip) (xC Tryz.f29.results.toList) := (yp (xL (xo (by kernel_rfl)) xK xtx) (xL (xo (by kernel_rfl)) (vu (p := [1, 1, 1, 0, 1, 0]) (q := [1, 0, 0, 1, 0]) (xo (fn := Tryz.f29) (by kernel_rfl)) (vu (p := [1, 1, 1, 0, 1, 0, 0, 1, 0, 0, 1, 0]) (q := [1, 0, 0, 1, 1, 1, 0]) (xo (fn := Tryz.f29) (by kernel_rfl)) (vu (p := [1, 1, 1, 0, 1, 0, 0, 1, 0, 0, 1, 0, 0, 1, 0, 0, 1, 1, 1, 0]) (q := [1, 0, 0, 0, 1, 0]) (xo (fn := Tryz.f29) (by kernel_rfl)) xK xty (by kernel_rfl)) xtz (by kernel_rfl)) xtA (by kernel_rfl)) xtB))
variable {σ : Type} {I : Port Tryz.prog σ}
theorem xtC (hl : SoundL I kz0m) : SoundF I 29 xo2 := by
 refine sq hl xd Tryz.func29 fun args H t ht => ?_
 unfold xo2 at ht
 split at ht
 ·rename_i gc x x2 y y2 W B
  split at ht
  ·rename_i g hg
   obtain rfl := xi hg
   cases ht
   refine (xP (P := Tryz.prog) (n := xd) (x := (mrg (lsAt xcq .no [1, 1, 0, 1, 0]) (lsAt xcv (lsAt Yr (lsAt jo (lsAt wn .no [1, 0, 0, 0, 1, 0]) [1, 0, 0, 1, 1, 1, 0]) [1, 0, 0, 1, 0]) [1, 1, 1, 0, 1, 0]))) (fn := Tryz.f29) (H := [some ⟨[.sl 1 0 x x2, .sl 2 0 y y2], 188, false, none⟩, some ⟨[], 34, false, some (.col .u64 W)⟩, some ⟨[], 5, false, some (.col .u8 B)⟩]) (c := Tryz.f29.body.getD .skip) (xo (by kernel_rfl)) xrS).symm.trans ?_
   refine Eq.trans ?_ (xrR g x x2 y y2 W B _).symm
   kernel_rfl
  ·cases ht
 ·cases ht
noncomputable def kh1 : List (Nat × Sm) := (29, xo2) :: kz0m
theorem s_kh1 : SoundL NP kh1 := (.cons (xtC xtr) xtr)
end Go.Proofs.YtaegelbaghaooaaGreat.Lx
