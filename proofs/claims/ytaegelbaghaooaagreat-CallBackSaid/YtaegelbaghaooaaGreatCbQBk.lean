/- Part. -/
import Derived.Test.YtaegelbaghaooaaGreatCbQKg
set_option linter.all false
open Go.IntKind (i64 u64 u32 u8)
namespace Go.Proofs.YtaegelbaghaooaaGreat.Lx
variable{β:Type}(g:Geo)
open Go
noncomputable section
set_option maxRecDepth 1000000
def xsI(b0:Bool)(a1 a2:Int)(n3 n5:Nat)(q6:RowsL)(g7:Geo)(n8 n9 n10 n11:Nat)(l12 l13:IntsL)(q14:RowsL)(κ0:RowsL->T β)(i:Int×RowsL)(k:Int×RowsL->T β):T β:=
 bif decide (i.1 < ↑n3)then(bif decide ((0:Int)<=i.1/\i.1 < ↑n3)then(bif inR (List.length q14) i.1 then(bif decide ((0:Int)<=i.1/\i.1 < ↑n3)then(bif inR (List.length q14) i.1 then(bif getI (getR q14 (Int.toNat i.1)) 21==0 then(bif getI (getR q14 (Int.toNat i.1)) 1==4 then(bif decide ((0:Int)<=i.1/\i.1 < ↑n3)then(bif inR (List.length q14) i.1 then(bif in64 (getI (getR q14 (Int.toNat i.1)) 5)then(bif decide ((0:Int)<=i.1/\i.1 < ↑n3)then(bif inR (List.length q14) i.1 then(bif getI (getR q14 (Int.toNat i.1)) 21==0 then(bif decide (getI (getR q14 (Int.toNat i.1)) 1>=1)then(bif decide (getI (getR q14 (Int.toNat i.1)) 1<=4)then(bif decide ((0:Int)<=i.1/\i.1 < ↑n3)then(bif inR (List.length q14) i.1 then(bif in64 (getI (getR q14 (Int.toNat i.1)) 13)&&Nat.ble (List.length (mdel (getI (getR q14 (Int.toNat i.1)) 5) i.2)) 1000000 then(k (i64.wrap (i.1+1),mput (getI (getR q14 (Int.toNat i.1)) 13) [1] (mdel (getI (getR q14 (Int.toNat i.1)) 5) i.2))) else
 .fail) else
 .fail) else
 .fail) else
 k (i64.wrap (i.1+1),mdel (getI (getR q14 (Int.toNat i.1)) 5) i.2)) else
 k (i64.wrap (i.1+1),mdel (getI (getR q14 (Int.toNat i.1)) 5) i.2)) else
 k (i64.wrap (i.1+1),mdel (getI (getR q14 (Int.toNat i.1)) 5) i.2)) else
 .fail) else
 .fail) else
 .fail) else
 .fail) else
 .fail) else
 bif getI (getR q14 (Int.toNat i.1)) 1==5 then(bif decide ((0:Int)<=i.1/\i.1 < ↑n3)then(bif inR (List.length q14) i.1 then(bif in64 (getI (getR q14 (Int.toNat i.1)) 5)then(bif decide ((0:Int)<=i.1/\i.1 < ↑n3)then(bif inR (List.length q14) i.1 then(bif getI (getR q14 (Int.toNat i.1)) 21==0 then(bif decide (getI (getR q14 (Int.toNat i.1)) 1>=1)then(bif decide (getI (getR q14 (Int.toNat i.1)) 1<=4)then(bif decide ((0:Int)<=i.1/\i.1 < ↑n3)then(bif inR (List.length q14) i.1 then(bif in64 (getI (getR q14 (Int.toNat i.1)) 13)&&Nat.ble (List.length (mdel (getI (getR q14 (Int.toNat i.1)) 5) i.2)) 1000000 then(k (i64.wrap (i.1+1),mput (getI (getR q14 (Int.toNat i.1)) 13) [1] (mdel (getI (getR q14 (Int.toNat i.1)) 5) i.2))) else
 .fail) else
 .fail) else
 .fail) else
 k (i64.wrap (i.1+1),mdel (getI (getR q14 (Int.toNat i.1)) 5) i.2)) else
 k (i64.wrap (i.1+1),mdel (getI (getR q14 (Int.toNat i.1)) 5) i.2)) else
 k (i64.wrap (i.1+1),mdel (getI (getR q14 (Int.toNat i.1)) 5) i.2)) else
 .fail) else
 .fail) else
 .fail) else
 .fail) else
 .fail) else
 bif decide ((0:Int)<=i.1/\i.1 < ↑n3)then(bif inR (List.length q14) i.1 then(bif getI (getR q14 (Int.toNat i.1)) 21==0 then(bif decide (getI (getR q14 (Int.toNat i.1)) 1>=1)then(bif decide (getI (getR q14 (Int.toNat i.1)) 1<=4)then(bif decide ((0:Int)<=i.1/\i.1 < ↑n3)then(bif inR (List.length q14) i.1 then(bif in64 (getI (getR q14 (Int.toNat i.1)) 13)&&Nat.ble (List.length i.2) 1000000 then(k (i64.wrap (i.1+1),mput (getI (getR q14 (Int.toNat i.1)) 13) [1] i.2)) else
 .fail) else
 .fail) else
 .fail) else
 k (i64.wrap (i.1+1),i.2)) else
 k (i64.wrap (i.1+1),i.2)) else
 k (i64.wrap (i.1+1),i.2)) else
 .fail) else
 .fail) else
 bif decide ((0:Int)<=i.1/\i.1 < ↑n3)then(bif inR (List.length q14) i.1 then(bif getI (getR q14 (Int.toNat i.1)) 21==0 then(bif decide (getI (getR q14 (Int.toNat i.1)) 1>=1)then(bif decide (getI (getR q14 (Int.toNat i.1)) 1<=4)then(bif decide ((0:Int)<=i.1/\i.1 < ↑n3)then(bif inR (List.length q14) i.1 then(bif in64 (getI (getR q14 (Int.toNat i.1)) 13)&&Nat.ble (List.length i.2) 1000000 then(k (i64.wrap (i.1+1),mput (getI (getR q14 (Int.toNat i.1)) 13) [1] i.2)) else
 .fail) else
 .fail) else
 .fail) else
 k (i64.wrap (i.1+1),i.2)) else
 k (i64.wrap (i.1+1),i.2)) else
 k (i64.wrap (i.1+1),i.2)) else
 .fail) else
 .fail) else
 .fail) else
 .fail) else
 .fail) else
 .fail) else
 κ0 (i.2)
def Xt(b0:Bool)(a1 a2:Int)(n3 n5:Nat)(q6:RowsL)(g7:Geo)(n8 n9 n10 n11:Nat)(l12 l13:IntsL)(q14:RowsL)(a4:Int)(q15:RowsL)(κ0:RowsL->T β):T β:=xr xa (xsI b0 a1 a2 n3 n5 q6 g7 n8 n9 n10 n11 l12 l13 q14 κ0) (a4,q15)
theorem xpr{β γ:Type}(b0:Bool)(a1 a2:Int)(n3 n5:Nat)(q6:RowsL)(g7:Geo)(n8 n9 n10 n11:Nat)(l12 l13:IntsL)(q14:RowsL)(a4:Int)(q15:RowsL)(κ0:RowsL->T β)(κ:β->T γ):(Xt b0 a1 a2 n3 n5 q6 g7 n8 n9 n10 n11 l12 l13 q14 a4 q15 κ0).bind κ=Xt b0 a1 a2 n3 n5 q6 g7 n8 n9 n10 n11 l12 l13 q14 a4 q15 (fun qe12=>(κ0 qe12).bind κ):=by
 unfold Xt
 refine xj κ (fun i k =>?_) _ _
 unfold xsI
 simp only[bz]
def xtL:Pat:=⟨xm 201 0 [(6,.c (.bool)),(7,.c (.int .i64)),(8,.c (.int .i64)),(9,.c (.raw (.ptr 1 0))),(10,.c (.raw (.ptr 2 0))),(11,.c (.slr 5)),(13,.c (.raw (.mp 6))),(14,.c (.int .i64))],[some ⟨[],116,false,some (.wrows [.int .u8,.int .u8,.int .u8,.int .i64,.int .i64,.int .i64,.int .i64,.int .i64,.int .u8])⟩,some ⟨[.geo],24,false,none⟩,some ⟨[.sl 3 0,.sl 4 0],188,false,none⟩,some ⟨[],34,false,some (.col .u64)⟩,some ⟨[],5,false,some (.col .u8)⟩,some ⟨[],108,true,some (.rows ek)⟩,some ⟨[],112,false,some (.imap false [.int .i64])⟩]⟩
def xxZ:Pat:=⟨xm 201 0 [(6,.c (.bool)),(7,.c (.int .i64)),(8,.c (.int .i64)),(9,.c (.raw (.ptr 1 0))),(10,.c (.raw (.ptr 2 0))),(13,.c (.raw (.mp 5)))],[some ⟨[],116,false,some (.wrows [.int .u8,.int .u8,.int .u8,.int .i64,.int .i64,.int .i64,.int .i64,.int .i64,.int .u8])⟩,some ⟨[.geo],24,false,none⟩,some ⟨[.sl 3 0,.sl 4 0],188,false,none⟩,some ⟨[],34,false,some (.col .u64)⟩,some ⟨[],5,false,some (.col .u8)⟩,some ⟨[],112,false,some (.imap false [.int .i64])⟩]⟩
def xlM:LF:=fun st K=>match xq xtL st with
 | some [.b b0,.i a1,.i a2,.n n3,.i a4,.n n5,.r q6,.g g7,.n n8,.n n9,.n n10,.n n11,.l l12,.l l13,.r q14,.r q15]=>some (Xt b0 a1 a2 n3 n5 q6 g7 n8 n9 n10 n11 l12 l13 q14 a4 q15 (fun qe12=>K (.exit 0) (xd xxZ [.b b0,.i a1,.i a2,.n n5,.r q6,.g g7,.n n8,.n n9,.n n10,.n n11,.l l12,.l l13,.r qe12])))
 | _=>none
theorem bkT_0Ok : ∀st K t,xlM st K=some t->xA xa (lf kx0 (⟨xa,[],true⟩:Fu) 1 .no [1,1,1,1,1,1,1,1,0,1,0] Tryz.f14 K) st=t:=by
 intro st K t h
 unfold xlM at h
 split at h
 ·rename_i b0 a1 a2 n3 a4 n5 q6 g7 n8 n9 n10 n11 l12 l13 q14 q15 hm
  cases h
  rw[xk hm]
  unfold Xt
  exact xu (S:=fun(i:Int×RowsL)=>xd xtL [.b b0,.i a1,.i a2,.n n3,.i (i.1),.n n5,.r q6,.g g7,.n n8,.n n9,.n n10,.n n11,.l l12,.l l13,.r q14,.r (i.2)]) (fun i k=>by kernel_rfl) xa (a4,q15)
 ·cases h
def xsJ(b0:Bool)(a1 a2:Int)(n4:Nat)(q5:RowsL)(g6:Geo)(q13:RowsL)(κ0:Nat->Nat->Nat->Nat->IntsL->IntsL->T β)(κ1:Nat->Nat->Nat->Nat->IntsL->IntsL->T β)(i:Int×Nat×Nat×Nat×Nat×IntsL×IntsL)(k:Int×Nat×Nat×Nat×Nat×IntsL×IntsL->T β):T β:=
 bif decide (i.1<i64.wrap (64*a1))then(bif !a2==0 then((vR (okS i.2.2.1 i.2.1 i.2.2.2.2.1 i.2.2.2.1 i.2.2.2.2.2.1 i.2.2.2.2.2.2) (doT g6 (Cal.mk 5 0 0 0 i.1 0 0)) (DS.mk (Mem.mk i.2.2.2.2.2.1 i.2.2.2.2.2.2) (Int.tmod i.1 a2) 0 none)).bind fun r2=>
 bif in64 i.1 then(bif !(r2.fst.e==0)==decide (getI (vW i.1 q13 [0]) 0>0)then(κ0 (List.length r2.snd.snd.m.1) (List.length r2.snd.snd.m.1) (List.length r2.snd.snd.m.2) (List.length r2.snd.snd.m.2) (r2.snd.snd.m.1) (r2.snd.snd.m.2)) else
 k (i64.wrap (i.1+8),List.length r2.snd.snd.m.1,List.length r2.snd.snd.m.1,List.length r2.snd.snd.m.2,List.length r2.snd.snd.m.2,r2.snd.snd.m.1,r2.snd.snd.m.2)) else
 .fail) else
 .fail) else
 κ1 (i.2.1) (i.2.2.1) (i.2.2.2.1) (i.2.2.2.2.1) (i.2.2.2.2.2.1) (i.2.2.2.2.2.2)
def Xu(b0:Bool)(a1 a2:Int)(n4:Nat)(q5:RowsL)(g6:Geo)(q13:RowsL)(a3:Int)(n7 n8 n9 n10:Nat)(l11 l12:IntsL)(κ0:Nat->Nat->Nat->Nat->IntsL->IntsL->T β)(κ1:Nat->Nat->Nat->Nat->IntsL->IntsL->T β):T β:=xr xa (xsJ b0 a1 a2 n4 q5 g6 q13 κ0 κ1) (a3,n7,n8,n9,n10,l11,l12)
theorem xps{β γ:Type}(b0:Bool)(a1 a2:Int)(n4:Nat)(q5:RowsL)(g6:Geo)(q13:RowsL)(a3:Int)(n7 n8 n9 n10:Nat)(l11 l12:IntsL)(κ0:Nat->Nat->Nat->Nat->IntsL->IntsL->T β)(κ1:Nat->Nat->Nat->Nat->IntsL->IntsL->T β)(κ:β->T γ):(Xu b0 a1 a2 n4 q5 g6 q13 a3 n7 n8 n9 n10 l11 l12 κ0 κ1).bind κ=Xu b0 a1 a2 n4 q5 g6 q13 a3 n7 n8 n9 n10 l11 l12 (fun ne6 ne7 ne8 ne9 le10 le11=>(κ0 ne6 ne7 ne8 ne9 le10 le11).bind κ) (fun ne6 ne7 ne8 ne9 le10 le11=>(κ1 ne6 ne7 ne8 ne9 le10 le11).bind κ):=by
 unfold Xu
 refine xj κ (fun i k =>?_) _ _
 unfold xsJ
 simp only[bz]
def xtM:Pat:=⟨xm 201 0 [(6,.c (.bool)),(7,.c (.int .i64)),(8,.c (.int .i64)),(9,.c (.raw (.ptr 1 0))),(10,.c (.raw (.ptr 2 0))),(13,.c (.raw (.mp 5))),(16,.c (.int .i64))],[some ⟨[],116,false,some (.wrows [.int .u8,.int .u8,.int .u8,.int .i64,.int .i64,.int .i64,.int .i64,.int .i64,.int .u8])⟩,some ⟨[.geo],24,false,none⟩,some ⟨[.sl 3 0,.sl 4 0],188,false,none⟩,some ⟨[],34,false,some (.col .u64)⟩,some ⟨[],5,false,some (.col .u8)⟩,some ⟨[],112,false,some (.imap false [.int .i64])⟩]⟩
def xgv:Pat:=⟨xm 201 0 [(6,.c (.bool)),(7,.c (.int .i64)),(8,.c (.int .i64)),(9,.c (.raw (.ptr 1 0))),(10,.c (.raw (.ptr 2 0)))],[some ⟨[],116,false,some (.wrows [.int .u8,.int .u8,.int .u8,.int .i64,.int .i64,.int .i64,.int .i64,.int .i64,.int .u8])⟩,some ⟨[.geo],24,false,none⟩,some ⟨[.sl 3 0,.sl 4 0],188,false,none⟩,some ⟨[],34,false,some (.col .u64)⟩,some ⟨[],5,false,some (.col .u8)⟩]⟩
def xlN:LF:=fun st K=>match xq xtM st with
 | some [.b b0,.i a1,.i a2,.i a3,.n n4,.r q5,.g g6,.n n7,.n n8,.n n9,.n n10,.l l11,.l l12,.r q13]=>some (Xu b0 a1 a2 n4 q5 g6 q13 a3 n7 n8 n9 n10 l11 l12 (fun ne6 ne7 ne8 ne9 le10 le11=>K (.ret) (xd xgv [.b false,.i a1,.i a2,.n n4,.r q5,.g g6,.n ne6,.n ne7,.n ne8,.n ne9,.l le10,.l le11])) (fun ne6 ne7 ne8 ne9 le10 le11=>K (.exit 2) (xd xgv [.b b0,.i a1,.i a2,.n n4,.r q5,.g g6,.n ne6,.n ne7,.n ne8,.n ne9,.l le10,.l le11])))
 | _=>none
theorem bkT_1Ok : ∀st K t,xlN st K=some t->xA xa (lf kx0 (⟨xa,[],true⟩:Fu) 1 .no [1,1,1,1,1,1,1,1,1,0,1,0] Tryz.f14 K) st=t:=by
 intro st K t h
 unfold xlN at h
 split at h
 ·rename_i b0 a1 a2 a3 n4 q5 g6 n7 n8 n9 n10 l11 l12 q13 hm
  cases h
  rw[xk hm]
  unfold Xu
  exact xu (S:=fun(i:Int×Nat×Nat×Nat×Nat×IntsL×IntsL)=>xd xtM [.b b0,.i a1,.i a2,.i (i.1),.n n4,.r q5,.g g6,.n (i.2.1),.n (i.2.2.1),.n (i.2.2.2.1),.n (i.2.2.2.2.1),.l (i.2.2.2.2.2.1),.l (i.2.2.2.2.2.2),.r q13]) (fun i k=>by kernel_rfl) xa (a3,n7,n8,n9,n10,l11,l12)
 ·cases h
def xsK(b0:Bool)(a1 a2:Int)(n4:Nat)(q5:RowsL)(g6:Geo)(κ0:Nat->Nat->Nat->Nat->IntsL->IntsL->T β)(i:Int×Nat×Nat×Nat×Nat×IntsL×IntsL)(k:Int×Nat×Nat×Nat×Nat×IntsL×IntsL->T β):T β:=
 bif decide (i.1<a2)then((vR (okS i.2.2.1 i.2.1 i.2.2.2.2.1 i.2.2.2.1 i.2.2.2.2.2.1 i.2.2.2.2.2.2) (doT g6 (Cal.mk 9 0 0 0 0 0 0)) (DS.mk (Mem.mk i.2.2.2.2.2.1 i.2.2.2.2.2.2) i.1 0 none)).bind fun r1=>
 k (i64.wrap (i.1+1),List.length r1.snd.snd.m.1,List.length r1.snd.snd.m.1,List.length r1.snd.snd.m.2,List.length r1.snd.snd.m.2,r1.snd.snd.m.1,r1.snd.snd.m.2)) else
 κ0 (i.2.1) (i.2.2.1) (i.2.2.2.1) (i.2.2.2.2.1) (i.2.2.2.2.2.1) (i.2.2.2.2.2.2)
def Xv(b0:Bool)(a1 a2:Int)(n4:Nat)(q5:RowsL)(g6:Geo)(a3:Int)(n7 n8 n9 n10:Nat)(l11 l12:IntsL)(κ0:Nat->Nat->Nat->Nat->IntsL->IntsL->T β):T β:=xr xa (xsK b0 a1 a2 n4 q5 g6 κ0) (a3,n7,n8,n9,n10,l11,l12)
theorem xpt{β γ:Type}(b0:Bool)(a1 a2:Int)(n4:Nat)(q5:RowsL)(g6:Geo)(a3:Int)(n7 n8 n9 n10:Nat)(l11 l12:IntsL)(κ0:Nat->Nat->Nat->Nat->IntsL->IntsL->T β)(κ:β->T γ):(Xv b0 a1 a2 n4 q5 g6 a3 n7 n8 n9 n10 l11 l12 κ0).bind κ=Xv b0 a1 a2 n4 q5 g6 a3 n7 n8 n9 n10 l11 l12 (fun ne6 ne7 ne8 ne9 le10 le11=>(κ0 ne6 ne7 ne8 ne9 le10 le11).bind κ):=by
 unfold Xv
 refine xj κ (fun i k =>?_) _ _
 unfold xsK
 simp only[bz]
def xtN:Pat:=⟨xm 201 0 [(6,.c (.bool)),(7,.c (.int .i64)),(8,.c (.int .i64)),(9,.c (.raw (.ptr 1 0))),(10,.c (.raw (.ptr 2 0))),(18,.c (.int .i64))],[some ⟨[],116,false,some (.wrows [.int .u8,.int .u8,.int .u8,.int .i64,.int .i64,.int .i64,.int .i64,.int .i64,.int .u8])⟩,some ⟨[.geo],24,false,none⟩,some ⟨[.sl 3 0,.sl 4 0],188,false,none⟩,some ⟨[],34,false,some (.col .u64)⟩,some ⟨[],5,false,some (.col .u8)⟩]⟩
def xlO:LF:=fun st K=>match xq xtN st with
 | some [.b b0,.i a1,.i a2,.i a3,.n n4,.r q5,.g g6,.n n7,.n n8,.n n9,.n n10,.l l11,.l l12]=>some (Xv b0 a1 a2 n4 q5 g6 a3 n7 n8 n9 n10 l11 l12 (fun ne6 ne7 ne8 ne9 le10 le11=>K (.exit 4) (xd xgv [.b b0,.i a1,.i a2,.n n4,.r q5,.g g6,.n ne6,.n ne7,.n ne8,.n ne9,.l le10,.l le11])))
 | _=>none
theorem bkT_2Ok : ∀st K t,xlO st K=some t->xA xa (lf kx0 (⟨xa,[],true⟩:Fu) 1 .no [1,1,1,1,1,1,1,1,1,1,0,1,0] Tryz.f14 K) st=t:=by
 intro st K t h
 unfold xlO at h
 split at h
 ·rename_i b0 a1 a2 a3 n4 q5 g6 n7 n8 n9 n10 l11 l12 hm
  cases h
  rw[xk hm]
  unfold Xv
  exact xu (S:=fun(i:Int×Nat×Nat×Nat×Nat×IntsL×IntsL)=>xd xtN [.b b0,.i a1,.i a2,.i (i.1),.n n4,.r q5,.g g6,.n (i.2.1),.n (i.2.2.1),.n (i.2.2.2.1),.n (i.2.2.2.2.1),.l (i.2.2.2.2.2.1),.l (i.2.2.2.2.2.2)]) (fun i k=>by kernel_rfl) xa (a3,n7,n8,n9,n10,l11,l12)
 ·cases h
def bkTK(pages threads:Int)(o:Nat)(z:Xi)(n c q:Nat)(L:RowsL)(κ:Bool->T β):T β:=
 bif decide (↑n>(30:Int))then(κ (true)) else
 (newT (i64.wrap (i64.wrap (Int.tmod pages 10)+1)) (i64.wrap (i64.wrap (Int.tmod threads 4)+1))).bind fun r1=>
 (yr (decide (0<=r1.1.b19/\r1.1.b19<=1000000/\0<=i64.wrap (64*r1.1.pages)/\i64.wrap (64*r1.1.pages)<=1000000))).bind fun r2=>
 (vN (okS (Int.toNat r1.1.b19) (Int.toNat r1.1.b19) (Int.toNat (i64.wrap (64*r1.1.pages))) (Int.toNat (i64.wrap (64*r1.1.pages))) (List.replicate (Int.toNat r1.1.b19) 0) (List.replicate (Int.toNat (i64.wrap (64*r1.1.pages))) 0)) (ZF r1.1) (DS.mk (Mem.mk (List.replicate (Int.toNat r1.1.b19) 0) (List.replicate (Int.toNat (i64.wrap (64*r1.1.pages))) 0)) 0 0 none)).bind fun r3=>
 (vN (okM r3.snd.m) (ZH r1.1) (DS.mk r3.snd.m r3.snd.self r3.snd.steps none)).bind fun r4=>
 (serT r1.1 (List.length r4.snd.m.1) (List.length r4.snd.m.1) (List.length r4.snd.m.2) (List.length r4.snd.m.2) r4.snd.m.1 r4.snd.m.2 o z n c q L).bind fun r5=>
 Xt (false) (i64.wrap (i64.wrap (Int.tmod pages 10)+1)) (i64.wrap (i64.wrap (Int.tmod threads 4)+1)) (r5.n) (q) (L) (r1.1) (r5.x) (r5.x2) (r5.y) (r5.y2) (r5.8) (r5.9) (r5.2) (0) ([]) (fun y6_0=>
 Xu (false) (i64.wrap (i64.wrap (Int.tmod pages 10)+1)) (i64.wrap (i64.wrap (Int.tmod threads 4)+1)) (q) (L) (r1.1) y6_0 (0) (r5.x) (r5.x2) (r5.y) (r5.y2) (r5.8) (r5.9) (fun y7_0 y7_1 y7_2 y7_3 y7_4 y7_5=>
 κ (false)) (fun y7_0 y7_1 y7_2 y7_3 y7_4 y7_5=>
 Xv (false) (i64.wrap (i64.wrap (Int.tmod pages 10)+1)) (i64.wrap (i64.wrap (Int.tmod threads 4)+1)) (q) (L) (r1.1) (0) y7_0 y7_1 y7_2 y7_3 y7_4 y7_5 (fun y8_0 y8_1 y8_2 y8_3 y8_4 y8_5=>
 (vR (okS y8_1 y8_0 y8_3 y8_2 y8_4 y8_5) (doT r1.1 (Cal.mk 10 0 0 0 0 0 0)) (DS.mk (Mem.mk y8_4 y8_5) 0 0 none)).bind fun r9=>
 (vR (okM r9.snd.snd.m) (doT r1.1 (Cal.mk 11 0 0 0 0 0 0)) (DS.mk r9.snd.snd.m 0 0 none)).bind fun r10=>
 (vR (okM r10.snd.snd.m) (doT r1.1 (Cal.mk 1 (i64.wrap (64*i64.wrap (i64.wrap (Int.tmod pages 10)+1))) 0 0 0 0 0)) (DS.mk r10.snd.snd.m (i64.wrap (i64.wrap (i64.wrap (Int.tmod threads 4)+1)-1)) 0 none)).bind fun r11=>
 bif r9.fst.e==0 then(bif r10.fst.c4==0 then(bif r10.fst.c5==0 then(bif r10.fst.c1==r10.fst.c2 then(bif r11.fst.e==0 then(bif r11.fst.at_==0 then(bif r11.fst.n==i64.wrap (64*i64.wrap (i64.wrap (Int.tmod pages 10)+1))then(κ (true)) else
 κ (false)) else
 κ (false)) else
 κ (false)) else
 κ (false)) else
 κ (false)) else
 κ (false)) else
 κ (false))))
def bkT(pages threads:Int)(o:Nat)(z:Xi)(n c q:Nat)(L:RowsL):T Bool:=bkTK pages threads o z n c q L .ret
theorem xx0(pages threads:Int)(o:Nat)(z:Xi)(n c q:Nat)(L:RowsL)(κ:Bool->T β):(bkT pages threads o z n c q L).bind κ=bkTK pages threads o z n c q L κ:=by
 unfold bkT bkTK
 simp only[bz,xpr,xps,xpt]
def m_bkT:Sm:=fun
 | [.c (.int .u8 pages),.c (.int .u8 threads),.c (.slw 0 o z n c)],[some ⟨[], 116,false,some (.wrows q [.int .u8,.int .u8,.int .u8,.int .i64,.int .i64,.int .i64,.int .i64,.int .i64,.int .u8] L)⟩]=>some (mkS (Bool) (bkT pages threads o z n c q L) fun r=>some (.c (.bool r),[some ⟨[], 116,false,some (.wrows q [.int .u8,.int .u8,.int .u8,.int .i64,.int .i64,.int .i64,.int .i64,.int .i64,.int .u8] L)⟩]))
 | _,_=>none
theorem xx1:Good Tryz.prog (xo kx0) (⟨xa,[],true⟩:Fu) 1 (mrg (lsAt xlM .no [1,1,1,1,1,1,1,1,0,1,0]) (mrg (lsAt xlN .no [1,1,1,1,1,1,1,1,1,0,1,0]) (lsAt xlO .no [1,1,1,1,1,1,1,1,1,1,0,1,0]))) (Tryz.f14.body.getD .skip) (xt Tryz.f14.results.toList):=(yE (xz (xi (by kernel_rfl)) xy bkT_0Ok) (yE (xz (xi (by kernel_rfl)) xy bkT_1Ok) (xz (xi (by kernel_rfl)) xy bkT_2Ok)))
variable{σ:Type}{I:Port Tryz.prog σ}
theorem s_m_bkT(hl:SoundL I kx0):SoundF I 14 m_bkT:=by
 refine Xh hl (⟨xa,[],true⟩:Fu) Tryz.func14 (by kernel_rfl) (by kernel_rfl) fun _ _ t ht =>?_
 unfold m_bkT at ht
 split at ht
 ·rename_i pages threads o z n c q L
  cases ht
  refine(xE (P:= Tryz.prog) (n:=(⟨xa,[],true⟩:Fu)) (x:=(mrg (lsAt xlM .no [1,1,1,1,1,1,1,1,0,1,0]) (mrg (lsAt xlN .no [1,1,1,1,1,1,1,1,1,0,1,0]) (lsAt xlO .no [1,1,1,1,1,1,1,1,1,1,0,1,0])))) (fn:= Tryz.f14) (H :=[some ⟨[], 116,false,some (.wrows q [.int .u8,.int .u8,.int .u8,.int .i64,.int .i64,.int .i64,.int .i64,.int .i64,.int .u8] L)⟩]) (c:= Tryz.f14.body.getD .skip) (xi (by kernel_rfl)) xx1).symm.trans ?_
  exact ey (xx0 pages threads o z n c q L _)
 ·cases ht
end
end Go.Proofs.YtaegelbaghaooaaGreat.Lx
