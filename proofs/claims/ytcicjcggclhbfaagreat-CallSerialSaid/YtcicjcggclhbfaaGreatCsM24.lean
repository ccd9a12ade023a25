/- Part. -/
import Derived.Test.YtcicjcggclhbfaaGreatCsQAs
import Derived.Test.YtcicjcggclhbfaaGreatCsM17
set_option linter.all false
open Go.IntKind (i64 u64 u32 u8)
set_option maxRecDepth 1000000
namespace Go.Proofs.YtcicjcggclhbfaaGreat
section
open Go.RowKit Lx
noncomputable def kd9:List (Nat×Sm):=(60,orSm xoG (inl Tryz.prog (xp kd7) 1 Tryz.f60))::kd7
theorem s_kd9:SoundL NP kd9 :=.cons (SoundF.or (xzU s_kd7) (xI s_kd7 1 Tryz.func60 (by kernel_rfl) (by kernel_rfl))) s_kd7
end
namespace Lx
variable{β:Type}(g:Geo)
open Go
noncomputable section
def seK(gi:RowsL)(m9:Geo)(r6:Cal)(r7:Res×Res×DS)(i:Nat×Bool×Int×Int×Nat×Nat×Nat×Nat×IntsL×IntsL×RowsL)(k:Nat×Bool×Int×Int×Nat×Nat×Nat×Nat×IntsL×IntsL×RowsL->T β)(ok:Bool):T β:=
 bif decide (r7.fst.touch>0)then(bif Nat.beq (List.length i.2.2.2.2.2.2.2.2.2.2) i.1&&Nat.ble i.1 1000 then(k (i.1+1,ok,i64.wrap (i.2.2.1+r7.snd.snd.steps),i64.wrap (i.2.2.2.1+1),List.length r7.snd.snd.m.1,List.length r7.snd.snd.m.1,List.length r7.snd.snd.m.2,List.length r7.snd.snd.m.2,r7.snd.snd.m.1,r7.snd.snd.m.2,i.2.2.2.2.2.2.2.2.2.2 ++ [[Int.tmod (i64.wrap (getI (getR gi (Int.toNat i.2.2.2.1)) 0)) m9.threads,r6.op,r6.size,r6.n,r6.align,r6.at_,r6.off,r6.byte,i64.wrap (i.2.2.1+1),i64.wrap (i.2.2.1+r7.snd.snd.steps),i64.wrap (i.2.2.1+r7.fst.lin),i64.wrap (i.2.2.1+r7.fst.touch),1,r7.fst.at_,r7.fst.n,r7.fst.byte,r7.fst.c1,r7.fst.c2,r7.fst.c3,r7.fst.c4,r7.fst.c5,r7.fst.e,r7.fst.lin,r7.fst.touch]])) else
 .fail) else
 bif Nat.beq (List.length i.2.2.2.2.2.2.2.2.2.2) i.1&&Nat.ble i.1 1000 then(k (i.1+1,ok,i64.wrap (i.2.2.1+r7.snd.snd.steps),i64.wrap (i.2.2.2.1+1),List.length r7.snd.snd.m.1,List.length r7.snd.snd.m.1,List.length r7.snd.snd.m.2,List.length r7.snd.snd.m.2,r7.snd.snd.m.1,r7.snd.snd.m.2,i.2.2.2.2.2.2.2.2.2.2 ++ [[Int.tmod (i64.wrap (getI (getR gi (Int.toNat i.2.2.2.1)) 0)) m9.threads,r6.op,r6.size,r6.n,r6.align,r6.at_,r6.off,r6.byte,i64.wrap (i.2.2.1+1),i64.wrap (i.2.2.1+r7.snd.snd.steps),i64.wrap (i.2.2.1+r7.fst.lin),(-1),1,r7.fst.at_,r7.fst.n,r7.fst.byte,r7.fst.c1,r7.fst.c2,r7.fst.c3,r7.fst.c4,r7.fst.c5,r7.fst.e,r7.fst.lin,r7.fst.touch]])) else
 .fail
def xoq(n0:Nat)(z1:Yi)(n2 n3 n4:Nat)(b5:Bool)(n16:Nat)(gi:RowsL)(m9:Geo)(zg:RowsL)(κ0:Nat->Bool->Nat->Nat->Nat->Nat->IntsL->IntsL->RowsL->T β)(i:Nat×Bool×Int×Int×Nat×Nat×Nat×Nat×IntsL×IntsL×RowsL)(k:Nat×Bool×Int×Int×Nat×Nat×Nat×Nat×IntsL×IntsL×RowsL->T β):T β:=
 bif decide (i.2.2.2.1 < ↑n2)then(bif decide ((0:Int)<=i.2.2.2.1/\i.2.2.2.1 < ↑n2)then(bif Nat.beq n16 n0&&inR (List.length gi) i.2.2.2.1 then(bif !m9.threads==0 then(bif decide ((0:Int)<=i.2.2.2.1/\i.2.2.2.1 < ↑n2)then(bif Nat.beq n16 n0&&inR (List.length gi) i.2.2.2.1 then((xk7 i.1 i.2.2.2.2.2.2.2.2.2.2 (getI (getR gi (Int.toNat i.2.2.2.1)) 0) (getI (getR gi (Int.toNat i.2.2.2.1)) 1) (getI (getR gi (Int.toNat i.2.2.2.1)) 2) (getI (getR gi (Int.toNat i.2.2.2.1)) 3) (getI (getR gi (Int.toNat i.2.2.2.1)) 4) (getI (getR gi (Int.toNat i.2.2.2.1)) 5) (getI (getR gi (Int.toNat i.2.2.2.1)) 6) (getI (getR gi (Int.toNat i.2.2.2.1)) 7) (getI (getR gi (Int.toNat i.2.2.2.1)) 8)).bind fun r6=>
 (vR (okS i.2.2.2.2.2.1 i.2.2.2.2.1 i.2.2.2.2.2.2.2.1 i.2.2.2.2.2.2.1 i.2.2.2.2.2.2.2.2.1 i.2.2.2.2.2.2.2.2.2.1) (doT m9 r6) (DS.mk (Mem.mk i.2.2.2.2.2.2.2.2.1 i.2.2.2.2.2.2.2.2.2.1) (Int.tmod (i64.wrap (getI (getR gi (Int.toNat i.2.2.2.1)) 0)) m9.threads) 0 none)).bind fun r7=>
 bif i.2.1 then(bif r7.snd.1.at_==r7.fst.at_&&(r7.snd.1.n==r7.fst.n&&(r7.snd.1.byte==r7.fst.byte&&(r7.snd.1.c1==r7.fst.c1&&(r7.snd.1.c2==r7.fst.c2&&(r7.snd.1.c3==r7.fst.c3&&(r7.snd.1.c4==r7.fst.c4&&(r7.snd.1.c5==r7.fst.c5&&true))))&&(r7.snd.1.e==r7.fst.e&&(r7.snd.1.lin==r7.fst.lin&&(r7.snd.1.touch==r7.fst.touch&&true))))))then(bif decide (r7.fst.lin>=1)then(seK gi m9 r6 r7 i k (decide (r7.fst.lin<=r7.snd.snd.steps))) else
 seK gi m9 r6 r7 i k false) else
 seK gi m9 r6 r7 i k false) else
 seK gi m9 r6 r7 i k false) else
 .fail) else
 .fail) else
 .fail) else
 .fail) else
 .fail) else
 κ0 i.1 i.2.1 i.2.2.2.2.1 i.2.2.2.2.2.1 i.2.2.2.2.2.2.1 i.2.2.2.2.2.2.2.1 i.2.2.2.2.2.2.2.2.1 i.2.2.2.2.2.2.2.2.2.1 (i.2.2.2.2.2.2.2.2.2.2)
def Xb(n0:Nat)(z1:Yi)(n2 n3 n4:Nat)(b5:Bool)(n16:Nat)(gi:RowsL)(m9:Geo)(zg:RowsL)(n6:Nat)(b7:Bool)(a8 a9:Int)(n10 n11 n12 n13:Nat)(Bd Bc:IntsL)(A8:RowsL)(κ0:Nat->Bool->Nat->Nat->Nat->Nat->IntsL->IntsL->RowsL->T β):T β:=xu xa (xoq n0 z1 n2 n3 n4 b5 n16 gi m9 zg κ0) (n6,b7,a8,a9,n10,n11,n12,n13,Bd,Bc,A8)
theorem xos{β γ:Type}(n0 z1 n2 n3 n4 b5 n16 gi m9 zg n6 b7 a8 a9 n10 n11 n12 n13 Bd Bc A8 κ0)(κ:β->T γ):(Xb n0 z1 n2 n3 n4 b5 n16 gi m9 zg n6 b7 a8 a9 n10 n11 n12 n13 Bd Bc A8 κ0).bind κ=Xb n0 z1 n2 n3 n4 b5 n16 gi m9 zg n6 b7 a8 a9 n10 n11 n12 n13 Bd Bc A8 (fun Ix L5 ug Ct Iw Iv I2 I1 Cq=>(κ0 Ix L5 ug Ct Iw Iv I2 I1 Cq).bind κ):=by
 unfold Xb
 refine xi κ (fun i k =>?_) _ _
 unfold xoq seK
 simp only[bz]
def xr1:Pat:=⟨xk 106 0 [(1,.c (.raw (.ptr 0 0))),(2,.c (.slw 3)),(3,.c (.raw (.ptr 4 0))),(6,.c (.slr 5)),(7,.c (.bool)),(8,.c (.slr 6)),(9,.c (.bool)),(10,.c (.int .i64)),(11,.c (.int .i64))],[some ⟨[.sl 1 0,.sl 2 0], 232,false,none⟩,some ⟨[], 42,false,some (.col .u64)⟩,some ⟨[], 5,false,some (.col .u8)⟩,some ⟨[], 120,false,some (.wrows [.int .u8,.int .u8,.int .u8,.int .i64,.int .i64,.int .i64,.int .i64,.int .i64,.int .u8])⟩,some ⟨[.geo], 26,false,none⟩,some ⟨[], 78,true,some (.rows ek)⟩,some ⟨[], 78,true,some (.rows ek)⟩]⟩
def xzf:Pat:=⟨xk 106 0 [(6,.c (.slr 4)),(7,.c (.bool)),(8,.c (.slr 5)),(9,.c (.bool))],[some ⟨[.sl 1 0,.sl 2 0], 232,false,none⟩,some ⟨[], 42,false,some (.col .u64)⟩,some ⟨[], 5,false,some (.col .u8)⟩,some ⟨[], 120,false,some (.wrows [.int .u8,.int .u8,.int .u8,.int .i64,.int .i64,.int .i64,.int .i64,.int .i64,.int .u8])⟩,some ⟨[], 78,true,some (.rows ek)⟩,some ⟨[], 78,true,some (.rows ek)⟩]⟩
def xfk:LF:=fun st K=>match xr xr1 st with
 | some [.n n0,.z z1,.n n2,.n n3,.n n4,.b b5,.n n6,.b b7,.i a8,.i a9,.n n10,.n n11,.n n12,.n n13,.l Bd,.l Bc,.n n16,.r gi,.g m9,.r zg,.r A8]=>some (Xb n0 z1 n2 n3 n4 b5 n16 gi m9 zg n6 b7 a8 a9 n10 n11 n12 n13 Bd Bc A8 (fun Ix L5 ug Ct Iw Iv I2 I1 Cq=>K (.exit 0) (xe xzf [.n n4,.b b5,.n Ix,.b L5,.n ug,.n Ct,.n Iw,.n Iv,.l I2,.l I1,.n n16,.r gi,.r zg,.r Cq])))
 | _=>none
theorem xBp : ∀st K t,xfk st K=some t->xD xa (lf kd9 (⟨xa,[⟨6, 78,.rows ek⟩,⟨8, 78,.rows ek⟩],true⟩:Fu) 4 .no [1,1,1,1,0,1,0] Tryz.f28 K) st=t:=by
 intro st K t h
 unfold xfk at h
 split at h
 .rename_i n0 z1 n2 n3 n4 b5 n6 b7 a8 a9 n10 n11 n12 n13 Bd Bc n16 gi m9 zg A8 hm
  cases h
  rw[xj hm]
  unfold Xb
  exact xt (S:=fun(i:Nat×Bool×Int×Int×Nat×Nat×Nat×Nat×IntsL×IntsL×RowsL)=>xe xr1 [.n n0,.z z1,.n n2,.n n3,.n n4,.b b5,.n i.1,.b i.2.1,.i i.2.2.1,.i i.2.2.2.1,.n i.2.2.2.2.1,.n i.2.2.2.2.2.1,.n i.2.2.2.2.2.2.1,.n i.2.2.2.2.2.2.2.1,.l i.2.2.2.2.2.2.2.2.1,.l i.2.2.2.2.2.2.2.2.2.1,.n n16,.r gi,.g m9,.r zg,.r i.2.2.2.2.2.2.2.2.2.2]) (fun i k=>by kernel_rfl) xa (n6,b7,a8,a9,n10,n11,n12,n13,Bd,Bc,A8)
 .cases h
def xw7(x x2 y y2:Nat)(W B:IntsL)(o:Nat)(z:Yi)(n c q:Nat)(L:RowsL)(κ:Ser->T β):T β:=
 Xb o z n c 0 false q L g ([]) 0 true 0 0 x x2 y y2 W B ([]) (fun av gh nm ub ua t9 Cj Ci Ch=>
 κ ⟨av,Ch,gh,nm,ub,ua,t9,Cj,Ci⟩)
def serT(x x2 y y2:Nat)(W B:IntsL)(o:Nat)(z:Yi)(n c q:Nat)(L:RowsL):T Ser:=xw7 g x x2 y y2 W B o z n c q L .ret
theorem xzg(x x2 y y2 W B o z n c q L)(κ:Ser->T β):(serT g x x2 y y2 W B o z n c q L).bind κ=xw7 g x x2 y y2 W B o z n c q L κ:=by
 unfold serT xw7
 simp only[bz,xos]
def xvy:Sm:=fun
 | [.agg gc,.c (.ptr 0 0),.c (.slw 3 o z n c)],[some ⟨[.sl 1 0 x x2,.sl 2 0 y y2], 232,false,none⟩,some ⟨[], 42,false,some (.col .u64 W)⟩,some ⟨[], 5,false,some (.col .u8 B)⟩,some ⟨[], 120,false,some (.wrows q [.int .u8,.int .u8,.int .u8,.int .i64,.int .i64,.int .i64,.int .i64,.int .i64,.int .u8] L)⟩]=>(match xF gc with
   | some g=>some (mkS Ser (serT g x x2 y y2 W B o z n c q L) fun r=>some (.tup [.c (.slr 4 r.n),.c (.bool r.ok)],[some ⟨[.sl 1 0 r.x r.x2,.sl 2 0 r.y r.y2], 232,false,none⟩,some ⟨[], 42,false,some (.col .u64 r.W)⟩,some ⟨[], 5,false,some (.col .u8 r.B)⟩,some ⟨[], 120,false,some (.wrows q [.int .u8,.int .u8,.int .u8,.int .i64,.int .i64,.int .i64,.int .i64,.int .i64,.int .u8] L)⟩,some ⟨[], 78,true,some (.rows ek r.L)⟩]))
   | _=>none)
 | _,_=>none
theorem xzh:Good Tryz.prog (xp kd9) (⟨xa,[⟨6, 78,.rows ek⟩,⟨8, 78,.rows ek⟩],true⟩:Fu) 4 (lsAt xfk .no [1,1,1,1,0,1,0]) (Tryz.f28.body.getD .skip) (xw Tryz.f28.results.toList):=(xB (xg (by kernel_rfl)) xA xBp)
variable{σ:Type}{I:Port Tryz.prog σ}
theorem xBq(hl:SoundL I kd9):SoundF I 28 xvy:=by
 refine vD hl (⟨xa,[⟨6, 78,.rows ek⟩,⟨8, 78,.rows ek⟩],true⟩:Fu) Tryz.func28 (by kernel_rfl) (by kernel_rfl) fun _ _ t ht =>?_
 unfold xvy at ht
 split at ht
 .rename_i gc o z n c x x2 y y2 W B q L
  split at ht
  .rename_i g hg
   obtain rfl:=xm hg
   cases ht
   refine(xE (P:= Tryz.prog) (n:=(⟨xa,[⟨6, 78,.rows ek⟩,⟨8, 78,.rows ek⟩],true⟩:Fu)) (x:=(lsAt xfk .no [1,1,1,1,0,1,0])) (fn:= Tryz.f28) (H :=[some ⟨[.sl 1 0 x x2,.sl 2 0 y y2], 232,false,none⟩,some ⟨[], 42,false,some (.col .u64 W)⟩,some ⟨[], 5,false,some (.col .u8 B)⟩,some ⟨[], 120,false,some (.wrows q [.int .u8,.int .u8,.int .u8,.int .i64,.int .i64,.int .i64,.int .i64,.int .i64,.int .u8] L)⟩]) (c:= Tryz.f28.body.getD .skip) (xg (by kernel_rfl)) xzh).symm.trans ?_
   exact ey (xzg g x x2 y y2 W B o z n c q L _)
  .cases ht
 .cases ht
def kd10:List (Nat×Sm):=(28,xvy)::kd9
theorem s_kd10:SoundL NP kd10:=(.cons (xBq s_kd9) s_kd9)
end
end Lx
section
open Go.RowKit Lx
noncomputable def kx0:List (Nat×Sm):=kd10++kc1m
theorem s_kx0:SoundL NP kx0:=xgR s_kd10 s_kc1m
end
namespace Lx
variable{β:Type}(g:Geo)
open Go
noncomputable section
end
end Lx
namespace Lx
variable{β:Type}(g:Geo)
open Go
noncomputable section
end
end Lx
namespace Lx
variable{β:Type}(g:Geo)
open Go
noncomputable section
end
end Lx
end Go.Proofs.YtcicjcggclhbfaaGreat
