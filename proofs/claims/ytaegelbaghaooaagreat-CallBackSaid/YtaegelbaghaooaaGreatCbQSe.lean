/- Part. -/
import Derived.Test.YtaegelbaghaooaaGreatCbQKs
set_option linter.all false
open Go.IntKind (i64 u64 u32 u8)
namespace Go.Proofs.YtaegelbaghaooaaGreat.Lx
variable{β:Type}(g:Geo)
open Go
noncomputable section
set_option maxRecDepth 1000000
def seK(q17:RowsL)(g18:Geo)(r6:Cal)(r7:Res×Res×DS)(i:Nat×Bool×Int×Int×Nat×Nat×Nat×Nat×IntsL×IntsL×RowsL)(k:Nat×Bool×Int×Int×Nat×Nat×Nat×Nat×IntsL×IntsL×RowsL->T β)(ok:Bool):T β:=
 bif decide (r7.fst.touch>0)then(bif Nat.beq (List.length i.2.2.2.2.2.2.2.2.2.2) i.1&&Nat.ble i.1 1000 then(k (i.1+1,ok,i64.wrap (i.2.2.1+r7.snd.snd.steps),i64.wrap (i.2.2.2.1+1),List.length r7.snd.snd.m.1,List.length r7.snd.snd.m.1,List.length r7.snd.snd.m.2,List.length r7.snd.snd.m.2,r7.snd.snd.m.1,r7.snd.snd.m.2,i.2.2.2.2.2.2.2.2.2.2 ++ [[Int.tmod (i64.wrap (getI (getR q17 (Int.toNat i.2.2.2.1)) 0)) g18.threads,r6.op,r6.size,r6.n,r6.align,r6.at_,r6.off,r6.byte,i64.wrap (i.2.2.1+1),i64.wrap (i.2.2.1+r7.snd.snd.steps),i64.wrap (i.2.2.1+r7.fst.lin),i64.wrap (i.2.2.1+r7.fst.touch),1,r7.fst.at_,r7.fst.n,r7.fst.byte,r7.fst.c1,r7.fst.c2,r7.fst.c3,r7.fst.c4,r7.fst.c5,r7.fst.e,r7.fst.lin,r7.fst.touch]])) else
 .fail) else
 bif Nat.beq (List.length i.2.2.2.2.2.2.2.2.2.2) i.1&&Nat.ble i.1 1000 then(k (i.1+1,ok,i64.wrap (i.2.2.1+r7.snd.snd.steps),i64.wrap (i.2.2.2.1+1),List.length r7.snd.snd.m.1,List.length r7.snd.snd.m.1,List.length r7.snd.snd.m.2,List.length r7.snd.snd.m.2,r7.snd.snd.m.1,r7.snd.snd.m.2,i.2.2.2.2.2.2.2.2.2.2 ++ [[Int.tmod (i64.wrap (getI (getR q17 (Int.toNat i.2.2.2.1)) 0)) g18.threads,r6.op,r6.size,r6.n,r6.align,r6.at_,r6.off,r6.byte,i64.wrap (i.2.2.1+1),i64.wrap (i.2.2.1+r7.snd.snd.steps),i64.wrap (i.2.2.1+r7.fst.lin),(-1),1,r7.fst.at_,r7.fst.n,r7.fst.byte,r7.fst.c1,r7.fst.c2,r7.fst.c3,r7.fst.c4,r7.fst.c5,r7.fst.e,r7.fst.lin,r7.fst.touch]])) else
 .fail
def xlP(n0:Nat)(z1:Xi)(n2 n3 n4:Nat)(b5:Bool)(n16:Nat)(q17:RowsL)(g18:Geo)(q19:RowsL)(κ0:Nat->Bool->Nat->Nat->Nat->Nat->IntsL->IntsL->RowsL->T β)(i:Nat×Bool×Int×Int×Nat×Nat×Nat×Nat×IntsL×IntsL×RowsL)(k:Nat×Bool×Int×Int×Nat×Nat×Nat×Nat×IntsL×IntsL×RowsL->T β):T β:=
 bif decide (i.2.2.2.1 < ↑n2)then(bif decide ((0:Int)<=i.2.2.2.1/\i.2.2.2.1 < ↑n2)then(bif Nat.beq n16 n0&&inR (List.length q17) i.2.2.2.1 then(bif !g18.threads==0 then(bif decide ((0:Int)<=i.2.2.2.1/\i.2.2.2.1 < ↑n2)then(bif Nat.beq n16 n0&&inR (List.length q17) i.2.2.2.1 then((xiV i.1 i.2.2.2.2.2.2.2.2.2.2 (getI (getR q17 (Int.toNat i.2.2.2.1)) 0) (getI (getR q17 (Int.toNat i.2.2.2.1)) 1) (getI (getR q17 (Int.toNat i.2.2.2.1)) 2) (getI (getR q17 (Int.toNat i.2.2.2.1)) 3) (getI (getR q17 (Int.toNat i.2.2.2.1)) 4) (getI (getR q17 (Int.toNat i.2.2.2.1)) 5) (getI (getR q17 (Int.toNat i.2.2.2.1)) 6) (getI (getR q17 (Int.toNat i.2.2.2.1)) 7) (getI (getR q17 (Int.toNat i.2.2.2.1)) 8)).bind fun r6=>
 (vR (okS i.2.2.2.2.2.1 i.2.2.2.2.1 i.2.2.2.2.2.2.2.1 i.2.2.2.2.2.2.1 i.2.2.2.2.2.2.2.2.1 i.2.2.2.2.2.2.2.2.2.1) (doT g18 r6) (DS.mk (Mem.mk i.2.2.2.2.2.2.2.2.1 i.2.2.2.2.2.2.2.2.2.1) (Int.tmod (i64.wrap (getI (getR q17 (Int.toNat i.2.2.2.1)) 0)) g18.threads) 0 none)).bind fun r7=>
 bif i.2.1 then(bif r7.snd.1.at_==r7.fst.at_&&(r7.snd.1.n==r7.fst.n&&(r7.snd.1.byte==r7.fst.byte&&(r7.snd.1.c1==r7.fst.c1&&(r7.snd.1.c2==r7.fst.c2&&(r7.snd.1.c3==r7.fst.c3&&(r7.snd.1.c4==r7.fst.c4&&(r7.snd.1.c5==r7.fst.c5&&true))))&&(r7.snd.1.e==r7.fst.e&&(r7.snd.1.lin==r7.fst.lin&&(r7.snd.1.touch==r7.fst.touch&&true))))))then(bif decide (r7.fst.lin>=1)then(seK q17 g18 r6 r7 i k (decide (r7.fst.lin<=r7.snd.snd.steps))) else
 seK q17 g18 r6 r7 i k false) else
 seK q17 g18 r6 r7 i k false) else
 seK q17 g18 r6 r7 i k false) else
 .fail) else
 .fail) else
 .fail) else
 .fail) else
 .fail) else
 κ0 (i.1) (i.2.1) (i.2.2.2.2.1) (i.2.2.2.2.2.1) (i.2.2.2.2.2.2.1) (i.2.2.2.2.2.2.2.1) (i.2.2.2.2.2.2.2.2.1) (i.2.2.2.2.2.2.2.2.2.1) (i.2.2.2.2.2.2.2.2.2.2)
def Zk(n0:Nat)(z1:Xi)(n2 n3 n4:Nat)(b5:Bool)(n16:Nat)(q17:RowsL)(g18:Geo)(q19:RowsL)(n6:Nat)(b7:Bool)(a8 a9:Int)(n10 n11 n12 n13:Nat)(l14 l15:IntsL)(q20:RowsL)(κ0:Nat->Bool->Nat->Nat->Nat->Nat->IntsL->IntsL->RowsL->T β):T β:=xr xa (xlP n0 z1 n2 n3 n4 b5 n16 q17 g18 q19 κ0) (n6,b7,a8,a9,n10,n11,n12,n13,l14,l15,q20)
theorem xlQ{β γ:Type}(n0:Nat)(z1:Xi)(n2 n3 n4:Nat)(b5:Bool)(n16:Nat)(q17:RowsL)(g18:Geo)(q19:RowsL)(n6:Nat)(b7:Bool)(a8 a9:Int)(n10 n11 n12 n13:Nat)(l14 l15:IntsL)(q20:RowsL)(κ0:Nat->Bool->Nat->Nat->Nat->Nat->IntsL->IntsL->RowsL->T β)(κ:β->T γ):(Zk n0 z1 n2 n3 n4 b5 n16 q17 g18 q19 n6 b7 a8 a9 n10 n11 n12 n13 l14 l15 q20 κ0).bind κ=Zk n0 z1 n2 n3 n4 b5 n16 q17 g18 q19 n6 b7 a8 a9 n10 n11 n12 n13 l14 l15 q20 (fun ne2 be3 ne4 ne5 ne6 ne7 le8 le9 qe13=>(κ0 ne2 be3 ne4 ne5 ne6 ne7 le8 le9 qe13).bind κ):=by
 unfold Zk
 refine xj κ (fun i k =>?_) _ _
 unfold xlP seK
 simp only[bz]
def xpu:Pat:=⟨xm 106 0 [(1,.c (.raw (.ptr 0 0))),(2,.c (.slw 3)),(3,.c (.raw (.ptr 4 0))),(6,.c (.slr 5)),(7,.c (.bool)),(8,.c (.slr 6)),(9,.c (.bool)),(10,.c (.int .i64)),(11,.c (.int .i64))],[some ⟨[.sl 1 0,.sl 2 0],188,false,none⟩,some ⟨[],34,false,some (.col .u64)⟩,some ⟨[],5,false,some (.col .u8)⟩,some ⟨[],116,false,some (.wrows [.int .u8,.int .u8,.int .u8,.int .i64,.int .i64,.int .i64,.int .i64,.int .i64,.int .u8])⟩,some ⟨[.geo],24,false,none⟩,some ⟨[],108,true,some (.rows ek)⟩,some ⟨[],108,true,some (.rows ek)⟩]⟩
def xv6:Pat:=⟨xm 106 0 [(6,.c (.slr 4)),(7,.c (.bool)),(8,.c (.slr 5)),(9,.c (.bool))],[some ⟨[.sl 1 0,.sl 2 0],188,false,none⟩,some ⟨[],34,false,some (.col .u64)⟩,some ⟨[],5,false,some (.col .u8)⟩,some ⟨[],116,false,some (.wrows [.int .u8,.int .u8,.int .u8,.int .i64,.int .i64,.int .i64,.int .i64,.int .i64,.int .u8])⟩,some ⟨[],108,true,some (.rows ek)⟩,some ⟨[],108,true,some (.rows ek)⟩]⟩
def xdH:LF:=fun st K=>match xq xpu st with
 | some [.n n0,.z z1,.n n2,.n n3,.n n4,.b b5,.n n6,.b b7,.i a8,.i a9,.n n10,.n n11,.n n12,.n n13,.l l14,.l l15,.n n16,.r q17,.g g18,.r q19,.r q20]=>some (Zk n0 z1 n2 n3 n4 b5 n16 q17 g18 q19 n6 b7 a8 a9 n10 n11 n12 n13 l14 l15 q20 (fun ne2 be3 ne4 ne5 ne6 ne7 le8 le9 qe13=>K (.exit 0) (xd xv6 [.n n4,.b b5,.n ne2,.b be3,.n ne4,.n ne5,.n ne6,.n ne7,.l le8,.l le9,.n n16,.r q17,.r q19,.r qe13])))
 | _=>none
theorem xx2 : ∀st K t,xdH st K=some t->xA xa (lf kd9 (⟨xa,[⟨6, 108,.rows ek⟩,⟨8, 108,.rows ek⟩],true⟩:Fu) 4 .no [1,1,1,1,0,1,0] Tryz.f62 K) st=t:=by
 intro st K t h
 unfold xdH at h
 split at h
 ·rename_i n0 z1 n2 n3 n4 b5 n6 b7 a8 a9 n10 n11 n12 n13 l14 l15 n16 q17 g18 q19 q20 hm
  cases h
  rw[xk hm]
  unfold Zk
  exact xu (S:=fun(i:Nat×Bool×Int×Int×Nat×Nat×Nat×Nat×IntsL×IntsL×RowsL)=>xd xpu [.n n0,.z z1,.n n2,.n n3,.n n4,.b b5,.n (i.1),.b (i.2.1),.i (i.2.2.1),.i (i.2.2.2.1),.n (i.2.2.2.2.1),.n (i.2.2.2.2.2.1),.n (i.2.2.2.2.2.2.1),.n (i.2.2.2.2.2.2.2.1),.l (i.2.2.2.2.2.2.2.2.1),.l (i.2.2.2.2.2.2.2.2.2.1),.n n16,.r q17,.g g18,.r q19,.r (i.2.2.2.2.2.2.2.2.2.2)]) (fun i k=>by kernel_rfl) xa (n6,b7,a8,a9,n10,n11,n12,n13,l14,l15,q20)
 ·cases h
def xtP(x x2 y y2:Nat)(W B:IntsL)(o:Nat)(z:Xi)(n c q:Nat)(L:RowsL)(κ:Ser->T β):T β:=
 Zk (o) (z) (n) (c) (0) (false) (q) (L) (g) ([]) (0) (true) (0) (0) (x) x2 (y) y2 (W) (B) ([]) (fun y0_0 y0_1 y0_2 y0_3 y0_4 y0_5 y0_6 y0_7 y0_8=>
 κ ⟨y0_0,y0_8,y0_1,y0_2,y0_3,y0_4,y0_5,y0_6,y0_7⟩)
def serT(x x2 y y2:Nat)(W B:IntsL)(o:Nat)(z:Xi)(n c q:Nat)(L:RowsL):T Ser:=xtP g x x2 y y2 W B o z n c q L .ret
theorem xv7(x x2 y y2:Nat)(W B:IntsL)(o:Nat)(z:Xi)(n c q:Nat)(L:RowsL)(κ:Ser->T β):(serT g x x2 y y2 W B o z n c q L).bind κ=xtP g x x2 y y2 W B o z n c q L κ:=by
 unfold serT xtP
 simp only[bz,xlQ]
def xsL:Sm:=fun
 | [.agg gc,.c (.ptr 0 0),.c (.slw 3 o z n c)],[some ⟨[.sl 1 0 x x2,.sl 2 0 y y2], 188,false,none⟩,some ⟨[], 34,false,some (.col .u64 W)⟩,some ⟨[], 5,false,some (.col .u8 B)⟩,some ⟨[], 116,false,some (.wrows q [.int .u8,.int .u8,.int .u8,.int .i64,.int .i64,.int .i64,.int .i64,.int .i64,.int .u8] L)⟩]=>(match xv gc with
   | some g=>some (mkS (Ser) (serT g x x2 y y2 W B o z n c q L) fun r=>some (.tup [.c (.slr 4 r.n),.c (.bool r.ok)],[some ⟨[.sl 1 0 r.x r.x2,.sl 2 0 r.y r.y2], 188,false,none⟩,some ⟨[], 34,false,some (.col .u64 r.W)⟩,some ⟨[], 5,false,some (.col .u8 r.B)⟩,some ⟨[], 116,false,some (.wrows q [.int .u8,.int .u8,.int .u8,.int .i64,.int .i64,.int .i64,.int .i64,.int .i64,.int .u8] L)⟩,some ⟨[], 108,true,some (.rows ek r.L)⟩]))
   | _=>none)
 | _,_=>none
theorem xv8:Good Tryz.prog (xo kd9) (⟨xa,[⟨6, 108,.rows ek⟩,⟨8, 108,.rows ek⟩],true⟩:Fu) 4 (lsAt xdH .no [1,1,1,1,0,1,0]) (Tryz.f62.body.getD .skip) (xt Tryz.f62.results.toList):=(xz (xi (by kernel_rfl)) xy xx2)
variable{σ:Type}{I:Port Tryz.prog σ}
theorem xx3(hl:SoundL I kd9):SoundF I 62 xsL:=by
 refine Xh hl (⟨xa,[⟨6, 108,.rows ek⟩,⟨8, 108,.rows ek⟩],true⟩:Fu) Tryz.func62 (by kernel_rfl) (by kernel_rfl) fun _ _ t ht =>?_
 unfold xsL at ht
 split at ht
 ·rename_i gc o z n c x x2 y y2 W B q L
  split at ht
  ·rename_i g hg
   obtain rfl:=xe hg
   cases ht
   refine(xE (P:= Tryz.prog) (n:=(⟨xa,[⟨6, 108,.rows ek⟩,⟨8, 108,.rows ek⟩],true⟩:Fu)) (x:=(lsAt xdH .no [1,1,1,1,0,1,0])) (fn:= Tryz.f62) (H :=[some ⟨[.sl 1 0 x x2,.sl 2 0 y y2], 188,false,none⟩,some ⟨[], 34,false,some (.col .u64 W)⟩,some ⟨[], 5,false,some (.col .u8 B)⟩,some ⟨[], 116,false,some (.wrows q [.int .u8,.int .u8,.int .u8,.int .i64,.int .i64,.int .i64,.int .i64,.int .i64,.int .u8] L)⟩]) (c:= Tryz.f62.body.getD .skip) (xi (by kernel_rfl)) xv8).symm.trans ?_
   exact ey (xv7 g x x2 y y2 W B o z n c q L _)
  ·cases ht
 ·cases ht
def kd10:List (Nat×Sm):=(62,xsL)::kd9
theorem s_kd10:SoundL NP kd10:=(.cons (xx3 s_kd9) s_kd9)
end
end Go.Proofs.YtaegelbaghaooaaGreat.Lx
