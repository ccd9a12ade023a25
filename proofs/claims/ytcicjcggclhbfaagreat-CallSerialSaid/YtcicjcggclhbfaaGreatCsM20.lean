/- Part. -/
import Derived.Test.YtcicjcggclhbfaaGreatCsM12
set_option linter.all false
open Go.IntKind (i64 u64 u32 u8)
set_option maxRecDepth 1000000
set_option maxHeartbeats 4000000
namespace Go.Proofs.YtcicjcggclhbfaaGreat
namespace Lx
open Go
def ixT{β:Type}(n:Nat)(q:RowsL)(i:Int)(A:T β):T β:=bif decide ((0:Int)<=i/\i < ↑n)then(bif inR (List.length q) i then A else .fail)else .fail
def gX(q:RowsL)(i:Int)(k:Nat):Int:=getI (getR q (Int.toNat i)) k
def rX(q:RowsL)(i:Int):List Int :=[gX q i 0,gX q i 1,gX q i 2,gX q i 3,gX q i 4,gX q i 5,gX q i 6,gX q i 7,gX q i 8,gX q i 9,gX q i 10,gX q i 11,bif gX q i 12 != 0 then(1:Int)else(0:Int),gX q i 13,gX q i 14,gX q i 15,gX q i 16,gX q i 17,gX q i 18,gX q i 19,gX q i 20,gX q i 21,gX q i 22,gX q i 23]
def rY(q:RowsL)(i:Int):List Int :=[gX q i 0,gX q i 1,gX q i 2,gX q i 3,gX q i 4,gX q i 5,gX q i 6,gX q i 7,gX q i 8,gX q i 9,gX q i 11,gX q i 11,bif gX q i 12 != 0 then(1:Int)else(0:Int),gX q i 13,gX q i 14,gX q i 15,gX q i 16,gX q i 17,gX q i 18,gX q i 19,gX q i 20,gX q i 21,gX q i 22,gX q i 23]
def r3X(q:RowsL)(i:Int):List Int :=[gX q i 0,gX q i 1,gX q i 2]
noncomputable def kj0a:List (Nat×Sm):=(122,inl Tryz.prog (xp kr0) 1 Tryz.f122)::kr0
variable{σ:Type}{I:Port Tryz.prog σ}
theorem xAM:SoundL I kj0a :=.cons (ja s_kr0 1 Tryz.func122 (by kernel_rfl) (by kernel_rfl)) s_kr0
noncomputable def kj0b:List (Nat×Sm):=(65,inl Tryz.prog (xp kj0a) 1 Tryz.f65)::kj0a
theorem xAN:SoundL I kj0b :=.cons (ja xAM 1 Tryz.func65 (by kernel_rfl) (by kernel_rfl)) xAM
noncomputable def kj0c:List (Nat×Sm):=(70,inl Tryz.prog (xp kj0b) 1 Tryz.f70)::kj0b
theorem xAO:SoundL I kj0c :=.cons (ja xAN 1 Tryz.func70 (by kernel_rfl) (by kernel_rfl)) xAN
noncomputable def kj0d:List (Nat×Sm):=(69,inl Tryz.prog (xp kj0c) 1 Tryz.f69)::kj0c
theorem s_kj0d:SoundL I kj0d :=.cons (ja xAO 1 Tryz.func69 (by kernel_rfl) (by kernel_rfl)) xAO
noncomputable def kj0:List (Nat×Sm):=kj0d
theorem xkt:SoundL I kj0:=s_kj0d
end Lx
namespace Lx
variable{β:Type}(g:Geo)
open Go
def xcW(n0:Nat)(a1 a2:Int)(q4:RowsL)(κ0:Int->T β)(κ1:Unit->T β)(i:Int)(k:Int->T β):T β:=
 bif decide (i < ↑n0)then(ixT n0 q4 i (bif gX q4 i 0==a1 then(κ0 i) else
 k (i64.wrap (i+1)))) else
 κ1 ()
def wY(n0:Nat)(a1 a2:Int)(q4:RowsL)(a3:Int)(κ0:Int->T β)(κ1:Unit->T β):T β:=xu xa (xcW n0 a1 a2 q4 κ0 κ1) a3
theorem xhH{β γ:Type}(n0 a1 a2 q4 a3 κ0 κ1)(κ:β->T γ):(wY n0 a1 a2 q4 a3 κ0 κ1).bind κ=wY n0 a1 a2 q4 a3 (fun cg=>(κ0 cg).bind κ) (fun u=>(κ1 u).bind κ):=by
 unfold wY;refine xi κ (fun i k =>?_) _ _
 unfold xcW ixT gX;simp only[bz]
def xhI:Pat:=⟨xk 20 0 [(0,.c (.slr 0)),(1,.c (.int .i64)),(4,.c (.int .i64)),(5,.c (.int .i64))],[some ⟨[], 130,true,some (.rows [.int .i64,.int .i64,.int .i64])⟩]⟩
def xdS:Pat:=⟨xk 20 0 [(4,.c (.int .i64))],[some ⟨[], 130,true,some (.rows [.int .i64,.int .i64,.int .i64])⟩]⟩
def WB:LF:=fun st K=>match xr xhI st with
 | some [.n n0,.i a1,.i a2,.i a3,.r q4]=>some (wY n0 a1 a2 q4 a3 (fun cg=>K (.ret) (xe xdS [.i cg,.r q4])) (fun _=>K (.exit 0) (xe xdS [.i a2,.r q4])))
 | _=>none
theorem xu9:∀st K t,WB st K=some t->xD xa (lf kj0 xa 1 .no [1,0,1,0] Tryz.f71 K) st=t:=by
 intro st K t h;unfold WB at h;split at h
 .rename_i n0 a1 a2 a3 q4 hm;cases h;rw[xj hm];unfold wY;exact xt (S:=fun(i:Int)=>xe xhI [.n n0,.i a1,.i a2,.i i,.r q4]) (fun i k=>by kernel_rfl) xa a3
 .cases h
def xe6(n:Nat)(L:RowsL)(at_:Int)(κ:Int->T β):T β:=
 wY n at_ 0 L 0 (fun av=>
 κ av)  (fun av=>
 κ ((-1)))
def wa(n:Nat)(L:RowsL)(at_:Int):T Int:=xe6 n L at_ .ret
theorem xrz(n L at_)(κ:Int->T β):(wa n L at_).bind κ=xe6 n L at_ κ:=by
 unfold wa xe6;simp only[bz,xhH]
def xe7(n:Nat)(L:RowsL)(k:Int)(κ:(Nat×RowsL)->T β):T β:=
 bif decide ((0:Int)<=k/\k <= ↑n)&&true then(bif Nat.beq 0 0&&Nat.ble 0 1000&&we (some 0) (Int.toNat k-0) L&&Nat.ble (Int.toNat k-0) 1000 then(bif true&&decide ((0:Int)<=i64.wrap (k+(1:Int))/\i64.wrap (k+(1:Int)) <= ↑n)then(bif Nat.beq (List.length ([]++cutL (some 0) (Int.toNat k-0) L)) (0+(Int.toNat k-0))&&Nat.ble (0+(Int.toNat k-0)) 1000&&we (some (Int.toNat (i64.wrap (k+1)))) (n-Int.toNat (i64.wrap (k+1))) L&&Nat.ble (n-Int.toNat (i64.wrap (k+1))) 1000 then(κ (0+(Int.toNat k-0)+(n-Int.toNat (i64.wrap (k+1))),[]++cutL (some 0) (Int.toNat k-0) L++cutL (some (Int.toNat (i64.wrap (k+1)))) (n-Int.toNat (i64.wrap (k+1))) L)) else
 .fail) else
 .fail) else
 .fail) else
 .fail
def vo(n:Nat)(L:RowsL)(k:Int):T (Nat×RowsL):=xe7 n L k .ret
theorem xrA(n L k)(κ:(Nat×RowsL)->T β):(vo n L k).bind κ=xe7 n L k κ:=by
 unfold vo xe7;simp only[bz]
def WC(b1:Bool)(κ0:Int->T β)(i:Int)(k:Int->T β):T β:=
 bif decide (i>1)then(bif Int.tmod i 2==0 then(k (i64.wrap (Int.tdiv i 2))) else
 κ0 i) else
 κ0 (i)
def wk(b1:Bool)(a0:Int)(κ0:Int->T β):T β:=xu xa (WC b1 κ0) a0
theorem xhJ{β γ:Type}(b1 a0 κ0)(κ:β->T γ):(wk b1 a0 κ0).bind κ=wk b1 a0 (fun cg=>(κ0 cg).bind κ):=by
 unfold wk;refine xi κ (fun i k =>?_) _ _
 unfold WC;simp only[bz]
def Kl:Pat:=⟨xk 14 0 [(0,.c (.int .i64)),(2,.c (.bool))],[]⟩
def WD:LF:=fun st K=>match xr Kl st with
 | some [.i a0,.b b1]=>some (wk b1 a0 (fun cg=>K (.exit 0) (xe Kl [.i cg,.b b1])))
 | _=>none
theorem xva:∀st K t,WD st K=some t->xD xa (lf kj0 xa 0 .no [1,0,0] Tryz.f123 K) st=t:=by
 intro st K t h;unfold WD at h;split at h
 .rename_i a0 b1 hm;cases h;rw[xj hm];unfold wk;exact xt (S:=fun(i:Int)=>xe Kl [.i i,.b b1]) (fun i k=>by kernel_rfl) xa a0
 .cases h
def xbf(x:Int)(κ:Bool->T β):T β:=
 wk false x (fun av=>
 κ (av==1))
def ZU(x:Int):T Bool:=xbf x .ret
theorem xrB(x)(κ:Bool->T β):(ZU x).bind κ=xbf x κ:=by
 unfold ZU xbf;simp only[bz,xhJ]
def Zc(a0 a1 a4 a5 a6 a7 a8 a9 be:Int)(κ0:Int->T β)(κ1:Int->T β)(i:Int×Int)(k:Int×Int->T β):T β:=
 bif decide (i.2<a6)then(bif decide (a5>0)then(bif decide (a5<=a0)then(bif decide (i64.wrap (i.1+a5)>a0)then(κ0 (i64.wrap (i.1+a5))) else
 k (i64.wrap (i.1+a5),i64.wrap (i.2+1))) else
 κ1 i.1) else
 κ1 i.1) else
 κ1 (i.1)
def wZ(a0 a1 a4 a5 a6 a7 a8 a9 be a2 a3:Int)(κ0:Int->T β)(κ1:Int->T β):T β:=xu xa (Zc a0 a1 a4 a5 a6 a7 a8 a9 be κ0 κ1) (a2,a3)
theorem xhK{β γ:Type}(a0 a1 a4 a5 a6 a7 a8 a9 be a2 a3 κ0 κ1)(κ:β->T γ):(wZ a0 a1 a4 a5 a6 a7 a8 a9 be a2 a3 κ0 κ1).bind κ=wZ a0 a1 a4 a5 a6 a7 a8 a9 be a2 a3 (fun bt=>(κ0 bt).bind κ) (fun bt=>(κ1 bt).bind κ):=by
 unfold wZ;refine xi κ (fun i k =>?_) _ _
 unfold Zc;simp only[bz]
def xhL:Pat:=⟨xk 46 0 [(1,.c (.int .i64)),(2,.c (.raw (.ptr 0 0))),(4,.c (.int .i64)),(5,.c (.int .i64)),(6,.c (.int .i64))],[some ⟨[.int .u8,.int .i64,.int .i64,.int .i64,.int .i64,.int .i64,.int .u8], 76,false,none⟩]⟩
def xdT:Pat:=⟨xk 46 0 [(4,.c (.int .i64)),(5,.c (.int .i64))],[]⟩
def WE:LF:=fun st K=>match xr xhL st with
 | some [.i a0,.i a1,.i a2,.i a3,.i a4,.i a5,.i a6,.i a7,.i a8,.i a9,.i be]=>some (wZ a0 a1 a4 a5 a6 a7 a8 a9 be a2 a3 (fun bt=>K (.ret) (xe xdT [.i 0,.i bt])) (fun bt=>K (.exit 0) (xe xdT [.i a1,.i bt])))
 | _=>none
theorem xvb:∀st K t,WE st K=some t->xD xa (lf kj0 xa 0 .no [1,1,1,0,1,0] Tryz.f121 K) st=t:=by
 intro st K t h;unfold WE at h;split at h
 .rename_i a0 a1 a2 a3 a4 a5 a6 a7 a8 a9 be hm;cases h;rw[xj hm];unfold wZ;exact xt (S:=fun(i:Int×Int)=>xe xhL [.i a0,.i a1,.i i.1,.i i.2,.i a4,.i a5,.i a6,.i a7,.i a8,.i a9,.i be]) (fun i k=>by kernel_rfl) xa (a2,a3)
 .cases h
def xe8(op sz nn al at_ off by_ top:Int)(κ:Int->T β):T β:=
 bif op != 2 then(bif decide (sz<1)then(κ 0) else
 bif decide (sz>top)then(κ 0) else
 κ sz) else
 wZ top 0 op sz nn al at_ off by_ 0 0 (fun d7=>
 κ 0)  (fun d7=>
 κ d7)
def xcX(op sz nn al at_ off by_ top:Int):T Int:=xe8 op sz nn al at_ off by_ top .ret
theorem xrC(op sz nn al at_ off by_ top)(κ:Int->T β):(xcX op sz nn al at_ off by_ top).bind κ=xe8 op sz nn al at_ off by_ top κ:=by
 unfold xcX xe8;simp only[bz,xhK]
def xcY(n0:Nat)(b1:Bool)(q3:RowsL)(a4 a5 a6:Int)(κ0:Unit->T β)(κ1:Unit->T β)(i:Int)(k:Int->T β):T β:=
 bif decide (i < ↑n0)then(ixT n0 q3 i (bif decide (gX q3 i 0<i64.wrap (a4+a6))then(ixT n0 q3 i (ixT n0 q3 i (bif decide (a4<i64.wrap (gX q3 i 0+gX q3 i 2))then(κ0 ()) else
 k (i64.wrap (i+1))))) else
 k (i64.wrap (i+1)))) else
 κ1 ()
def vn(n0:Nat)(b1:Bool)(q3:RowsL)(a4 a5 a6 a2:Int)(κ0:Unit->T β)(κ1:Unit->T β):T β:=xu xa (xcY n0 b1 q3 a4 a5 a6 κ0 κ1) a2
theorem Yg{β γ:Type}(n0 b1 q3 a4 a5 a6 a2 κ0 κ1)(κ:β->T γ):(vn n0 b1 q3 a4 a5 a6 a2 κ0 κ1).bind κ=vn n0 b1 q3 a4 a5 a6 a2 (fun u=>(κ0 u).bind κ) (fun u=>(κ1 u).bind κ):=by
 unfold vn;refine xi κ (fun i k =>?_) _ _
 unfold xcY ixT gX;simp only[bz]
def xhM:Pat:=⟨xk 90 0 [(0,.c (.slr 0)),(5,.c (.raw (.ptr 1 0))),(8,.c (.raw (.nils))),(9,.c (.bool)),(10,.c (.int .i64))],[some ⟨[], 130,true,some (.rows [.int .i64,.int .i64,.int .i64])⟩,some ⟨[.int .i64,.int .i64,.int .i64], 130,false,none⟩]⟩
def xrD:Pat:=⟨xk 90 0 [(0,.c (.slr 0)),(5,.c (.raw (.ptr 1 0))),(8,.c (.slr 0)),(9,.c (.bool))],[some ⟨[], 130,true,some (.rows [.int .i64,.int .i64,.int .i64])⟩,some ⟨[.int .i64,.int .i64,.int .i64], 130,false,none⟩]⟩
def xrE:Pat:=⟨xk 90 0 [(0,.c (.slr 0)),(5,.c (.raw (.ptr 1 0))),(8,.c (.raw (.nils))),(9,.c (.bool))],[some ⟨[], 130,true,some (.rows [.int .i64,.int .i64,.int .i64])⟩,some ⟨[.int .i64,.int .i64,.int .i64], 130,false,none⟩]⟩
def WF:LF:=fun st K=>match xr xhM st with
 | some [.n n0,.b b1,.i a2,.r q3,.i a4,.i a5,.i a6]=>some (vn n0 b1 q3 a4 a5 a6 a2 (fun _=>K (.ret) (xe xrD [.n n0,.n n0,.b false,.r q3,.i a4,.i a5,.i a6])) (fun _=>K (.exit 0) (xe xrE [.n n0,.b b1,.r q3,.i a4,.i a5,.i a6])))
 | _=>none
theorem xvc:∀st K t,WF st K=some t->xD xa (lf kj0 (⟨xa,[⟨2000000,0,.col .i64⟩],true⟩:Fu) 1 .no [1,1,0,1,0] Tryz.f124 K) st=t:=by
 intro st K t h;unfold WF at h;split at h
 .rename_i n0 b1 a2 q3 a4 a5 a6 hm;cases h;rw[xj hm];unfold vn;exact xt (S:=fun(i:Int)=>xe xhM [.n n0,.b b1,.i i,.r q3,.i a4,.i a5,.i a6]) (fun i k=>by kernel_rfl) xa a2
 .cases h
def xe9(n:Nat)(L:RowsL)(p q u al top:Int)(κ:(Option (Nat×RowsL))->T β):T β:=
 bif decide (p<0)then(κ none) else
 bif decide (p>top)then(κ none) else
 bif decide (u>i64.wrap (top-p))then(κ none) else
 bif decide (u<q)then(κ none) else
 bif Int.tmod p 8 != 0 then(κ none) else
 bif !al==0 then(bif Int.tmod p al != 0 then(κ none) else
 vn n false L p q u 0 (fun ml=>
 κ none)  (fun ml=>
 bif Nat.beq 0 0&&Nat.ble 0 1000&&we none n L&&Nat.ble n 1000 then(bif Nat.beq (List.length ([]++cutL none n L)) (0+n)&&Nat.ble (0+n) 1000 then(κ (some (0+n+1,[]++cutL none n L ++ [[p,q,u]]))) else
 .fail) else
 .fail)) else
 .fail
def xvd(n:Nat)(L:RowsL)(p q u al top:Int):T (Option (Nat×RowsL)):=xe9 n L p q u al top .ret
theorem xdU(n:Nat)(L:RowsL)(p q u al top:Int)(κ:(Option (Nat×RowsL))->T β):(xvd n L p q u al top).bind κ=xe9 n L p q u al top κ:=by
 unfold xvd xe9;simp only[bz,Yg]
def xhN:Sm:=fun
 | [.c (.slr 0 n),.c (.int .i64 at_)],[some ⟨[], 130,true,some (.rows [.int .i64,.int .i64,.int .i64] L)⟩]=>some (mkS Int (wa n L at_) fun r=>some (.c (.int .i64 r),[some ⟨[], 130,true,some (.rows [.int .i64,.int .i64,.int .i64] L)⟩]))
 | _,_=>none
theorem xrF:Good Tryz.prog (xp kj0) xa 1 (lsAt WB .no [1,0,1,0]) (Tryz.f71.body.getD .skip) (xw Tryz.f71.results.toList):=(xB (xg (by kernel_rfl)) xA xu9)
variable{σ:Type}{I:Port Tryz.prog σ}
theorem xve(hl:SoundL I kj0):SoundF I 71 xhN:=by
 refine sq hl xa Tryz.func71 fun _ _ t ht =>?_
 unfold xhN at ht;split at ht
 .rename_i n at_ L;cases ht;refine(xE (P:= Tryz.prog) (n:=xa) (x:=(lsAt WB .no [1,0,1,0])) (fn:= Tryz.f71) (H :=[some ⟨[], 130,true,some (.rows [.int .i64,.int .i64,.int .i64] L)⟩]) (c:= Tryz.f71.body.getD .skip) (xg (by kernel_rfl)) xrF).symm.trans ?_
  exact ey (xrz n L at_ _)
 .cases ht
def xhO:Sm:=fun
 | [.c (.slr 0 n),.c (.int .i64 k)],[some ⟨[], 130,true,some (.rows [.int .i64,.int .i64,.int .i64] L)⟩]=>some (mkS ((Nat×RowsL)) (vo n L k) fun r=>some (.c (.slr 1 r.1),[some ⟨[], 130,true,some (.rows [.int .i64,.int .i64,.int .i64] L)⟩,some ⟨[], 130,true,some (.rows [.int .i64,.int .i64,.int .i64] r.2)⟩]))
 | _,_=>none
theorem xvf(hl:SoundL I kj0):SoundF I 72 xhO:=by
 refine sq hl 1 Tryz.func72 fun _ _ t ht =>?_
 unfold xhO at ht;split at ht
 .rename_i n k L;cases ht;exact ey (xrA n L k _)
 .cases ht
def xhP:Sm:=fun
 | [.c (.int .i64 x)],[]=>some (mkS Bool (ZU x) fun r=>some (.c (.bool r),[]))
 | _,_=>none
theorem xrG:Good Tryz.prog (xp kj0) xa 0 (lsAt WD .no [1,0,0]) (Tryz.f123.body.getD .skip) (xw Tryz.f123.results.toList):=(xB (xg (by kernel_rfl)) xA xva)
theorem xvg(hl:SoundL I kj0):SoundF I 123 xhP:=by
 refine sq hl xa Tryz.func123 fun _ _ t ht =>?_
 unfold xhP at ht;split at ht
 .rename_i x;cases ht;refine(xE (P:= Tryz.prog) (n:=xa) (x:=(lsAt WD .no [1,0,0])) (fn:= Tryz.f123) (H :=[]) (c:= Tryz.f123.body.getD .skip) (xg (by kernel_rfl)) xrG).symm.trans ?_
  exact ey (xrB x _)
 .cases ht
def xhQ:Sm:=fun
 | [.agg [.int .u8 op,.int .i64 sz,.int .i64 nn,.int .i64 al,.int .i64 at_,.int .i64 off,.int .u8 by_],.c (.int .i64 top)],[]=>some (mkS Int (xcX op sz nn al at_ off by_ top) fun r=>some (.c (.int .i64 r),[]))
 | _,_=>none
theorem xrH:Good Tryz.prog (xp kj0) xa 0 (lsAt WE .no [1,1,1,0,1,0]) (Tryz.f121.body.getD .skip) (xw Tryz.f121.results.toList):=(xB (xg (by kernel_rfl)) xA xvb)
theorem xvh(hl:SoundL I kj0):SoundF I 121 xhQ:=by
 refine sq hl xa Tryz.func121 fun _ _ t ht =>?_
 unfold xhQ at ht;split at ht
 .rename_i op sz nn al at_ off by_ top;cases ht;refine(xE (P:= Tryz.prog) (n:=xa) (x:=(lsAt WE .no [1,1,1,0,1,0])) (fn:= Tryz.f121) (H :=[]) (c:= Tryz.f121.body.getD .skip) (xg (by kernel_rfl)) xrH).symm.trans ?_
  exact ey (xrC op sz nn al at_ off by_ top _)
 .cases ht
def xhR:Sm:=fun
 | [.c (.slr 0 n),.agg [.int .i64 p,.int .i64 q,.int .i64 u],.c (.int .i64 al),.c (.int .i64 top)],[some ⟨[], 130,true,some (.rows [.int .i64,.int .i64,.int .i64] L)⟩]=>some ⟨(Option (Nat×RowsL)),xvd n L p q u al top,fun r=>match r with|none=>some (.tup [.c (.slr 0 n),.c (.bool false)],[some ⟨[], 130,true,some (.rows [.int .i64,.int .i64,.int .i64] L)⟩])|some x=>some (.tup [.c (.slr 1 x.1),.c (.bool true)],[some ⟨[], 130,true,some (.rows [.int .i64,.int .i64,.int .i64] L)⟩,some ⟨[], 130,true,some (.rows [.int .i64,.int .i64,.int .i64] x.2)⟩]),fun _ κ=>xe9 n L p q u al top κ,fun _ κ=>(xdU n L p q u al top κ).symm⟩
 | _,_=>none
theorem xrI:Good Tryz.prog (xp kj0) (⟨xa,[⟨2000000,0,.col .i64⟩],true⟩:Fu) 1 (lsAt WF .no [1,1,0,1,0]) (Tryz.f124.body.getD .skip) (xw Tryz.f124.results.toList):=(xB (xg (by kernel_rfl)) xA xvc)
theorem xvi(hl:SoundL I kj0):SoundF I 124 xhR:=by
 refine vD hl (⟨xa,[⟨2000000,0,.col .i64⟩],true⟩:Fu) Tryz.func124 (by kernel_rfl) (by kernel_rfl) fun _ _ t ht =>?_
 unfold xhR at ht;split at ht
 .rename_i n p q u al top L;cases ht;refine(xE (P:= Tryz.prog) (n:=(⟨xa,[⟨2000000,0,.col .i64⟩],true⟩:Fu)) (x:=(lsAt WF .no [1,1,0,1,0])) (fn:= Tryz.f124) (H :=[some ⟨[], 130,true,some (.rows [.int .i64,.int .i64,.int .i64] L)⟩]) (c:= Tryz.f124.body.getD .skip) (xg (by kernel_rfl)) xrI).symm.trans ?_
  exact ey (xdU n L p q u al top _)
 .cases ht
noncomputable def kj1:List (Nat×Sm):=(71,xhN)::(72,xhO)::(123,xhP)::(121,xhQ)::(124,xhR)::kj0
theorem s_kj1:SoundL I kj1:=(.cons (xve xkt) (.cons (xvf xkt) (.cons (xvg xkt) (.cons (xvh xkt) (.cons (xvi xkt) xkt)))))
end Lx
namespace Lx
variable{β:Type}(g:Geo)
open Go
def xX(v0 v1:Int)(v2:(Bool×Option (Nat×RowsL))->T β)(v3:Int):T β:=
 bif v0==0 then(bif v1==0 then(v2 (v3==0,none)) else
 v2 (false,none)) else
 v2 (false,none)
def vg(v0 v1 v2 v3:Int)(v4:(Bool×Option (Nat×RowsL))->T β):T β:=
 bif v0==15 then(bif v1==0 then(bif v2==0 then(bif v3==0 then(v4 (true,none)) else
 bif v0==5 then(xX v1 v2 v4 v3) else
 v4 (false,none)) else
 bif v0==5 then(xX v1 v2 v4 v3) else
 v4 (false,none)) else
 bif v0==5 then(xX v1 v2 v4 v3) else
 v4 (false,none)) else
 bif v0==5 then(xX v1 v2 v4 v3) else
 v4 (false,none)
def vq(v0:Nat)(v1:RowsL)(v2 v3 v4:Int)(v5:(Bool×Option (Nat×RowsL))->T β):T β:=
 vn v0 false v1 v2 v3 v4 0 (fun El=>
 v5 (false,none))  (fun El=>
 bif Nat.beq 0 0&&Nat.ble 0 1000&&we none v0 v1&&Nat.ble v0 1000 then(bif Nat.beq (List.length ([]++cutL none v0 v1)) (0+v0)&&Nat.ble (0+v0) 1000 then(v5 (true,(some (0+v0+1,(([]++cutL none v0 v1) ++ [[v2,v3,v4]]))))) else
 .fail) else
 .fail)
def vh(v0 v1 v2 v3:Int)(v4:(Bool×Option (Nat×RowsL))->T β)(v5 v6 v7 v8:Int)(v9:Nat)(oy:RowsL):T β:=
 bif v0==0 then(bif v1==11 then(xX v2 v3 v4 v5) else
 v4 (false,none)) else
 bif v6==3 then((ZU v7).bind fun r5=>
 bif !r5 then(bif v1==12 then(xX v2 v3 v4 v5) else
 v4 (false,none)) else
 bif v1 != 0 then(vg v1 v2 v3 v5 v4) else
 bif decide (v2<0)then(v4 (false,none)) else
 bif decide (v2>v8)then(v4 (false,none)) else
 bif decide (v3>i64.wrap (v8-v2))then(v4 (false,none)) else
 bif decide (v3<v0)then(v4 (false,none)) else
 bif Int.tmod v2 8 != 0 then(v4 (false,none)) else
 bif !v7==0 then(bif Int.tmod v2 v7 != 0 then(v4 (false,none)) else
 vq v9 oy v2 v0 v3 v4) else
 .fail) else
 (ZU 1).bind fun r5=>
 bif !r5 then(bif v1==12 then(xX v2 v3 v4 v5) else
 v4 (false,none)) else
 bif v1 != 0 then(vg v1 v2 v3 v5 v4) else
 bif decide (v2<0)then(v4 (false,none)) else
 bif decide (v2>v8)then(v4 (false,none)) else
 bif decide (v3>i64.wrap (v8-v2))then(v4 (false,none)) else
 bif decide (v3<v0)then(v4 (false,none)) else
 bif Int.tmod v2 8 != 0 then(v4 (false,none)) else
 bif Int.tmod v2 1 != 0 then(v4 (false,none)) else
 vq v9 oy v2 v0 v3 v4
def yT(v0 v1 v2 v3:Int)(v4:(Bool×Option (Nat×RowsL))->T β)(v5 v6:Int)(v7:Nat)(v8:RowsL)(v9:Int):T β:=
 bif decide (v0<0)then(bif v1==13 then(xX v2 v3 v4 v5) else
 v4 (false,none)) else
 bif v6==5 then((vo v7 v8 v0).bind fun dq=>
 v4 (v1==0,(some (dq.1,dq.2)))) else
 bif v6==6 then(bif v1==0 then(ixT v7 v8 v0 (v4 (v3==gX v8 v0 2,none))) else
 v4 (false,none)) else
 bif decide (v9<0)then(bif v1==14 then(xX v2 v3 v4 v5) else
 v4 (false,none)) else
 ixT v7 v8 v0 (bif decide (v9>=gX v8 v0 1)then(bif v1==14 then(xX v2 v3 v4 v5) else
 v4 (false,none)) else
 v4 (v1==0,none))
def jQ(n:Nat)(L:RowsL)(th op sz nn al at_ off by_ fr to_ lin tc:Int)(dn:Bool)(ra rn rb u1 u2 u3 u4 u5 re rl rt top:Int)(κ:(Bool×Option (Nat×RowsL))->T β):T β:=
 (wa n L at_).bind fun r0=>
 (xcX op sz nn al at_ off by_ top).bind fun r1=>
 bif op==1 then(vh r1 re ra rn κ rb op al top n L) else
 bif op==2 then(vh r1 re ra rn κ rb op al top n L) else
 bif op==3 then(vh r1 re ra rn κ rb op al top n L) else
 bif op==4 then(bif r1==0 then(bif re==11 then(xX ra rn κ rb) else
 κ (false,none)) else
 bif decide (r0<0)then(bif re==13 then(xX ra rn κ rb) else
 κ (false,none)) else
 bif re != 0 then(vg re ra rn rb κ) else
 bif ra==at_ then(ixT n L r0 (bif rn==gX L r0 2 then((vo n L r0).bind fun gy=>
 bif Nat.beq (List.length gy.2) gy.1&&Nat.ble gy.1 1000 then(κ (decide (r1<=rn),(some (gy.1+1,gy.2 ++ [[ra,r1,rn]])))) else
 .fail) else
 (vo n L r0).bind fun gy=>
 bif Nat.beq (List.length gy.2) gy.1&&Nat.ble gy.1 1000 then(κ (false,(some (gy.1+1,gy.2 ++ [[ra,r1,rn]])))) else
 .fail)) else
 (vo n L r0).bind fun ck=>
 bif decide (ra<0)then(κ (false,(some (ck.1,ck.2)))) else
 bif decide (ra>top)then(κ (false,(some (ck.1,ck.2)))) else
 bif decide (rn>i64.wrap (top-ra))then(κ (false,(some (ck.1,ck.2)))) else
 bif decide (rn<r1)then(κ (false,(some (ck.1,ck.2)))) else
 bif Int.tmod ra 8 != 0 then(κ (false,(some (ck.1,ck.2)))) else
 bif Int.tmod ra 1 != 0 then(κ (false,(some (ck.1,ck.2)))) else
 vn ck.1 false ck.2 ra r1 rn 0 (fun Ej=>
 κ (false,(some (ck.1,ck.2))))  (fun Ej=>
 bif Nat.beq 0 0&&Nat.ble 0 1000&&we none ck.1 ck.2&&Nat.ble ck.1 1000 then(bif Nat.beq (List.length ([]++cutL none ck.1 ck.2)) (0+ck.1)&&Nat.ble (0+ck.1) 1000 then(κ (true,(some (0+ck.1+1,(([]++cutL none ck.fst ck.snd) ++ [[ra,r1,rn]]))))) else
 .fail) else
 .fail)) else
 bif op==9 then(κ (re==0,none)) else
 bif op==11 then(κ (re==0,none)) else
 bif op==10 then(bif re==0 then(κ (true,none)) else
 bif re==5 then(xX ra rn κ rb) else
 κ (false,none)) else
 bif op==5 then(yT r0 re ra rn κ rb op n L off) else
 bif op==6 then(yT r0 re ra rn κ rb op n L off) else
 bif op==7 then(yT r0 re ra rn κ rb op n L off) else
 bif op==8 then(yT r0 re ra rn κ rb op n L off) else
 bif re==1 then(xX ra rn κ rb) else
 κ (false,none)
def rgtT(n:Nat)(L:RowsL)(th op sz nn al at_ off by_ fr to_ lin tc:Int)(dn:Bool)(ra rn rb u1 u2 u3 u4 u5 re rl rt top:Int):T (Bool×Option (Nat×RowsL)):=jQ n L th op sz nn al at_ off by_ fr to_ lin tc dn ra rn rb u1 u2 u3 u4 u5 re rl rt top .ret
theorem xku(n:Nat)(L:RowsL)(th op sz nn al at_ off by_ fr to_ lin tc:Int)(dn:Bool)(ra rn rb u1 u2 u3 u4 u5 re rl rt top:Int)(κ:(Bool×Option (Nat×RowsL))->T β):(rgtT n L th op sz nn al at_ off by_ fr to_ lin tc dn ra rn rb u1 u2 u3 u4 u5 re rl rt top).bind κ=jQ n L th op sz nn al at_ off by_ fr to_ lin tc dn ra rn rb u1 u2 u3 u4 u5 re rl rt top κ:=by
 unfold rgtT jQ vh vq vg yT xX ixT gX;simp only[bz,Yg]
def xAP:Sm:=fun
 | [.c (.slr 0 n),.agg [.int .i64 th,.int .u8 op,.int .i64 sz,.int .i64 nn,.int .i64 al,.int .i64 at_,.int .i64 off,.int .u8 by_,.int .i64 fr,.int .i64 to_,.int .i64 lin,.int .i64 tc,.bool dn,.int .i64 ra,.int .i64 rn,.int .u8 rb,.int .u64 u1,.int .u64 u2,.int .u64 u3,.int .u64 u4,.int .u64 u5,.int .i64 re,.int .i64 rl,.int .i64 rt],.c (.int .i64 top)],[some ⟨[], 130,true,some (.rows [.int .i64,.int .i64,.int .i64] L)⟩]=>some ⟨(Bool×Option (Nat×RowsL)),rgtT n L th op sz nn al at_ off by_ fr to_ lin tc dn ra rn rb u1 u2 u3 u4 u5 re rl rt top,fun r=>match r.2 with|none=>some (.tup [.c (.slr 0 n),.c (.bool r.1)],[some ⟨[], 130,true,some (.rows [.int .i64,.int .i64,.int .i64] L)⟩])|some x=>some (.tup [.c (.slr 1 x.1),.c (.bool r.1)],[some ⟨[], 130,true,some (.rows [.int .i64,.int .i64,.int .i64] L)⟩,some ⟨[], 130,true,some (.rows [.int .i64,.int .i64,.int .i64] x.2)⟩]),fun _ κ=>jQ n L th op sz nn al at_ off by_ fr to_ lin tc dn ra rn rb u1 u2 u3 u4 u5 re rl rt top κ,fun _ κ=>(xku n L th op sz nn al at_ off by_ fr to_ lin tc dn ra rn rb u1 u2 u3 u4 u5 re rl rt top κ).symm⟩
 | _,_=>none
variable{σ:Type}{I:Port Tryz.prog σ}
theorem xAQ(hl:SoundL I kj1):SoundF I 64 xAP:=by
 refine vD hl (⟨xa,[⟨2000000,0,.col .i64⟩],true⟩:Fu) Tryz.func64 (by kernel_rfl) (by kernel_rfl) fun _ _ t ht =>?_
 unfold xAP at ht;split at ht
 .rename_i n th op sz nn al at_ off by_ fr to_ lin tc dn ra rn rb u1 u2 u3 u4 u5 re rl rt top L;cases ht;exact ey (xku n L th op sz nn al at_ off by_ fr to_ lin tc dn ra rn rb u1 u2 u3 u4 u5 re rl rt top _)
 .cases ht
end Lx
namespace Lx
open Go
theorem Emb.sink{pv:Value}{r0:Nat×Nat}{k0:Blk}{w:World}(E:Emb pv [r0] [some k0] w)(hk:k0.cells = [])(ht:k0.tab.isSome=true):Emb pv ([r0] ++ [r0]) [none,some k0] w/\ ∀q b,Own q ([r0] ++ [r0]) [none,some k0] b->Own q [r0] [some k0] b:=by
 have hx:Ext [r0] ([r0] ++ [r0]):=⟨_,rfl⟩
 have one : ∀i k,blkAt [none,some k0] i=some k->i=1/\k=k0:=by
  intro i k h
  match i with
  | 0=>simp[blkAt]at h
  | 1=>simp[blkAt]at h;exact⟨rfl,h.symm⟩
  | i+2=>simp[blkAt]at h
 refine⟨⟨rfl,fun i k h =>?_,fun i j k k' r r' h1 h2 _ _ _ _ _ =>.inl ?_,fun i k h =>?_⟩,?_⟩
 .obtain⟨rfl,rfl⟩:=one i k h;obtain⟨r,cs,h1,h2,h3⟩:=E.lies 0 k rfl;cases h1;exact⟨_,cs,rfl,ym hx _ _ h2,h3⟩
 .rw[(one i k h1).1,(one j k' h2).1]
 .obtain⟨rfl,rfl⟩:=one i k h;exact E.ok 0 k rfl
 .rintro q b ⟨i,k,r,h1,h2,h3,h4,h5⟩
  obtain⟨rfl,rfl⟩:=one i k h1;cases h2;exact⟨0,k,_,rfl,rfl,h3,h4,h5⟩
theorem Emb.drop0{pv:Value}{e:Env}{k0 k1:Blk}{w:World}(E:Emb pv e [some k0,some k1] w):Emb pv e [none,some k1] w/\ ∀q b,Own q e [none,some k1] b->Own q e [some k0,some k1] b:=by
 have one : ∀i k,blkAt [none,some k1] i=some k->blkAt [some k0,some k1] i=some k:=by
  intro i k h
  match i with
  | 0=>simp[blkAt]at h
  | 1=>exact h
  | i+2=>simp[blkAt]at h
 refine⟨⟨E.len,fun i k h=>E.lies i k (one i k h),fun i j k k' r r' h1 h2=>E.alone i j k k' r r' (one i k h1) (one j k' h2),fun i k h=>E.ok i k (one i k h)⟩,?_⟩
 rintro q b ⟨i,k,r,h1,h2⟩
 exact⟨i,k,r,one i k h1,h2⟩
abbrev Rgt:=Bool×Nat×RowsL
def rgtU(n:Nat)(L:RowsL)(th op sz nn al at_ off by_ fr to_ lin tc:Int)(dn:Bool)(ra rn rb u1 u2 u3 u4 u5 re rl rt top:Int):T Rgt:=
 (rgtT n L th op sz nn al at_ off by_ fr to_ lin tc dn ra rn rb u1 u2 u3 u4 u5 re rl rt top).bind fun r =>.ret (r.1,r.2.getD (n,L))
def xvj:Sm:=fun
 | [.c (.slr 0 n),.agg [.int .i64 th,.int .u8 op,.int .i64 sz,.int .i64 nn,.int .i64 al,.int .i64 at_,.int .i64 off,.int .u8 by_,.int .i64 fr,.int .i64 to_,.int .i64 lin,.int .i64 tc,.bool dn,.int .i64 ra,.int .i64 rn,.int .u8 rb,.int .u64 u1,.int .u64 u2,.int .u64 u3,.int .u64 u4,.int .u64 u5,.int .i64 re,.int .i64 rl,.int .i64 rt],.c (.int .i64 top)],
  [some ⟨[], 130,true,some (.rows [.int .i64,.int .i64,.int .i64] L)⟩]=>
  some (mkS Rgt (rgtU n L th op sz nn al at_ off by_ fr to_ lin tc dn ra rn rb u1 u2 u3 u4 u5 re rl rt top) fun r=>some (.tup [.c (.slr 1 r.2.1),.c (.bool r.1)],[none,some ⟨[], 130,true,some (.rows [.int .i64,.int .i64,.int .i64] r.2.2)⟩]))
 | _,_=>none
variable{σ:Type}{I:Port Tryz.prog σ}
theorem xAR:SoundF I 64 xvj:=by
 have hs:=xAQ (I:=I) s_kj1
 refine⟨hs.1,fun args H S hm e w s F vs E hv hR hF x v H' s' hrun cx =>?_⟩
 unfold xvj at hm;split at hm
 .rename_i n th op sz nn al at_ off by_ fr to_ lin tc dn ra rn rb u1 u2 u3 u4 u5 re rl rt top L;cases hm;obtain⟨y,s1,h1,h2⟩:=T.run_bind_some hrun;simp only[T.run,oI,dH]at h2;obtain⟨rfl,rfl⟩:=h2;simp only[oI,dH]at cx;obtain⟨rfl,rfl⟩:=cx;obtain⟨ok,o⟩:=y;cases o with
  | none=>
   refine(hs.2 _ _ _ rfl e w s F vs E hv hR hF (ok,none) _ _ _ h1 rfl).mono ?_
   rintro en w' ⟨e',F',rv,g1,g2,g3,g4,g5,g6,g7,g8⟩
   obtain⟨r0,rfl⟩ : ∃r,e' = [r]:=by
    have:=g4.len
    match e',this with
    | [r],_=>exact⟨r,rfl⟩
   obtain⟨E2,ho⟩:=g4.sink rfl rfl;refine⟨[r0] ++ [r0],F',rv,g1,g2.trans ⟨_,rfl⟩,?_,E2,g5,fun b hb=>g6 b (ho _ b hb),g7,fun q b hb=>g8 q b (hb.imp (ho q b) id)⟩
   simpa[denV,allSome,yV,den]using g3
  | some z=>
   refine(hs.2 _ _ _ rfl e w s F vs E hv hR hF (ok,some z) _ _ _ h1 rfl).mono ?_
   rintro en w' ⟨e',F',rv,g1,g2,g3,g4,g5,g6,g7,g8⟩
   obtain⟨E2,ho⟩:=g4.drop0;exact⟨e',F',rv,g1,g2,g3,E2,g5,fun b hb=>g6 b (ho _ b hb),g7,fun q b hb=>g8 q b (hb.imp (ho q b) id)⟩
 .cases hm
noncomputable def kj2a:List (Nat×Sm):=(64,xvj)::kj1
theorem xAS:SoundL I kj2a :=.cons xAR s_kj1
noncomputable def kj2:List (Nat×Sm):=(68,inl Tryz.prog (xp kj2a) 1 Tryz.f68)::kj2a
theorem xwX:SoundL I kj2 :=.cons (ja xAS 1 Tryz.func68 (by kernel_rfl) (by kernel_rfl)) xAS
end Lx
namespace Lx
variable{β:Type}(g:Geo)
open Go
def xnJ(n0:Nat)(b1:Bool)(a2:Int)(q4:RowsL)(a5 a6 a7 a8 a9 be bd ay ca bu bj bn:Int)(b17:Bool)(dg dr e9 ez eu lm ct cy lk cd fk:Int)(κ0:Unit->T β)(κ1:Unit->T β)(i:Int)(k:Int->T β):T β:=
 bif decide (i<a2)then(ixT n0 q4 i (bif gX q4 i 10==bj then(κ0 ()) else
 k (i64.wrap (i+1)))) else
 κ1 ()
def qo(n0:Nat)(b1:Bool)(a2:Int)(q4:RowsL)(a5 a6 a7 a8 a9 be bd ay ca bu bj bn:Int)(b17:Bool)(dg dr e9 ez eu lm ct cy lk cd fk a3:Int)(κ0:Unit->T β)(κ1:Unit->T β):T β:=xu xa (xnJ n0 b1 a2 q4 a5 a6 a7 a8 a9 be bd ay ca bu bj bn b17 dg dr e9 ez eu lm ct cy lk cd fk κ0 κ1) a3
theorem xnK{β γ:Type}(n0 b1 a2 q4 a5 a6 a7 a8 a9 be bd ay ca bu bj bn b17 dg dr e9 ez eu lm ct cy lk cd fk a3 κ0 κ1)(κ:β->T γ):(qo n0 b1 a2 q4 a5 a6 a7 a8 a9 be bd ay ca bu bj bn b17 dg dr e9 ez eu lm ct cy lk cd fk a3 κ0 κ1).bind κ=qo n0 b1 a2 q4 a5 a6 a7 a8 a9 be bd ay ca bu bj bn b17 dg dr e9 ez eu lm ct cy lk cd fk a3 (fun u=>(κ0 u).bind κ) (fun u=>(κ1 u).bind κ):=by
 unfold qo;refine xi κ (fun i k =>?_) _ _
 unfold xnJ ixT gX;simp only[bz]
def xrJ:Pat:=⟨xk 71 0 [(0,.c (.slr 0)),(2,.c (.bool)),(3,.c (.int .i64)),(4,.c (.raw (.ptr 1 0))),(5,.c (.int .i64))],[some ⟨[], 78,true,some (.rows ek)⟩,some ⟨ekp, 78,false,none⟩]⟩
def WG:Pat:=⟨xk 71 0 [(0,.c (.slr 0)),(2,.c (.bool)),(3,.c (.int .i64))],[some ⟨[], 78,true,some (.rows ek)⟩]⟩
def xbg:LF:=fun st K=>match xr xrJ st with
 | some [.n n0,.b b1,.i a2,.i a3,.r q4,.i a5,.i a6,.i a7,.i a8,.i a9,.i be,.i bd,.i ay,.i ca,.i bu,.i bj,.i bn,.b b17,.i dg,.i dr,.i e9,.i ez,.i eu,.i lm,.i ct,.i cy,.i lk,.i cd,.i fk]=>some (qo n0 b1 a2 q4 a5 a6 a7 a8 a9 be bd ay ca bu bj bn b17 dg dr e9 ez eu lm ct cy lk cd fk a3 (fun _=>K (.ret) (xe WG [.n n0,.b false,.i a2,.r q4])) (fun _=>K (.exit 2) (xe WG [.n n0,.b b1,.i a2,.r q4])))
 | _=>none
theorem xAT:∀st K t,xbg st K=some t->xD xa (lf kj2 xa 1 .no [1,0,1,0,0,1,0,0,1,1,1,1,1,0] Tryz.f62 K) st=t:=by
 intro st K t h;unfold xbg at h;split at h
 .rename_i n0 b1 a2 a3 q4 a5 a6 a7 a8 a9 be bd ay ca bu bj bn b17 dg dr e9 ez eu lm ct cy lk cd fk hm;cases h;rw[xj hm];unfold qo;exact xt (S:=fun(i:Int)=>xe xrJ [.n n0,.b b1,.i a2,.i i,.r q4,.i a5,.i a6,.i a7,.i a8,.i a9,.i be,.i bd,.i ay,.i ca,.i bu,.i bj,.i bn,.b b17,.i dg,.i dr,.i e9,.i ez,.i eu,.i lm,.i ct,.i cy,.i lk,.i cd,.i fk]) (fun i k=>by kernel_rfl) xa a3
 .cases h
def xhS(v0:Nat)(v1:Bool)(v2:Int)(v3:RowsL)(v4:Unit->T β)(v5:Int->T β):T β:=
 qo v0 v1 v2 v3 (gX v3 v2 0) (gX v3 v2 1) (gX v3 v2 2) (gX v3 v2 3) (gX v3 v2 4) (gX v3 v2 5) (gX v3 v2 6) (gX v3 v2 7) (gX v3 v2 8) (gX v3 v2 9) (gX v3 v2 10) (gX v3 v2 11) (gX v3 v2 12 != 0) (gX v3 v2 13) (gX v3 v2 14) (gX v3 v2 15) (gX v3 v2 16) (gX v3 v2 17) (gX v3 v2 18) (gX v3 v2 19) (gX v3 v2 20) (gX v3 v2 21) (gX v3 v2 22) (gX v3 v2 23) 0 (fun Eo=>
 v4 ())  (fun Eo=>
 v5 (i64.wrap (v2+1)))
def xnL(v0:RowsL)(v1:Int)(v2:Unit->T β)(v3:Nat)(v4:Bool)(v5:Int->T β):T β:=
 bif decide (gX v0 v1 11>0)then(bif decide (gX v0 v1 11<=gX v0 v1 10)then(v2 ()) else
 bif gX v0 v1 12 != 0 then(bif decide (gX v0 v1 11>gX v0 v1 9)then(v2 ()) else
 xhS v3 v4 v1 v0 v2 v5) else
 xhS v3 v4 v1 v0 v2 v5) else
 xhS v3 v4 v1 v0 v2 v5
def xnM(n0:Nat)(b1:Bool)(q3:RowsL)(κ0:Unit->T β)(κ1:Unit->T β)(i:Int)(k:Int->T β):T β:=
 bif decide (i < ↑n0)then(ixT n0 q3 i (bif decide (gX q3 i 10<1)then(bif gX q3 i 12 != 0 then(κ0 ()) else
 k (i64.wrap (i+1))) else
 bif decide (gX q3 i 10<gX q3 i 8)then(κ0 ()) else
 bif gX q3 i 12 != 0 then(bif decide (gX q3 i 10>gX q3 i 9)then(κ0 ()) else
 xnL q3 i κ0 n0 b1 k) else
 xnL q3 i κ0 n0 b1 k)) else
 κ1 ()
def ZV(n0:Nat)(b1:Bool)(q3:RowsL)(a2:Int)(κ0:Unit->T β)(κ1:Unit->T β):T β:=xu xa (xnM n0 b1 q3 κ0 κ1) a2
theorem xnN{β γ:Type}(n0 b1 q3 a2 κ0 κ1)(κ:β->T γ):(ZV n0 b1 q3 a2 κ0 κ1).bind κ=ZV n0 b1 q3 a2 (fun u=>(κ0 u).bind κ) (fun u=>(κ1 u).bind κ):=by
 unfold ZV;refine xi κ (fun i k =>?_) _ _
 unfold xnM ixT xnL xhS gX;simp only[bz,xnK]
def xkv:Pat:=⟨xk 71 0 [(2,.c (.bool))],[some ⟨[], 78,true,some (.rows ek)⟩]⟩
def xfa:LF:=fun st K=>match xr WG st with
 | some [.n n0,.b b1,.i a2,.r q3]=>some (ZV n0 b1 q3 a2 (fun _=>K (.ret) (xe xkv [.b false,.r q3])) (fun _=>K (.exit 0) (xe xkv [.b b1,.r q3])))
 | _=>none
theorem xAU:∀st K t,xfa st K=some t->xD xa (lf kj2 xa 1 (lsAt xbg .no [1,0,0,1,1,1,1,1,0]) [1,0,1,0] Tryz.f62 K) st=t:=by
 intro st K t h;unfold xfa at h;split at h
 .rename_i n0 b1 a2 q3 hm;cases h;rw[xj hm];unfold ZV;exact xt (S:=fun(i:Int)=>xe WG [.n n0,.b b1,.i i,.r q3]) (fun i k=>by kernel_rfl) xa a2
 .cases h
def xwY(n:Nat)(L:RowsL)(κ:Bool->T β):T β:=
 ZV n false L 0 (fun av=>
 κ false)  (fun av=>
 κ true)
def ordT(n:Nat)(L:RowsL):T Bool:=xwY n L .ret
theorem xyQ(n L)(κ:Bool->T β):(ordT n L).bind κ=xwY n L κ:=by
 unfold ordT xwY;simp only[bz,xnN]
def xnO(n0:Nat)(a1:Int)(n2 n3:Nat)(a4:Int)(q8 q9 cb:RowsL)(κ0:Nat->Bool->RowsL->T β)(i:Nat×Bool×Int×RowsL)(k:Nat×Bool×Int×RowsL->T β):T β:=
 bif decide (i.2.2.1 < ↑n3)then(bif !i.2.1 then(ixT n3 cb i.2.2.1 (ixT n0 q8 a4 (bif decide (gX cb i.2.2.1 10>gX q8 a4 10)then(ixT n0 q8 a4 (bif Nat.beq (List.length i.2.2.2) i.1&&Nat.ble i.1 1000 then(ixT n3 cb i.2.2.1 (bif Nat.beq (List.length (i.2.2.2 ++ [rX q8 a4])) (i.1+1)&&Nat.ble (i.1+1) 1000 then(k (i.1+1+1,true,i64.wrap (i.2.2.1+1),i.2.2.2 ++ [rX q8 a4] ++ [rX cb i.2.2.1])) else
 .fail)) else
 .fail)) else
 ixT n3 cb i.2.2.1 (bif Nat.beq (List.length i.2.2.2) i.1&&Nat.ble i.1 1000 then(k (i.1+1,i.2.1,i64.wrap (i.2.2.1+1),i.2.2.2 ++ [rX cb i.2.2.1])) else
 .fail)))) else
 ixT n3 cb i.2.2.1 (bif Nat.beq (List.length i.2.2.2) i.1&&Nat.ble i.1 1000 then(k (i.1+1,i.2.1,i64.wrap (i.2.2.1+1),i.2.2.2 ++ [rX cb i.2.2.1])) else
 .fail)) else
 κ0 i.1 i.2.1 (i.2.2.2)
def qp(n0:Nat)(a1:Int)(n2 n3:Nat)(a4:Int)(q8 q9 cb:RowsL)(n5:Nat)(b6:Bool)(a7:Int)(A9:RowsL)(κ0:Nat->Bool->RowsL->T β):T β:=xu xa (xnO n0 a1 n2 n3 a4 q8 q9 cb κ0) (n5,b6,a7,A9)
theorem xnP{β γ:Type}(n0 a1 n2 n3 a4 q8 q9 cb n5 b6 a7 A9 κ0)(κ:β->T γ):(qp n0 a1 n2 n3 a4 q8 q9 cb n5 b6 a7 A9 κ0).bind κ=qp n0 a1 n2 n3 a4 q8 q9 cb n5 b6 a7 A9 (fun Ct Lz Cr=>(κ0 Ct Lz Cr).bind κ):=by
 unfold qp;refine xi κ (fun i k =>?_) _ _
 unfold xnO ixT rX gX;simp only[bz]
def xrK:Pat:=⟨xk 77 0 [(0,.c (.slr 0)),(1,.c (.int .i64)),(4,.c (.slr 1)),(5,.c (.slr 2)),(6,.c (.int .i64)),(7,.c (.slr 3)),(8,.c (.bool)),(9,.c (.int .i64))],[some ⟨[], 78,true,some (.rows ek)⟩,some ⟨[], 78,true,some (.rows ek)⟩,some ⟨[], 78,true,some (.rows ek)⟩,some ⟨[], 78,true,some (.rows ek)⟩]⟩
def xyR:Pat:=⟨xk 77 0 [(0,.c (.slr 0)),(1,.c (.int .i64)),(4,.c (.slr 1)),(5,.c (.slr 2)),(6,.c (.int .i64)),(7,.c (.slr 3)),(8,.c (.bool))],[some ⟨[], 78,true,some (.rows ek)⟩,some ⟨[], 78,true,some (.rows ek)⟩,some ⟨[], 78,true,some (.rows ek)⟩,some ⟨[], 78,true,some (.rows ek)⟩]⟩
def xbh:LF:=fun st K=>match xr xrK st with
 | some [.n n0,.i a1,.n n2,.n n3,.i a4,.n n5,.b b6,.i a7,.r q8,.r q9,.r cb,.r A9]=>some (qp n0 a1 n2 n3 a4 q8 q9 cb n5 b6 a7 A9 (fun Ct Lz Cr=>K (.exit 2) (xe xyR [.n n0,.i a1,.n n2,.n n3,.i a4,.n Ct,.b Lz,.r q8,.r q9,.r cb,.r Cr])))
 | _=>none
theorem xAV:∀st K t,xbh st K=some t->xD xa (lf kj2 (⟨xa,[⟨4, 78,.rows ek⟩,⟨5, 78,.rows ek⟩,⟨7, 78,.rows ek⟩],true⟩:Fu) 1 .no [1,1,0,1,0,0,1,0,0,1,1,1,0,1,0] Tryz.f63 K) st=t:=by
 intro st K t h;unfold xbh at h;split at h
 .rename_i n0 a1 n2 n3 a4 n5 b6 a7 q8 q9 cb A9 hm;cases h;rw[xj hm];unfold qp;exact xt (S:=fun(i:Nat×Bool×Int×RowsL)=>xe xrK [.n n0,.i a1,.n n2,.n n3,.i a4,.n i.1,.b i.2.1,.i i.2.2.1,.r q8,.r q9,.r cb,.r i.2.2.2]) (fun i k=>by kernel_rfl) xa (n5,b6,a7,A9)
 .cases h
def xnQ(n0:Nat)(a1:Int)(n2:Nat)(q5 q6:RowsL)(κ0:Nat->RowsL->T β)(i:Nat×Int×RowsL)(k:Nat×Int×RowsL->T β):T β:=
 bif decide (i.2.1 < ↑n0)then(ixT n0 q5 i.2.1 (bif decide (gX q5 i.2.1 10<1)then(k (i.1,i64.wrap (i.2.1+1),i.2.2)) else
 ixT n0 q5 i.2.1 (bif decide (gX q5 i.2.1 10>a1)then(k (i.1,i64.wrap (i.2.1+1),i.2.2)) else
 qp n0 a1 n2 i.1 i.2.1 q5 q6 i.2.2 0 false 0 ([]) (fun ml Hm Bw=>
 bif !Hm then(ixT n0 q5 i.2.1 (bif Nat.beq (List.length Bw) ml&&Nat.ble ml 1000 then(k (ml+1,i64.wrap (i.2.1+1),Bw ++ [rX q5 i.2.1])) else
 .fail)) else
 k (ml,i64.wrap (i.2.1+1),Bw))))) else
 κ0 i.1 (i.2.2)
def ZW(n0:Nat)(a1:Int)(n2:Nat)(q5 q6:RowsL)(n3:Nat)(a4:Int)(q7:RowsL)(κ0:Nat->RowsL->T β):T β:=xu xa (xnQ n0 a1 n2 q5 q6 κ0) (n3,a4,q7)
theorem xnR{β γ:Type}(n0 a1 n2 q5 q6 n3 a4 q7 κ0)(κ:β->T γ):(ZW n0 a1 n2 q5 q6 n3 a4 q7 κ0).bind κ=ZW n0 a1 n2 q5 q6 n3 a4 q7 (fun Cu Co=>(κ0 Cu Co).bind κ):=by
 unfold ZW;refine xi κ (fun i k =>?_) _ _
 unfold xnQ ixT rX gX;simp only[bz,xnP]
def xrL:Pat:=⟨xk 77 0 [(0,.c (.slr 0)),(1,.c (.int .i64)),(4,.c (.slr 1)),(5,.c (.slr 2)),(6,.c (.int .i64))],[some ⟨[], 78,true,some (.rows ek)⟩,some ⟨[], 78,true,some (.rows ek)⟩,some ⟨[], 78,true,some (.rows ek)⟩]⟩
def xyS:Pat:=⟨xk 77 0 [(4,.c (.slr 1)),(5,.c (.slr 2))],[some ⟨[], 78,true,some (.rows ek)⟩,some ⟨[], 78,true,some (.rows ek)⟩,some ⟨[], 78,true,some (.rows ek)⟩]⟩
def xfb:LF:=fun st K=>match xr xrL st with
 | some [.n n0,.i a1,.n n2,.n n3,.i a4,.r q5,.r q6,.r q7]=>some (ZW n0 a1 n2 q5 q6 n3 a4 q7 (fun Cu Co=>K (.exit 0) (xe xyS [.n n2,.n Cu,.r q5,.r q6,.r Co])))
 | _=>none
theorem xAW:∀st K t,xfb st K=some t->xD xa (lf kj2 (⟨xa,[⟨4, 78,.rows ek⟩,⟨5, 78,.rows ek⟩,⟨7, 78,.rows ek⟩],true⟩:Fu) 1 (lsAt xbh .no [1,0,0,1,1,1,0,1,0]) [1,1,0,1,0] Tryz.f63 K) st=t:=by
 intro st K t h;unfold xfb at h;split at h
 .rename_i n0 a1 n2 n3 a4 q5 q6 q7 hm;cases h;rw[xj hm];unfold ZW;exact xt (S:=fun(i:Nat×Int×RowsL)=>xe xrL [.n n0,.i a1,.n n2,.n i.1,.i i.2.1,.r q5,.r q6,.r i.2.2]) (fun i k=>by kernel_rfl) xa (n3,a4,q7)
 .cases h
def xwZ(n:Nat)(L:RowsL)(step:Int)(κ:(Nat×RowsL)->T β):T β:=
 ZW n step 0 L ([]) 0 0 ([]) (fun av gh=>
 κ (av,gh))
def takT(n:Nat)(L:RowsL)(step:Int):T (Nat×RowsL):=xwZ n L step .ret
theorem xyT(n L step)(κ:(Nat×RowsL)->T β):(takT n L step).bind κ=xwZ n L step κ:=by
 unfold takT xwZ;simp only[bz,xnR]
def xnS(v0:RowsL)(v1 v2:Int)(v3:Int->T β)(v4:Unit->T β):T β:=
 bif gX v0 v1 5 != gX v0 v2 5 then(v3 (i64.wrap (v1+1))) else
 bif decide (gX v0 v1 10>=gX v0 v2 10)then(bif decide (gX v0 v1 8<=gX v0 v2 11)then(v4 ()) else
 v3 (i64.wrap (v1+1))) else
 v3 (i64.wrap (v1+1))
def xnT(v0:RowsL)(v1:Int)(v2:Int->T β)(v3:Int)(v4:Unit->T β):T β:=
 bif gX v0 v1 21 != 0 then(v2 (i64.wrap (v1+1))) else
 bif decide (gX v0 v1 10<1)then(v2 (i64.wrap (v1+1))) else
 bif gX v0 v1 1 != 4 then(bif gX v0 v1 1 != 5 then(v2 (i64.wrap (v1+1))) else
 xnS v0 v1 v3 v2 v4) else
 xnS v0 v1 v3 v2 v4
def xnU(n0:Nat)(b1:Bool)(a2:Int)(q4:RowsL)(κ0:Unit->T β)(κ1:Unit->T β)(i:Int)(k:Int->T β):T β:=
 bif decide (i < ↑n0)then(ixT n0 q4 a2 (ixT n0 q4 i (bif gX q4 a2 21==0 then(bif decide (gX q4 a2 10>0)then(bif decide (gX q4 a2 11>0)then(bif gX q4 a2 1==7 then(xnT q4 i k a2 κ0) else
 bif !gX q4 a2 1==8 then(k (i64.wrap (i+1))) else
 xnT q4 i k a2 κ0) else
 k (i64.wrap (i+1))) else
 k (i64.wrap (i+1))) else
 k (i64.wrap (i+1))))) else
 κ1 ()
def qq(n0:Nat)(b1:Bool)(a2:Int)(q4:RowsL)(a3:Int)(κ0:Unit->T β)(κ1:Unit->T β):T β:=xu xa (xnU n0 b1 a2 q4 κ0 κ1) a3
theorem xnV{β γ:Type}(n0 b1 a2 q4 a3 κ0 κ1)(κ:β->T γ):(qq n0 b1 a2 q4 a3 κ0 κ1).bind κ=qq n0 b1 a2 q4 a3 (fun u=>(κ0 u).bind κ) (fun u=>(κ1 u).bind κ):=by
 unfold qq;refine xi κ (fun i k =>?_) _ _
 unfold xnU ixT xnT xnS gX;simp only[bz]
def xrM:Pat:=⟨xk 74 0 [(0,.c (.slr 0)),(2,.c (.bool)),(3,.c (.int .i64)),(4,.c (.int .i64))],[some ⟨[], 78,true,some (.rows ek)⟩]⟩
def WH:Pat:=⟨xk 74 0 [(0,.c (.slr 0)),(2,.c (.bool)),(3,.c (.int .i64))],[some ⟨[], 78,true,some (.rows ek)⟩]⟩
def xbi:LF:=fun st K=>match xr xrM st with
 | some [.n n0,.b b1,.i a2,.i a3,.r q4]=>some (qq n0 b1 a2 q4 a3 (fun _=>K (.ret) (xe WH [.n n0,.b false,.i a2,.r q4])) (fun _=>K (.exit 2) (xe WH [.n n0,.b b1,.i a2,.r q4])))
 | _=>none
theorem xAX:∀st K t,xbi st K=some t->xD xa (lf kj2 xa 1 .no [1,0,1,0,0,1,0,0,1,0] Tryz.f67 K) st=t:=by
 intro st K t h;unfold xbi at h;split at h
 .rename_i n0 b1 a2 a3 q4 hm;cases h;rw[xj hm];unfold qq;exact xt (S:=fun(i:Int)=>xe xrM [.n n0,.b b1,.i a2,.i i,.r q4]) (fun i k=>by kernel_rfl) xa a3
 .cases h
def xnW(n0:Nat)(b1:Bool)(q3:RowsL)(κ0:Unit->T β)(κ1:Unit->T β)(i:Int)(k:Int->T β):T β:=
 bif decide (i < ↑n0)then(qq n0 b1 i q3 0 (fun d7=>
 κ0 ())  (fun d7=>
 k (i64.wrap (i+1)))) else
 κ1 ()
def ZX(n0:Nat)(b1:Bool)(q3:RowsL)(a2:Int)(κ0:Unit->T β)(κ1:Unit->T β):T β:=xu xa (xnW n0 b1 q3 κ0 κ1) a2
theorem xnX{β γ:Type}(n0 b1 q3 a2 κ0 κ1)(κ:β->T γ):(ZX n0 b1 q3 a2 κ0 κ1).bind κ=ZX n0 b1 q3 a2 (fun u=>(κ0 u).bind κ) (fun u=>(κ1 u).bind κ):=by
 unfold ZX;refine xi κ (fun i k =>?_) _ _
 unfold xnW;simp only[bz,xnV]
def xkw:Pat:=⟨xk 74 0 [(2,.c (.bool))],[some ⟨[], 78,true,some (.rows ek)⟩]⟩
def xfc:LF:=fun st K=>match xr WH st with
 | some [.n n0,.b b1,.i a2,.r q3]=>some (ZX n0 b1 q3 a2 (fun _=>K (.ret) (xe xkw [.b false,.r q3])) (fun _=>K (.exit 0) (xe xkw [.b b1,.r q3])))
 | _=>none
theorem xAY:∀st K t,xfc st K=some t->xD xa (lf kj2 xa 1 (lsAt xbi .no [1,0,0,1,0]) [1,0,1,0] Tryz.f67 K) st=t:=by
 intro st K t h;unfold xfc at h;split at h
 .rename_i n0 b1 a2 q3 hm;cases h;rw[xj hm];unfold ZX;exact xt (S:=fun(i:Int)=>xe WH [.n n0,.b b1,.i i,.r q3]) (fun i k=>by kernel_rfl) xa a2
 .cases h
def xw0(n:Nat)(L:RowsL)(κ:Bool->T β):T β:=
 ZX n false L 0 (fun av=>
 κ false)  (fun av=>
 κ true)
def aprT(n:Nat)(L:RowsL):T Bool:=xw0 n L .ret
theorem xyU(n L)(κ:Bool->T β):(aprT n L).bind κ=xw0 n L κ:=by
 unfold aprT xw0;simp only[bz,xnX]
def xvk:Sm:=fun
 | [.c (.slr 0 n)],[some ⟨[], 78,true,some (.rows [.int .i64,.int .u8,.int .i64,.int .i64,.int .i64,.int .i64,.int .i64,.int .u8,.int .i64,.int .i64,.int .i64,.int .i64,.bool,.int .i64,.int .i64,.int .u8,.int .u64,.int .u64,.int .u64,.int .u64,.int .u64,.int .i64,.int .i64,.int .i64] L)⟩]=>some (mkS Bool (ordT n L) fun r=>some (.c (.bool r),[some ⟨[], 78,true,some (.rows ek L)⟩]))
 | _,_=>none
theorem xyV:Good Tryz.prog (xp kj2) xa 1 (lsAt xfa (lsAt xbg .no [1,0,0,1,1,1,1,1,0]) [1,0,1,0]) (Tryz.f62.body.getD .skip) (xw Tryz.f62.results.toList):=(xB (xg (by kernel_rfl)) (vS (p :=[1,0,1,0]) (q :=[1,0,0,1,1,1,1,1,0]) (xg (fn:= Tryz.f62) (by kernel_rfl)) xA xAT (by kernel_rfl)) xAU)
variable{σ:Type}{I:Port Tryz.prog σ}
theorem xAZ(hl:SoundL I kj2):SoundF I 62 xvk:=by
 refine sq hl xa Tryz.func62 fun _ _ t ht =>?_
 unfold xvk at ht;split at ht
 .rename_i n L;cases ht;refine(xE (P:= Tryz.prog) (n:=xa) (x:=(lsAt xfa (lsAt xbg .no [1,0,0,1,1,1,1,1,0]) [1,0,1,0])) (fn:= Tryz.f62) (H :=[some ⟨[], 78,true,some (.rows ek L)⟩]) (c:= Tryz.f62.body.getD .skip) (xg (by kernel_rfl)) xyV).symm.trans ?_
  exact ey (xyQ n L _)
 .cases ht
def xvl:Sm:=fun
 | [.c (.slr 0 n),.c (.int .i64 step)],[some ⟨[], 78,true,some (.rows [.int .i64,.int .u8,.int .i64,.int .i64,.int .i64,.int .i64,.int .i64,.int .u8,.int .i64,.int .i64,.int .i64,.int .i64,.bool,.int .i64,.int .i64,.int .u8,.int .u64,.int .u64,.int .u64,.int .u64,.int .u64,.int .i64,.int .i64,.int .i64] L)⟩]=>some (mkS ((Nat×RowsL)) (takT n L step) fun r=>some (.c (.slr 1 r.1),[some ⟨[], 78,true,some (.rows ek L)⟩,some ⟨[], 78,true,some (.rows ek r.2)⟩]))
 | _,_=>none
theorem xyW:Good Tryz.prog (xp kj2) (⟨xa,[⟨4, 78,.rows ek⟩,⟨5, 78,.rows ek⟩,⟨7, 78,.rows ek⟩],true⟩:Fu) 1 (lsAt xfb (lsAt xbh .no [1,0,0,1,1,1,0,1,0]) [1,1,0,1,0]) (Tryz.f63.body.getD .skip) (xw Tryz.f63.results.toList):=(xB (xg (by kernel_rfl)) (vS (p :=[1,1,0,1,0]) (q :=[1,0,0,1,1,1,0,1,0]) (xg (fn:= Tryz.f63) (by kernel_rfl)) xA xAV (by kernel_rfl)) xAW)
theorem xA0(hl:SoundL I kj2):SoundF I 63 xvl:=by
 refine vD hl (⟨xa,[⟨4, 78,.rows ek⟩,⟨5, 78,.rows ek⟩,⟨7, 78,.rows ek⟩],true⟩:Fu) Tryz.func63 (by kernel_rfl) (by kernel_rfl) fun _ _ t ht =>?_
 unfold xvl at ht;split at ht
 .rename_i n step L;cases ht;refine(xE (P:= Tryz.prog) (n:=(⟨xa,[⟨4, 78,.rows ek⟩,⟨5, 78,.rows ek⟩,⟨7, 78,.rows ek⟩],true⟩:Fu)) (x:=(lsAt xfb (lsAt xbh .no [1,0,0,1,1,1,0,1,0]) [1,1,0,1,0])) (fn:= Tryz.f63) (H :=[some ⟨[], 78,true,some (.rows ek L)⟩]) (c:= Tryz.f63.body.getD .skip) (xg (by kernel_rfl)) xyW).symm.trans ?_
  exact ey (xyT n L step _)
 .cases ht
def xvm:Sm:=fun
 | [.c (.slr 0 n)],[some ⟨[], 78,true,some (.rows [.int .i64,.int .u8,.int .i64,.int .i64,.int .i64,.int .i64,.int .i64,.int .u8,.int .i64,.int .i64,.int .i64,.int .i64,.bool,.int .i64,.int .i64,.int .u8,.int .u64,.int .u64,.int .u64,.int .u64,.int .u64,.int .i64,.int .i64,.int .i64] L)⟩]=>some (mkS Bool (aprT n L) fun r=>some (.c (.bool r),[some ⟨[], 78,true,some (.rows ek L)⟩]))
 | _,_=>none
theorem xyX:Good Tryz.prog (xp kj2) xa 1 (lsAt xfc (lsAt xbi .no [1,0,0,1,0]) [1,0,1,0]) (Tryz.f67.body.getD .skip) (xw Tryz.f67.results.toList):=(xB (xg (by kernel_rfl)) (vS (p :=[1,0,1,0]) (q :=[1,0,0,1,0]) (xg (fn:= Tryz.f67) (by kernel_rfl)) xA xAX (by kernel_rfl)) xAY)
theorem xA1(hl:SoundL I kj2):SoundF I 67 xvm:=by
 refine sq hl xa Tryz.func67 fun _ _ t ht =>?_
 unfold xvm at ht;split at ht
 .rename_i n L;cases ht;refine(xE (P:= Tryz.prog) (n:=xa) (x:=(lsAt xfc (lsAt xbi .no [1,0,0,1,0]) [1,0,1,0])) (fn:= Tryz.f67) (H :=[some ⟨[], 78,true,some (.rows ek L)⟩]) (c:= Tryz.f67.body.getD .skip) (xg (by kernel_rfl)) xyX).symm.trans ?_
  exact ey (xyU n L _)
 .cases ht
noncomputable def kj3:List (Nat×Sm):=(62,xvk)::(63,xvl)::(67,xvm)::kj2
theorem s_kj3:SoundL I kj3:=(.cons (xAZ xwX) (.cons (xA0 xwX) (.cons (xA1 xwX) xwX)))
end Lx
namespace Lx
variable{β:Type}(g:Geo)
open Go
def rgtW(n:Nat)(L q:RowsL)(i top:Int):T Rgt:=rgtU n L (gX q i 0) (gX q i 1) (gX q i 2) (gX q i 3) (gX q i 4) (gX q i 5) (gX q i 6) (gX q i 7) (gX q i 8) (gX q i 9) (gX q i 10) (gX q i 11) (gX q i 12 != 0) (gX q i 13) (gX q i 14) (gX q i 15) (gX q i 16) (gX q i 17) (gX q i 18) (gX q i 19) (gX q i 20) (gX q i 21) (gX q i 22) (gX q i 23) top
def xnY(a0:Int)(b1:Bool)(n2:Nat)(q5 q6:RowsL)(κ0:Unit->T β)(κ1:Unit->T β)(i:Nat×Int×RowsL)(k:Nat×Int×RowsL->T β):T β:=
 bif decide (i.2.1 < ↑n2)then(ixT n2 q6 i.2.1 (bif decide (a0<0)then((rgtW i.1 i.2.2 q6 i.2.1 0).bind fun r4=>
 bif !r4.1 then(κ0 ()) else
 k (r4.snd.1,i64.wrap (i.2.1+1),r4.snd.2)) else
 bif decide (a0>256)then((rgtW i.1 i.2.2 q6 i.2.1 16384).bind fun r5=>
 bif !r5.1 then(κ0 ()) else
 k (r5.snd.1,i64.wrap (i.2.1+1),r5.snd.2)) else
 (rgtW i.1 i.2.2 q6 i.2.1 (i64.wrap (64*a0))).bind fun r5=>
 bif !r5.1 then(κ0 ()) else
 k (r5.snd.1,i64.wrap (i.2.1+1),r5.snd.2))) else
 κ1 ()
def ZY(a0:Int)(b1:Bool)(n2:Nat)(q5 q6:RowsL)(n3:Nat)(a4:Int)(q7:RowsL)(κ0:Unit->T β)(κ1:Unit->T β):T β:=xu xa (xnY a0 b1 n2 q5 q6 κ0 κ1) (n3,a4,q7)
theorem xnZ{β γ:Type}(a0 b1 n2 q5 q6 n3 a4 q7 κ0 κ1)(κ:β->T γ):(ZY a0 b1 n2 q5 q6 n3 a4 q7 κ0 κ1).bind κ=ZY a0 b1 n2 q5 q6 n3 a4 q7 (fun u=>(κ0 u).bind κ) (fun u=>(κ1 u).bind κ):=by
 unfold ZY;refine xi κ (fun i k =>?_) _ _
 unfold xnY ixT rgtW gX;simp only[bz]
def xrN:Pat:=⟨xk 33 0 [(1,.c (.int .i64)),(4,.c (.bool)),(5,.c (.slr 1)),(6,.c (.slr 2)),(8,.c (.int .i64))],[some ⟨[], 78,true,some (.rows ek)⟩,some ⟨[], 78,true,some (.rows ek)⟩,some ⟨[], 130,true,some (.rows [.int .i64,.int .i64,.int .i64])⟩]⟩
def xkx:Pat:=⟨xk 33 0 [(4,.c (.bool))],[some ⟨[], 78,true,some (.rows ek)⟩]⟩
def xfd:LF:=fun st K=>match xr xrN st with
 | some [.i a0,.b b1,.n n2,.n n3,.i a4,.r q5,.r q6,.r q7]=>some (ZY a0 b1 n2 q5 q6 n3 a4 q7 (fun _=>K (.ret) (xe xkx [.b false,.r q5])) (fun _=>K (.exit 0) (xe xkx [.b b1,.r q5])))
 | _=>none
theorem xA2:∀st K t,xfd st K=some t->xD xa (lf kj3 (⟨xa,[⟨6, 130,.rows [.int .i64,.int .i64,.int .i64]⟩],true⟩:Fu) 1 .no [1,1,1,1,1,0,1,0] Tryz.f29 K) st=t:=by
 intro st K t h;unfold xfd at h;split at h
 .rename_i a0 b1 n2 n3 a4 q5 q6 q7 hm;cases h;rw[xj hm];unfold ZY;exact xt (S:=fun(i:Nat×Int×RowsL)=>xe xrN [.i a0,.b b1,.n n2,.n i.1,.i i.2.1,.r q5,.r q6,.r i.2.2]) (fun i k=>by kernel_rfl) xa (n3,a4,q7)
 .cases h
def xw1(n:Nat)(L:RowsL)(pg:Int)(κ:Bool->T β):T β:=
 (ordT n L).bind fun r0=>
 bif !r0 then(κ false) else
 (takT n L 9223372036854775807).bind fun r2=>
 ZY pg false r2.1 L r2.2 0 0 ([]) (fun d6=>
 κ false)  (fun d6=>
 κ true)
def jdgT(n:Nat)(L:RowsL)(pg:Int):T Bool:=xw1 n L pg .ret
theorem xyY(n L pg)(κ:Bool->T β):(jdgT n L pg).bind κ=xw1 n L pg κ:=by
 unfold jdgT xw1;simp only[bz,xnZ]
def xn0(n0 n1 n2:Nat)(a3:Int)(q7 q8 q9 cb:RowsL)(bd ay ca bu bj bn bq dg dr e9 ez eu:Int)(ta:Bool)(ct cy lk cd fk io im il ik ij ii:Int)(κ0:Nat->Bool->RowsL->T β)(i:Nat×Bool×Int×RowsL)(k:Nat×Bool×Int×RowsL->T β):T β:=
 bif decide (i.2.2.1 < ↑n2)then(bif !i.2.1 then(ixT n2 cb i.2.2.1 (bif decide (gX cb i.2.2.1 0>ct)then(bif ay==2 then(bif Nat.beq (List.length i.2.2.2) i.1&&Nat.ble i.1 1000 then(ixT n2 cb i.2.2.1 (bif Nat.beq (List.length (i.2.2.2 ++ [[ct,i64.wrap (ca*bu),cy]])) (i.1+1)&&Nat.ble (i.1+1) 1000 then(k (i.1+1+1,true,i64.wrap (i.2.2.1+1),i.2.2.2 ++ [[ct,i64.wrap (ca*bu),cy]] ++ [r3X cb i.2.2.1])) else
 .fail)) else
 .fail) else
 bif Nat.beq (List.length i.2.2.2) i.1&&Nat.ble i.1 1000 then(ixT n2 cb i.2.2.1 (bif Nat.beq (List.length (i.2.2.2 ++ [[ct,ca,cy]])) (i.1+1)&&Nat.ble (i.1+1) 1000 then(k (i.1+1+1,true,i64.wrap (i.2.2.1+1),i.2.2.2 ++ [[ct,ca,cy]] ++ [r3X cb i.2.2.1])) else
 .fail)) else
 .fail) else
 ixT n2 cb i.2.2.1 (bif Nat.beq (List.length i.2.2.2) i.1&&Nat.ble i.1 1000 then(k (i.1+1,i.2.1,i64.wrap (i.2.2.1+1),i.2.2.2 ++ [r3X cb i.2.2.1])) else
 .fail))) else
 ixT n2 cb i.2.2.1 (bif Nat.beq (List.length i.2.2.2) i.1&&Nat.ble i.1 1000 then(k (i.1+1,i.2.1,i64.wrap (i.2.2.1+1),i.2.2.2 ++ [r3X cb i.2.2.1])) else
 .fail)) else
 κ0 i.1 i.2.1 (i.2.2.2)
def kr(n0 n1 n2:Nat)(a3:Int)(q7 q8 q9 cb:RowsL)(bd ay ca bu bj bn bq dg dr e9 ez eu:Int)(ta:Bool)(ct cy lk cd fk io im il ik ij ii:Int)(n4:Nat)(b5:Bool)(a6:Int)(A7:RowsL)(κ0:Nat->Bool->RowsL->T β):T β:=xu xa (xn0 n0 n1 n2 a3 q7 q8 q9 cb bd ay ca bu bj bn bq dg dr e9 ez eu ta ct cy lk cd fk io im il ik ij ii κ0) (n4,b5,a6,A7)
theorem xn1{β γ:Type}(n0 n1 n2 a3 q7 q8 q9 cb bd ay ca bu bj bn bq dg dr e9 ez eu ta ct cy lk cd fk io im il ik ij ii n4 b5 a6 A7 κ0)(κ:β->T γ):(kr n0 n1 n2 a3 q7 q8 q9 cb bd ay ca bu bj bn bq dg dr e9 ez eu ta ct cy lk cd fk io im il ik ij ii n4 b5 a6 A7 κ0).bind κ=kr n0 n1 n2 a3 q7 q8 q9 cb bd ay ca bu bj bn bq dg dr e9 ez eu ta ct cy lk cd fk io im il ik ij ii n4 b5 a6 A7 (fun ug L3 Cp=>(κ0 ug L3 Cp).bind κ):=by
 unfold kr;refine xi κ (fun i k =>?_) _ _
 unfold xn0 ixT r3X gX;simp only[bz]
def xrO:Pat:=⟨xk 127 0 [(4,.c (.slr 1)),(5,.c (.slr 2)),(6,.c (.slr 3)),(7,.c (.int .i64)),(8,.c (.raw (.ptr 4 0))),(11,.c (.slr 5)),(12,.c (.bool)),(13,.c (.int .i64))],[some ⟨[], 78,true,some (.rows ek)⟩,some ⟨[], 130,true,some (.rows [.int .i64,.int .i64,.int .i64])⟩,some ⟨[], 78,true,some (.rows ek)⟩,some ⟨[], 130,true,some (.rows [.int .i64,.int .i64,.int .i64])⟩,some ⟨ekp, 78,false,none⟩,some ⟨[], 130,true,some (.rows [.int .i64,.int .i64,.int .i64])⟩]⟩
def xyZ:Pat:=⟨xk 127 0 [(4,.c (.slr 1)),(5,.c (.slr 2)),(6,.c (.slr 3)),(7,.c (.int .i64)),(8,.c (.raw (.ptr 4 0))),(11,.c (.slr 5)),(12,.c (.bool))],[some ⟨[], 78,true,some (.rows ek)⟩,some ⟨[], 130,true,some (.rows [.int .i64,.int .i64,.int .i64])⟩,some ⟨[], 78,true,some (.rows ek)⟩,some ⟨[], 130,true,some (.rows [.int .i64,.int .i64,.int .i64])⟩,some ⟨ekp, 78,false,none⟩,some ⟨[], 130,true,some (.rows [.int .i64,.int .i64,.int .i64])⟩]⟩
def xbj:LF:=fun st K=>match xr xrO st with
 | some (.n n0 :: .n n1 :: .n n2 :: .i a3 :: .n n4 :: .b b5 :: .i a6 :: .r q7 :: .r q8 :: .r q9 :: .r cb :: .i bd :: .i ay :: .i ca :: .i bu :: .i bj :: .i bn :: .i bq :: .i dg :: .i dr :: .i e9 :: .i ez :: .i eu :: .b ta :: .i ct :: .i cy :: .i lk :: .i cd :: .i fk :: .i io :: .i im :: .i il :: .i ik :: .i ij :: .i ii :: .r A7 :: [])=>some (kr n0 n1 n2 a3 q7 q8 q9 cb bd ay ca bu bj bn bq dg dr e9 ez eu ta ct cy lk cd fk io im il ik ij ii n4 b5 a6 A7 (fun ug L3 Cp=>K (.exit 2) (xe xyZ [.n n0,.n n1,.n n2,.i a3,.n ug,.b L3,.r q7,.r q8,.r q9,.r cb,.i bd,.i ay,.i ca,.i bu,.i bj,.i bn,.i bq,.i dg,.i dr,.i e9,.i ez,.i eu,.b ta,.i ct,.i cy,.i lk,.i cd,.i fk,.i io,.i im,.i il,.i ik,.i ij,.i ii,.r Cp])))
 | _=>none
theorem xA3:∀st K t,xbj st K=some t->xD xa (lf kj3 (⟨xa,[⟨4, 130,.rows [.int .i64,.int .i64,.int .i64]⟩,⟨6, 130,.rows [.int .i64,.int .i64,.int .i64]⟩,⟨11, 130,.rows [.int .i64,.int .i64,.int .i64]⟩],true⟩:Fu) 1 .no [1,1,1,0,1,0,0,1,0,0,1,1,1,1,0,1,1,1,1,0,1,0] Tryz.f66 K) st=t:=by
 intro st K t h;unfold xbj at h;split at h
 .rename_i n0 n1 n2 a3 n4 b5 a6 q7 q8 q9 cb bd ay ca bu bj bn bq dg dr e9 ez eu ta ct cy lk cd fk io im il ik ij ii A7 hm;cases h;rw[xj hm];unfold kr;exact xt (S:=fun(i:Nat×Bool×Int×RowsL)=>xe xrO [.n n0,.n n1,.n n2,.i a3,.n i.1,.b i.2.1,.i i.2.2.1,.r q7,.r q8,.r q9,.r cb,.i bd,.i ay,.i ca,.i bu,.i bj,.i bn,.i bq,.i dg,.i dr,.i e9,.i ez,.i eu,.b ta,.i ct,.i cy,.i lk,.i cd,.i fk,.i io,.i im,.i il,.i ik,.i ij,.i ii,.r i.2.2.2]) (fun i k=>by kernel_rfl) xa (n4,b5,a6,A7)
 .cases h
def xn2(v0 v1 v2:Nat)(v3:Int)(v4 v5 v6 v7:RowsL)(v8:Nat×Int×RowsL->T β):T β:=
 kr v0 v1 v2 v3 v4 v5 v6 v7 (gX v6 v3 0) (gX v6 v3 1) (gX v6 v3 2) (gX v6 v3 3) (gX v6 v3 4) (gX v6 v3 5) (gX v6 v3 6) (gX v6 v3 7) (gX v6 v3 8) (gX v6 v3 9) (gX v6 v3 10) (gX v6 v3 11) (gX v6 v3 12 != 0) (gX v6 v3 13) (gX v6 v3 14) (gX v6 v3 15) (gX v6 v3 16) (gX v6 v3 17) (gX v6 v3 18) (gX v6 v3 19) (gX v6 v3 20) (gX v6 v3 21) (gX v6 v3 22) (gX v6 v3 23) 0 false 0 ([]) (fun i5 Em nl=>
 bif !Em then(bif gX v6 v3 1==2 then(bif Nat.beq (List.length nl) i5&&Nat.ble i5 1000 then(v8 (i5+1,i64.wrap (v3+1),nl ++ [[gX v6 v3 13,i64.wrap (gX v6 v3 2*gX v6 v3 3),gX v6 v3 14]])) else
 .fail) else
 bif Nat.beq (List.length nl) i5&&Nat.ble i5 1000 then(v8 (i5+1,i64.wrap (v3+1),nl ++ [[gX v6 v3 13,gX v6 v3 2,gX v6 v3 14]])) else
 .fail) else
 v8 (i5,i64.wrap (v3+1),nl))
def Km(v0:RowsL)(v1:Int)(v2:Nat)(v3:RowsL)(v4 v5:Nat)(v6 v7:RowsL)(v8:Nat×Int×RowsL->T β):T β:=
 bif decide (gX v0 v1 1>=1)then(bif decide (gX v0 v1 1<=4)then((wa v2 v3 (gX v0 v1 13)).bind fun ck=>
 bif decide (ck>=0)then((vo v2 v3 ck).bind fun dq=>
 xn2 v4 v5 dq.1 v1 v6 v7 v0 dq.2 v8) else
 xn2 v4 v5 v2 v1 v6 v7 v0 v3 v8) else
 v8 (v2,i64.wrap (v1+1),v3)) else
 v8 (v2,i64.wrap (v1+1),v3)
def xn3(n0 n1:Nat)(q4 q5 q6:RowsL)(κ0:Nat->RowsL->T β)(i:Nat×Int×RowsL)(k:Nat×Int×RowsL->T β):T β:=
 bif decide (i.2.1 < ↑n1)then(ixT n1 q6 i.2.1 (bif gX q6 i.2.1 21 != 0 then(k (i.1,i64.wrap (i.2.1+1),i.2.2)) else
 bif gX q6 i.2.1 1==4 then((wa i.1 i.2.2 (gX q6 i.2.1 5)).bind fun r5=>
 bif decide (r5>=0)then((vo i.1 i.2.2 r5).bind fun r7=>
 Km q6 i.2.1 r7.1 r7.2 n0 n1 q4 q5 k) else
 Km q6 i.2.1 i.1 i.2.2 n0 n1 q4 q5 k) else
 bif gX q6 i.2.1 1==5 then((wa i.1 i.2.2 (gX q6 i.2.1 5)).bind fun r6=>
 bif decide (r6>=0)then((vo i.1 i.2.2 r6).bind fun r8=>
 Km q6 i.2.1 r8.1 r8.2 n0 n1 q4 q5 k) else
 Km q6 i.2.1 i.1 i.2.2 n0 n1 q4 q5 k) else
 Km q6 i.2.1 i.1 i.2.2 n0 n1 q4 q5 k)) else
 κ0 i.1 (i.2.2)
def ZZ(n0 n1:Nat)(q4 q5 q6:RowsL)(n2:Nat)(a3:Int)(q7:RowsL)(κ0:Nat->RowsL->T β):T β:=xu xa (xn3 n0 n1 q4 q5 q6 κ0) (n2,a3,q7)
theorem xn4{β γ:Type}(n0 n1 q4 q5 q6 n2 a3 q7 κ0)(κ:β->T γ):(ZZ n0 n1 q4 q5 q6 n2 a3 q7 κ0).bind κ=ZZ n0 n1 q4 q5 q6 n2 a3 q7 (fun Cu Co=>(κ0 Cu Co).bind κ):=by
 unfold ZZ;refine xi κ (fun i k =>?_) _ _
 unfold xn3 ixT Km xn2 gX;simp only[bz,xn1]
def xrP:Pat:=⟨xk 127 0 [(4,.c (.slr 1)),(5,.c (.slr 2)),(6,.c (.slr 3)),(7,.c (.int .i64))],[some ⟨[], 78,true,some (.rows ek)⟩,some ⟨[], 130,true,some (.rows [.int .i64,.int .i64,.int .i64])⟩,some ⟨[], 78,true,some (.rows ek)⟩,some ⟨[], 130,true,some (.rows [.int .i64,.int .i64,.int .i64])⟩]⟩
def xy0:Pat:=⟨xk 127 0 [(4,.c (.slr 1)),(6,.c (.slr 2))],[some ⟨[], 78,true,some (.rows ek)⟩,some ⟨[], 130,true,some (.rows [.int .i64,.int .i64,.int .i64])⟩,some ⟨[], 130,true,some (.rows [.int .i64,.int .i64,.int .i64])⟩]⟩
def xfe:LF:=fun st K=>match xr xrP st with
 | some [.n n0,.n n1,.n n2,.i a3,.r q4,.r q5,.r q6,.r q7]=>some (ZZ n0 n1 q4 q5 q6 n2 a3 q7 (fun Cu Co=>K (.exit 0) (xe xy0 [.n n0,.n Cu,.r q4,.r q5,.r Co])))
 | _=>none
theorem xA4:∀st K t,xfe st K=some t->xD xa (lf kj3 (⟨xa,[⟨4, 130,.rows [.int .i64,.int .i64,.int .i64]⟩,⟨6, 130,.rows [.int .i64,.int .i64,.int .i64]⟩,⟨11, 130,.rows [.int .i64,.int .i64,.int .i64]⟩],true⟩:Fu) 1 (lsAt xbj .no [1,0,0,1,1,1,1,0,1,1,1,1,0,1,0]) [1,1,1,0,1,0] Tryz.f66 K) st=t:=by
 intro st K t h;unfold xfe at h;split at h
 .rename_i n0 n1 n2 a3 q4 q5 q6 q7 hm;cases h;rw[xj hm];unfold ZZ;exact xt (S:=fun(i:Nat×Int×RowsL)=>xe xrP [.n n0,.n n1,.n i.1,.i i.2.1,.r q4,.r q5,.r q6,.r i.2.2]) (fun i k=>by kernel_rfl) xa (n2,a3,q7)
 .cases h
def xw2(n:Nat)(L:RowsL)(step:Int)(κ:(Nat×RowsL)->T β):T β:=
 (takT n L step).bind fun r0=>
 ZZ 0 r0.1 L ([]) r0.2 0 0 ([]) (fun d7 Cg=>
 κ (d7,Cg))
def livT(n:Nat)(L:RowsL)(step:Int):T (Nat×RowsL):=xw2 n L step .ret
theorem xy1(n L step)(κ:(Nat×RowsL)->T β):(livT n L step).bind κ=xw2 n L step κ:=by
 unfold livT xw2;simp only[bz,xn4]
def xvn:Sm:=fun
 | [.c (.slr 0 n),.c (.int .i64 pg)],[some ⟨[], 78,true,some (.rows [.int .i64,.int .u8,.int .i64,.int .i64,.int .i64,.int .i64,.int .i64,.int .u8,.int .i64,.int .i64,.int .i64,.int .i64,.bool,.int .i64,.int .i64,.int .u8,.int .u64,.int .u64,.int .u64,.int .u64,.int .u64,.int .i64,.int .i64,.int .i64] L)⟩]=>some (mkS Bool (jdgT n L pg) fun r=>some (.c (.bool r),[some ⟨[], 78,true,some (.rows ek L)⟩]))
 | _,_=>none
theorem xy2:Good Tryz.prog (xp kj3) (⟨xa,[⟨6, 130,.rows [.int .i64,.int .i64,.int .i64]⟩],true⟩:Fu) 1 (lsAt xfd .no [1,1,1,1,1,0,1,0]) (Tryz.f29.body.getD .skip) (xw Tryz.f29.results.toList):=(xB (xg (by kernel_rfl)) xA xA2)
variable{σ:Type}{I:Port Tryz.prog σ}
theorem xA5(hl:SoundL I kj3):SoundF I 29 xvn:=by
 refine vD hl (⟨xa,[⟨6, 130,.rows [.int .i64,.int .i64,.int .i64]⟩],true⟩:Fu) Tryz.func29 (by kernel_rfl) (by kernel_rfl) fun _ _ t ht =>?_
 unfold xvn at ht;split at ht
 .rename_i n pg L;cases ht;refine(xE (P:= Tryz.prog) (n:=(⟨xa,[⟨6, 130,.rows [.int .i64,.int .i64,.int .i64]⟩],true⟩:Fu)) (x:=(lsAt xfd .no [1,1,1,1,1,0,1,0])) (fn:= Tryz.f29) (H :=[some ⟨[], 78,true,some (.rows ek L)⟩]) (c:= Tryz.f29.body.getD .skip) (xg (by kernel_rfl)) xy2).symm.trans ?_
  exact ey (xyY n L pg _)
 .cases ht
def xvo:Sm:=fun
 | [.c (.slr 0 n),.c (.int .i64 step)],[some ⟨[], 78,true,some (.rows [.int .i64,.int .u8,.int .i64,.int .i64,.int .i64,.int .i64,.int .i64,.int .u8,.int .i64,.int .i64,.int .i64,.int .i64,.bool,.int .i64,.int .i64,.int .u8,.int .u64,.int .u64,.int .u64,.int .u64,.int .u64,.int .i64,.int .i64,.int .i64] L)⟩]=>some (mkS ((Nat×RowsL)) (livT n L step) fun r=>some (.c (.slr 1 r.1),[some ⟨[], 78,true,some (.rows ek L)⟩,some ⟨[], 130,true,some (.rows [.int .i64,.int .i64,.int .i64] r.2)⟩]))
 | _,_=>none
theorem xy3:Good Tryz.prog (xp kj3) (⟨xa,[⟨4, 130,.rows [.int .i64,.int .i64,.int .i64]⟩,⟨6, 130,.rows [.int .i64,.int .i64,.int .i64]⟩,⟨11, 130,.rows [.int .i64,.int .i64,.int .i64]⟩],true⟩:Fu) 1 (lsAt xfe (lsAt xbj .no [1,0,0,1,1,1,1,0,1,1,1,1,0,1,0]) [1,1,1,0,1,0]) (Tryz.f66.body.getD .skip) (xw Tryz.f66.results.toList):=(xB (xg (by kernel_rfl)) (vS (p :=[1,1,1,0,1,0]) (q :=[1,0,0,1,1,1,1,0,1,1,1,1,0,1,0]) (xg (fn:= Tryz.f66) (by kernel_rfl)) xA xA3 (by kernel_rfl)) xA4)
theorem xA6(hl:SoundL I kj3):SoundF I 66 xvo:=by
 refine vD hl (⟨xa,[⟨4, 130,.rows [.int .i64,.int .i64,.int .i64]⟩,⟨6, 130,.rows [.int .i64,.int .i64,.int .i64]⟩,⟨11, 130,.rows [.int .i64,.int .i64,.int .i64]⟩],true⟩:Fu) Tryz.func66 (by kernel_rfl) (by kernel_rfl) fun _ _ t ht =>?_
 unfold xvo at ht;split at ht
 .rename_i n step L;cases ht;refine(xE (P:= Tryz.prog) (n:=(⟨xa,[⟨4, 130,.rows [.int .i64,.int .i64,.int .i64]⟩,⟨6, 130,.rows [.int .i64,.int .i64,.int .i64]⟩,⟨11, 130,.rows [.int .i64,.int .i64,.int .i64]⟩],true⟩:Fu)) (x:=(lsAt xfe (lsAt xbj .no [1,0,0,1,1,1,1,0,1,1,1,1,0,1,0]) [1,1,1,0,1,0])) (fn:= Tryz.f66) (H :=[some ⟨[], 78,true,some (.rows ek L)⟩]) (c:= Tryz.f66.body.getD .skip) (xg (by kernel_rfl)) xy3).symm.trans ?_
  exact ey (xy1 n L step _)
 .cases ht
noncomputable def kj4:List (Nat×Sm):=(29,xvn)::(66,xvo)::kj3
theorem s_kj4:SoundL I kj4:=(.cons (xA5 s_kj3) (.cons (xA6 s_kj3) s_kj3))
end Lx
namespace Lx
variable{β:Type}(g:Geo)
open Go
def xhT(v0:RowsL)(v1:Int)(v2:Int×Int×Int×Int->T β)(v3 v4 v5:Int):T β:=
 bif gX v0 v1 1==5 then(bif gX v0 v1 21==0 then(v2 (i64.wrap (v1+1),v3,u64.wrap (v4+1),u64.wrap (v5+1))) else
 v2 (i64.wrap (v1+1),v3,v4,u64.wrap (v5+1))) else
 v2 (i64.wrap (v1+1),v3,v4,u64.wrap (v5+1))
def xn5(v0:RowsL)(v1:Int)(v2:Int×Int×Int×Int->T β)(v3 v4 v5:Int):T β:=
 bif decide (gX v0 v1 1>=1)then(bif decide (gX v0 v1 1<=3)then(bif gX v0 v1 21==0 then(bif gX v0 v1 1==5 then(bif gX v0 v1 21==0 then(v2 (i64.wrap (v1+1),u64.wrap (v3+1),u64.wrap (v4+1),u64.wrap (v5+1))) else
 v2 (i64.wrap (v1+1),u64.wrap (v3+1),v4,u64.wrap (v5+1))) else
 v2 (i64.wrap (v1+1),u64.wrap (v3+1),v4,u64.wrap (v5+1))) else
 xhT v0 v1 v2 v3 v4 v5) else
 xhT v0 v1 v2 v3 v4 v5) else
 xhT v0 v1 v2 v3 v4 v5
def xhU(v0:RowsL)(v1:Int)(v2:Int×Int×Int×Int->T β)(v3 v4 v5:Int):T β:=
 bif gX v0 v1 1==5 then(bif gX v0 v1 21==0 then(v2 (i64.wrap (v1+1),v3,u64.wrap (v4+1),v5)) else
 v2 (i64.wrap (v1+1),v3,v4,v5)) else
 v2 (i64.wrap (v1+1),v3,v4,v5)
def xhV(v0:RowsL)(v1:Int)(v2:Int×Int×Int×Int->T β)(v3 v4 v5:Int):T β:=
 bif decide (gX v0 v1 1>=1)then(bif decide (gX v0 v1 1<=3)then(bif gX v0 v1 21==0 then(bif gX v0 v1 1==5 then(bif gX v0 v1 21==0 then(v2 (i64.wrap (v1+1),u64.wrap (v3+1),u64.wrap (v4+1),v5)) else
 v2 (i64.wrap (v1+1),u64.wrap (v3+1),v4,v5)) else
 v2 (i64.wrap (v1+1),u64.wrap (v3+1),v4,v5)) else
 xhU v0 v1 v2 v3 v4 v5) else
 xhU v0 v1 v2 v3 v4 v5) else
 xhU v0 v1 v2 v3 v4 v5
def xn6(n0:Nat)(q2:RowsL)(a3 a4 a5 a6 a7 bd ay:Int)(κ0:Int->Int->Int->T β)(i:Int×Int×Int×Int)(k:Int×Int×Int×Int->T β):T β:=
 bif decide (i.1 < ↑n0)then(ixT n0 q2 i.1 (bif decide (gX q2 i.1 1>=1)then(bif decide (gX q2 i.1 1<=4)then(bif gX q2 i.1 21==15 then(xn5 q2 i.1 k i.2.1 i.2.2.1 i.2.2.2) else
 bif gX q2 i.1 21==5 then(xn5 q2 i.1 k i.2.1 i.2.2.1 i.2.2.2) else
 xhV q2 i.1 k i.2.1 i.2.2.1 i.2.2.2) else
 xhV q2 i.1 k i.2.1 i.2.2.1 i.2.2.2) else
 xhV q2 i.1 k i.2.1 i.2.2.1 i.2.2.2)) else
 κ0 i.2.1 i.2.2.1 (i.2.2.2)
def Xa(n0:Nat)(q2:RowsL)(a3 a4 a5 a6 a7 bd ay a1 a8 a9 be:Int)(κ0:Int->Int->Int->T β):T β:=xu xa (xn6 n0 q2 a3 a4 a5 a6 a7 bd ay κ0) (a1,a8,a9,be)
theorem xn7{β γ:Type}(n0 q2 a3 a4 a5 a6 a7 bd ay a1 a8 a9 be κ0)(κ:β->T γ):(Xa n0 q2 a3 a4 a5 a6 a7 bd ay a1 a8 a9 be κ0).bind κ=Xa n0 q2 a3 a4 a5 a6 a7 bd ay a1 a8 a9 be (fun pm pk na=>(κ0 pm pk na).bind κ):=by
 unfold Xa;refine xi κ (fun i k =>?_) _ _
 unfold xn6 ixT xn5 xhT xhV xhU gX;simp only[bz]
def xrQ:Pat:=⟨xk 101 0 [(0,.c (.slr 0)),(2,.c (.raw (.ptr 1 0))),(3,.c (.raw (.ptr 2 0))),(4,.c (.int .i64))],[some ⟨[], 78,true,some (.rows ek)⟩,some ⟨[.int .u64,.int .u64,.int .u64,.int .u64,.int .u64], 44,false,none⟩,some ⟨[.int .u64,.int .u64,.int .u64,.int .u64,.int .u64], 44,false,none⟩]⟩
def xy4:Pat:=⟨xk 101 0 [(0,.c (.slr 0)),(2,.c (.raw (.ptr 1 0))),(3,.c (.raw (.ptr 2 0)))],[some ⟨[], 78,true,some (.rows ek)⟩,some ⟨[.int .u64,.int .u64,.int .u64,.int .u64,.int .u64], 44,false,none⟩,some ⟨[.int .u64,.int .u64,.int .u64,.int .u64,.int .u64], 44,false,none⟩]⟩
def xff:LF:=fun st K=>match xr xrQ st with
 | some [.n n0,.i a1,.r q2,.i a3,.i a4,.i a5,.i a6,.i a7,.i a8,.i a9,.i be,.i bd,.i ay]=>some (Xa n0 q2 a3 a4 a5 a6 a7 bd ay a1 a8 a9 be (fun pm pk na=>K (.exit 0) (xe xy4 [.n n0,.r q2,.i a3,.i a4,.i a5,.i a6,.i a7,.i pm,.i pk,.i na,.i bd,.i ay])))
 | _=>none
theorem xA7:∀st K t,xff st K=some t->xD xa (lf kj4 xa 1 .no [1,1,0,1,0] Tryz.f31 K) st=t:=by
 intro st K t h;unfold xff at h;split at h
 .rename_i n0 a1 q2 a3 a4 a5 a6 a7 a8 a9 be bd ay hm;cases h;rw[xj hm];unfold Xa;exact xt (S:=fun(i:Int×Int×Int×Int)=>xe xrQ [.n n0,.i i.1,.r q2,.i a3,.i a4,.i a5,.i a6,.i a7,.i i.2.1,.i i.2.2.1,.i i.2.2.2,.i bd,.i ay]) (fun i k=>by kernel_rfl) xa (a1,a8,a9,be)
 .cases h
def xn8(n0:Nat)(q2:RowsL)(a3 a4 a5 a6 a7 a8 a9 be:Int)(iu:RowsL)(κ0:Int->Int->T β)(i:Int×Int×Int)(k:Int×Int×Int->T β):T β:=
 bif decide (i.1 < ↑n0)then(ixT n0 iu i.1 (k (i64.wrap (i.1+1),u64.wrap (i.2.1+1),u64.wrap (i.2.2+u64.wrap (gX iu i.1 1))))) else
 κ0 i.2.1 (i.2.2)
def qr(n0:Nat)(q2:RowsL)(a3 a4 a5 a6 a7 a8 a9 be:Int)(iu:RowsL)(a1 bd ay:Int)(κ0:Int->Int->T β):T β:=xu xa (xn8 n0 q2 a3 a4 a5 a6 a7 a8 a9 be iu κ0) (a1,bd,ay)
theorem xn9{β γ:Type}(n0 q2 a3 a4 a5 a6 a7 a8 a9 be iu a1 bd ay κ0)(κ:β->T γ):(qr n0 q2 a3 a4 a5 a6 a7 a8 a9 be iu a1 bd ay κ0).bind κ=qr n0 q2 a3 a4 a5 a6 a7 a8 a9 be iu a1 bd ay (fun na gb=>(κ0 na gb).bind κ):=by
 unfold qr;refine xi κ (fun i k =>?_) _ _
 unfold xn8 ixT gX;simp only[bz]
def xrR:Pat:=⟨xk 101 0 [(2,.c (.raw (.ptr 1 0))),(3,.c (.raw (.ptr 2 0))),(6,.c (.slr 3)),(7,.c (.int .i64))],[some ⟨[], 78,true,some (.rows ek)⟩,some ⟨[.int .u64,.int .u64,.int .u64,.int .u64,.int .u64], 44,false,none⟩,some ⟨[.int .u64,.int .u64,.int .u64,.int .u64,.int .u64], 44,false,none⟩,some ⟨[], 130,true,some (.rows [.int .i64,.int .i64,.int .i64])⟩]⟩
def xy5:Pat:=⟨xk 101 0 [(2,.c (.raw (.ptr 1 0))),(3,.c (.raw (.ptr 2 0)))],[some ⟨[], 78,true,some (.rows ek)⟩,some ⟨[.int .u64,.int .u64,.int .u64,.int .u64,.int .u64], 44,false,none⟩,some ⟨[.int .u64,.int .u64,.int .u64,.int .u64,.int .u64], 44,false,none⟩]⟩
def xfg:LF:=fun st K=>match xr xrR st with
 | some [.n n0,.i a1,.r q2,.i a3,.i a4,.i a5,.i a6,.i a7,.i a8,.i a9,.i be,.i bd,.i ay,.r iu]=>some (qr n0 q2 a3 a4 a5 a6 a7 a8 a9 be iu a1 bd ay (fun na gb=>K (.exit 2) (xe xy5 [.r q2,.i a3,.i a4,.i a5,.i a6,.i a7,.i a8,.i a9,.i be,.i na,.i gb])))
 | _=>none
theorem xA8:∀st K t,xfg st K=some t->xD xa (lf kj4 xa 1 .no [1,1,1,1,0,1,0] Tryz.f31 K) st=t:=by
 intro st K t h;unfold xfg at h;split at h
 .rename_i n0 a1 q2 a3 a4 a5 a6 a7 a8 a9 be bd ay iu hm;cases h;rw[xj hm];unfold qr;exact xt (S:=fun(i:Int×Int×Int)=>xe xrR [.n n0,.i i.1,.r q2,.i a3,.i a4,.i a5,.i a6,.i a7,.i a8,.i a9,.i be,.i i.2.1,.i i.2.2,.r iu]) (fun i k=>by kernel_rfl) xa (a1,bd,ay)
 .cases h
def xw3(n:Nat)(L:RowsL)(κ:Cts->T β):T β:=
 Xa n L 0 0 0 0 0 0 0 0 0 0 0 (fun av gh nm=>
 (livT n L 9223372036854775807).bind fun r1=>
 qr r1.1 L 0 0 0 0 0 av gh nm r1.2 0 0 0 (fun cz Cf=>
 κ ⟨av,gh,nm,cz,Cf⟩))
def staT(n:Nat)(L:RowsL):T Cts:=xw3 n L .ret
theorem xy6(n L)(κ:Cts->T β):(staT n L).bind κ=xw3 n L κ:=by
 unfold staT xw3;simp only[bz,xn7,xn9]
def xoa(n0:Nat)(b1 b2:Bool)(n3:Nat)(q5:RowsL)(κ0:IntsL->T β)(i:Int×IntsL)(k:Int×IntsL->T β):T β:=
 bif decide (i.1 < ↑n3)then(bif decide ((0:Int)<=i.1/\i.1 < ↑n3)then(bif inB i.2 (prO 0 i.1 1 0)then(k (i64.wrap (i.1+1),List.set i.2 (prO 0 i.1 1 0) (-1))) else
 .fail) else
 .fail) else
 κ0 (i.2)
def kQ(n0:Nat)(b1 b2:Bool)(n3:Nat)(q5:RowsL)(a4:Int)(l6:IntsL)(κ0:IntsL->T β):T β:=xu xa (xoa n0 b1 b2 n3 q5 κ0) (a4,l6)
theorem xob{β γ:Type}(n0 b1 b2 n3 q5 a4 l6 κ0)(κ:β->T γ):(kQ n0 b1 b2 n3 q5 a4 l6 κ0).bind κ=kQ n0 b1 b2 n3 q5 a4 l6 (fun I3=>(κ0 I3).bind κ):=by
 unfold kQ;refine xi κ (fun i k =>?_) _ _
 unfold xoa;simp only[bz]
def xrS:Pat:=⟨xk 243 0 [(0,.c (.slr 0)),(4,.c (.bool)),(5,.c (.bool)),(6,.c (.slr 1)),(7,.c (.int .i64))],[some ⟨[], 78,true,some (.rows ek)⟩,some ⟨[], 3,true,some (.col .i64)⟩]⟩
def xy7:Pat:=⟨xk 243 0 [(0,.c (.slr 0)),(4,.c (.bool)),(5,.c (.bool)),(6,.c (.slr 1))],[some ⟨[], 78,true,some (.rows ek)⟩,some ⟨[], 3,true,some (.col .i64)⟩]⟩
def xfh:LF:=fun st K=>match xr xrS st with
 | some [.n n0,.b b1,.b b2,.n n3,.i a4,.r q5,.l l6]=>some (kQ n0 b1 b2 n3 q5 a4 l6 (fun I3=>K (.exit 0) (xe xy7 [.n n0,.b b1,.b b2,.n n3,.r q5,.l I3])))
 | _=>none
theorem xA9:∀st K t,xfh st K=some t->xD xa (lf kj4 (⟨xa,[⟨8, 130,.rows [.int .i64,.int .i64,.int .i64]⟩,⟨9, 78,.rows ek⟩],true⟩:Fu) 1 .no [1,1,1,0,1,0] Tryz.f32 K) st=t:=by
 intro st K t h;unfold xfh at h;split at h
 .rename_i n0 b1 b2 n3 a4 q5 l6 hm;cases h;rw[xj hm];unfold kQ;exact xt (S:=fun(i:Int×IntsL)=>xe xrS [.n n0,.b b1,.b b2,.n n3,.i i.1,.r q5,.l i.2]) (fun i k=>by kernel_rfl) xa (a4,l6)
 .cases h
def xcZ(v0:RowsL)(v1:Int)(v2:RowsL)(v3:Nat)(v4:Nat×Int×RowsL->T β):T β:=
 bif decide (gX v0 v1 10>0)then(bif gX v0 v1 21==0 then(bif decide (gX v0 v1 1>=1)then(bif decide (gX v0 v1 1<=4)then(bif Nat.beq (List.length v2) v3&&Nat.ble v3 1000 then(v4 (v3+1,i64.wrap (v1+1),v2 ++ [rX v0 v1])) else
 .fail) else
 v4 (v3,i64.wrap (v1+1),v2)) else
 v4 (v3,i64.wrap (v1+1),v2)) else
 v4 (v3,i64.wrap (v1+1),v2)) else
 v4 (v3,i64.wrap (v1+1),v2)
def xoc(n0:Nat)(b1 b2:Bool)(n3 n4:Nat)(q7:RowsL)(l8:IntsL)(q9:RowsL)(κ0:Nat->RowsL->T β)(i:Nat×Int×RowsL)(k:Nat×Int×RowsL->T β):T β:=
 bif decide (i.2.1 < ↑n0)then(ixT n0 q7 i.2.1 (bif gX q7 i.2.1 21==0 then(bif decide (gX q7 i.2.1 10>0)then(bif decide (gX q7 i.2.1 11>0)then(bif gX q7 i.2.1 1==7 then(bif Nat.beq (List.length i.2.2) i.1&&Nat.ble i.1 1000 then(k (i.1+1,i64.wrap (i.2.1+1),i.2.2 ++ [rY q7 i.2.1])) else
 .fail) else
 bif gX q7 i.2.1 1==8 then(bif Nat.beq (List.length i.2.2) i.1&&Nat.ble i.1 1000 then(k (i.1+1,i64.wrap (i.2.1+1),i.2.2 ++ [rY q7 i.2.1])) else
 .fail) else
 xcZ q7 i.2.1 i.2.2 i.1 k) else
 xcZ q7 i.2.1 i.2.2 i.1 k) else
 xcZ q7 i.2.1 i.2.2 i.1 k) else
 xcZ q7 i.2.1 i.2.2 i.1 k)) else
 κ0 i.1 (i.2.2)
def kR(n0:Nat)(b1 b2:Bool)(n3 n4:Nat)(q7:RowsL)(l8:IntsL)(q9:RowsL)(n5:Nat)(a6:Int)(cb:RowsL)(κ0:Nat->RowsL->T β):T β:=xu xa (xoc n0 b1 b2 n3 n4 q7 l8 q9 κ0) (n5,a6,cb)
theorem xod{β γ:Type}(n0 b1 b2 n3 n4 q7 l8 q9 n5 a6 cb κ0)(κ:β->T γ):(kR n0 b1 b2 n3 n4 q7 l8 q9 n5 a6 cb κ0).bind κ=kR n0 b1 b2 n3 n4 q7 l8 q9 n5 a6 cb (fun ug Ia=>(κ0 ug Ia).bind κ):=by
 unfold kR;refine xi κ (fun i k =>?_) _ _
 unfold xoc ixT rY xcZ rX gX;simp only[bz]
def xrT:Pat:=⟨xk 243 0 [(0,.c (.slr 0)),(4,.c (.bool)),(5,.c (.bool)),(6,.c (.slr 1)),(8,.c (.slr 2)),(9,.c (.slr 3)),(10,.c (.int .i64))],[some ⟨[], 78,true,some (.rows ek)⟩,some ⟨[], 3,true,some (.col .i64)⟩,some ⟨[], 130,true,some (.rows [.int .i64,.int .i64,.int .i64])⟩,some ⟨[], 78,true,some (.rows ek)⟩]⟩
def xy8:Pat:=⟨xk 243 0 [(4,.c (.bool)),(5,.c (.bool)),(6,.c (.slr 1)),(8,.c (.slr 2)),(9,.c (.slr 3))],[some ⟨[], 78,true,some (.rows ek)⟩,some ⟨[], 3,true,some (.col .i64)⟩,some ⟨[], 130,true,some (.rows [.int .i64,.int .i64,.int .i64])⟩,some ⟨[], 78,true,some (.rows ek)⟩]⟩
def xfi:LF:=fun st K=>match xr xrT st with
 | some [.n n0,.b b1,.b b2,.n n3,.n n4,.n n5,.i a6,.r q7,.l l8,.r q9,.r cb]=>some (kR n0 b1 b2 n3 n4 q7 l8 q9 n5 a6 cb (fun ug Ia=>K (.exit 2) (xe xy8 [.b b1,.b b2,.n n3,.n n4,.n ug,.r q7,.l l8,.r q9,.r Ia])))
 | _=>none
theorem xBa:∀st K t,xfi st K=some t->xD xa (lf kj4 (⟨xa,[⟨8, 130,.rows [.int .i64,.int .i64,.int .i64]⟩,⟨9, 78,.rows ek⟩],true⟩:Fu) 1 .no [1,1,1,1,1,1,0,1,0] Tryz.f32 K) st=t:=by
 intro st K t h;unfold xfi at h;split at h
 .rename_i n0 b1 b2 n3 n4 n5 a6 q7 l8 q9 cb hm;cases h;rw[xj hm];unfold kR;exact xt (S:=fun(i:Nat×Int×RowsL)=>xe xrT [.n n0,.b b1,.b b2,.n n3,.n n4,.n i.1,.i i.2.1,.r q7,.l l8,.r q9,.r i.2.2]) (fun i k=>by kernel_rfl) xa (n5,a6,cb)
 .cases h
def xoe(v0 v1:Int)(v2:Nat)(v3:IntsL)(v4:Int×IntsL->T β):T β:=
 bif decide ((0:Int)<=i64.wrap (v0+v1)/\i64.wrap (v0+v1) < ↑v2)then(bif inB (List.set (List.set v3 (prO 0 (i64.wrap (v0+v1)) 1 0) (-1)) (prO 0 (i64.wrap (v0+v1)) 1 0) 0) (prO 0 (i64.wrap (v0+v1)) 1 0)then(v4 (i64.wrap (v1+1),List.set (List.set (List.set v3 (prO 0 (i64.wrap (v0+v1)) 1 0) (-1)) (prO 0 (i64.wrap (v0+v1)) 1 0) 0) (prO 0 (i64.wrap (v0+v1)) 1 0) (-1))) else
 .fail) else
 .fail
def xof(v0 v1:Int)(v2:Nat)(v3:IntsL)(v4:Int×IntsL->T β):T β:=
 bif decide ((0:Int)<=i64.wrap (v0+v1)/\i64.wrap (v0+v1) < ↑v2)then(bif inB (List.set v3 (prO 0 (i64.wrap (v0+v1)) 1 0) (-1)) (prO 0 (i64.wrap (v0+v1)) 1 0)then(v4 (i64.wrap (v1+1),List.set (List.set v3 (prO 0 (i64.wrap (v0+v1)) 1 0) (-1)) (prO 0 (i64.wrap (v0+v1)) 1 0) (-1))) else
 .fail) else
 .fail
def xog(v0 v1 v2 v3:Int)(v4:Nat)(v5:RowsL)(v6 v7:Int)(v8:Nat)(v9:IntsL)(oy:Int×IntsL->T β)(Gy:Nat)(Gx:IntsL):T β:=
 bif v0==4 then(bif decide (v1>=0)then(bif decide (v2<v3)then(ixT v4 v5 v1 (bif decide (v2<gX v5 v1 1)then(bif decide (i64.wrap (v6+v2)<0)then(xof v7 v2 v8 v9 oy) else
 bif decide (i64.wrap (v6+v2) >= ↑Gy)then(xof v7 v2 v8 v9 oy) else
 bif decide ((0:Int)<=i64.wrap (v6+v2)/\i64.wrap (v6+v2) < ↑Gy)then(bif inR (List.length Gx) (i64.wrap (v6+v2))then(bif decide ((0:Int)<=i64.wrap (v7+v2)/\i64.wrap (v7+v2) < ↑v8)then(bif inB (List.set v9 (prO 0 (i64.wrap (v7+v2)) 1 0) (-1)) (prO 0 (i64.wrap (v7+v2)) 1 0)then(oy (i64.wrap (v2+1),List.set (List.set v9 (prO 0 (i64.wrap (v7+v2)) 1 0) (-1)) (prO 0 (i64.wrap (v7+v2)) 1 0) (getI Gx (Int.toNat (i64.wrap (v6+v2)))))) else
 .fail) else
 .fail) else
 .fail) else
 .fail) else
 oy (i64.wrap (v2+1),List.set v9 (prO 0 (i64.wrap (v7+v2)) 1 0) (-1)))) else
 oy (i64.wrap (v2+1),List.set v9 (prO 0 (i64.wrap (v7+v2)) 1 0) (-1))) else
 oy (i64.wrap (v2+1),List.set v9 (prO 0 (i64.wrap (v7+v2)) 1 0) (-1))) else
 oy (i64.wrap (v2+1),List.set v9 (prO 0 (i64.wrap (v7+v2)) 1 0) (-1))
def xoh(b0 b1:Bool)(n2 n3 n4:Nat)(a5 a6:Int)(n7:Nat)(a8:Int)(cb:RowsL)(pp:IntsL)(po iu:RowsL)(bu bj bn bq dg dr e9 ez eu lm ct cy:Int)(tu:Bool)(cd fk io im il ik ij ii t6 tw tv:Int)(κ0:IntsL->T β)(i:Int×IntsL)(k:Int×IntsL->T β):T β:=
 bif decide (i.1<fk)then(bif decide ((0:Int)<=i64.wrap (cd+i.1)/\i64.wrap (cd+i.1) < ↑n7)then(bif inB i.2 (prO 0 (i64.wrap (cd+i.1)) 1 0)then(bif bj==2 then(bif decide (i.1<a6)then(bif decide ((0:Int)<=i64.wrap (cd+i.1)/\i64.wrap (cd+i.1) < ↑n7)then(bif inB (List.set i.2 (prO 0 (i64.wrap (cd+i.1)) 1 0) (-1)) (prO 0 (i64.wrap (cd+i.1)) 1 0)then(bif bj==4 then(bif decide (a8>=0)then(bif decide (i.1<a6)then(ixT n3 po a8 (bif decide (i.1<gX po a8 1)then(bif decide (i64.wrap (dr+i.1)<0)then(xoe cd i.1 n7 i.2 k) else
 bif decide (i64.wrap (dr+i.1) >= ↑n2)then(xoe cd i.1 n7 i.2 k) else
 bif decide ((0:Int)<=i64.wrap (dr+i.1)/\i64.wrap (dr+i.1) < ↑n2)then(bif inR (List.length pp) (i64.wrap (dr+i.1))then(bif decide ((0:Int)<=i64.wrap (cd+i.1)/\i64.wrap (cd+i.1) < ↑n7)then(bif inB (List.set (List.set i.2 (prO 0 (i64.wrap (cd+i.1)) 1 0) (-1)) (prO 0 (i64.wrap (cd+i.1)) 1 0) 0) (prO 0 (i64.wrap (cd+i.1)) 1 0)then(k (i64.wrap (i.1+1),List.set (List.set (List.set i.2 (prO 0 (i64.wrap (cd+i.1)) 1 0) (-1)) (prO 0 (i64.wrap (cd+i.1)) 1 0) 0) (prO 0 (i64.wrap (cd+i.1)) 1 0) (getI pp (Int.toNat (i64.wrap (dr+i.1)))))) else
 .fail) else
 .fail) else
 .fail) else
 .fail) else
 k (i64.wrap (i.1+1),List.set (List.set i.2 (prO 0 (i64.wrap (cd+i.1)) 1 0) (-1)) (prO 0 (i64.wrap (cd+i.1)) 1 0) 0))) else
 k (i64.wrap (i.1+1),List.set (List.set i.2 (prO 0 (i64.wrap (cd+i.1)) 1 0) (-1)) (prO 0 (i64.wrap (cd+i.1)) 1 0) 0)) else
 k (i64.wrap (i.1+1),List.set (List.set i.2 (prO 0 (i64.wrap (cd+i.1)) 1 0) (-1)) (prO 0 (i64.wrap (cd+i.1)) 1 0) 0)) else
 k (i64.wrap (i.1+1),List.set (List.set i.2 (prO 0 (i64.wrap (cd+i.1)) 1 0) (-1)) (prO 0 (i64.wrap (cd+i.1)) 1 0) 0)) else
 .fail) else
 .fail) else
 xog bj a8 i.1 a6 n3 po dr cd n7 i.2 k n2 pp) else
 xog bj a8 i.1 a6 n3 po dr cd n7 i.2 k n2 pp) else
 .fail) else
 .fail) else
 κ0 (i.2)
def kS(b0 b1:Bool)(n2 n3 n4:Nat)(a5 a6:Int)(n7:Nat)(a8:Int)(cb:RowsL)(pp:IntsL)(po iu:RowsL)(bu bj bn bq dg dr e9 ez eu lm ct cy:Int)(tu:Bool)(cd fk io im il ik ij ii t6 tw tv a9:Int)(Bb:IntsL)(κ0:IntsL->T β):T β:=xu xa (xoh b0 b1 n2 n3 n4 a5 a6 n7 a8 cb pp po iu bu bj bn bq dg dr e9 ez eu lm ct cy tu cd fk io im il ik ij ii t6 tw tv κ0) (a9,Bb)
theorem xoi{β γ:Type}(b0 b1 n2 n3 n4 a5 a6 n7 a8 cb pp po iu bu bj bn bq dg dr e9 ez eu lm ct cy tu cd fk io im il ik ij ii t6 tw tv a9 Bb κ0)(κ:β->T γ):(kS b0 b1 n2 n3 n4 a5 a6 n7 a8 cb pp po iu bu bj bn bq dg dr e9 ez eu lm ct cy tu cd fk io im il ik ij ii t6 tw tv a9 Bb κ0).bind κ=kS b0 b1 n2 n3 n4 a5 a6 n7 a8 cb pp po iu bu bj bn bq dg dr e9 ez eu lm ct cy tu cd fk io im il ik ij ii t6 tw tv a9 Bb (fun Cx=>(κ0 Cx).bind κ):=by
 unfold kS;refine xi κ (fun i k =>?_) _ _
 unfold xoh xoe xog ixT gX xof;simp only[bz]
def xrU:Pat:=⟨xk 243 0 [(4,.c (.bool)),(5,.c (.bool)),(6,.c (.slr 1)),(8,.c (.slr 2)),(9,.c (.slr 3)),(12,.c (.int .i64)),(13,.c (.raw (.ptr 4 0))),(16,.c (.int .i64)),(17,.c (.slr 5)),(18,.c (.int .i64)),(19,.c (.int .i64))],[some ⟨[], 78,true,some (.rows ek)⟩,some ⟨[], 3,true,some (.col .i64)⟩,some ⟨[], 130,true,some (.rows [.int .i64,.int .i64,.int .i64])⟩,some ⟨[], 78,true,some (.rows ek)⟩,some ⟨ekp, 78,false,none⟩,some ⟨[], 3,true,some (.col .i64)⟩]⟩
def xy9:Pat:=⟨xk 243 0 [(4,.c (.bool)),(5,.c (.bool)),(6,.c (.slr 1)),(8,.c (.slr 2)),(9,.c (.slr 3)),(12,.c (.int .i64)),(13,.c (.raw (.ptr 4 0))),(16,.c (.int .i64)),(17,.c (.slr 5)),(18,.c (.int .i64))],[some ⟨[], 78,true,some (.rows ek)⟩,some ⟨[], 3,true,some (.col .i64)⟩,some ⟨[], 130,true,some (.rows [.int .i64,.int .i64,.int .i64])⟩,some ⟨[], 78,true,some (.rows ek)⟩,some ⟨ekp, 78,false,none⟩,some ⟨[], 3,true,some (.col .i64)⟩]⟩
def xbk:LF:=fun st K=>match xr xrU st with
 | some (.b b0 :: .b b1 :: .n n2 :: .n n3 :: .n n4 :: .i a5 :: .i a6 :: .n n7 :: .i a8 :: .i a9 :: .r cb :: .l pp :: .r po :: .r iu :: .i bu :: .i bj :: .i bn :: .i bq :: .i dg :: .i dr :: .i e9 :: .i ez :: .i eu :: .i lm :: .i ct :: .i cy :: .b tu :: .i cd :: .i fk :: .i io :: .i im :: .i il :: .i ik :: .i ij :: .i ii :: .i t6 :: .i tw :: .i tv :: .l Bb :: [])=>some (kS b0 b1 n2 n3 n4 a5 a6 n7 a8 cb pp po iu bu bj bn bq dg dr e9 ez eu lm ct cy tu cd fk io im il ik ij ii t6 tw tv a9 Bb (fun Cx=>K (.exit 6) (xe xy9 [.b b0,.b b1,.n n2,.n n3,.n n4,.i a5,.i a6,.n n7,.i a8,.r cb,.l pp,.r po,.r iu,.i bu,.i bj,.i bn,.i bq,.i dg,.i dr,.i e9,.i ez,.i eu,.i lm,.i ct,.i cy,.b tu,.i cd,.i fk,.i io,.i im,.i il,.i ik,.i ij,.i ii,.i t6,.i tw,.i tv,.l Cx])))
 | _=>none
theorem xBb:∀st K t,xbk st K=some t->xD xa (lf kj4 (⟨xa,[⟨8, 130,.rows [.int .i64,.int .i64,.int .i64]⟩,⟨9, 78,.rows ek⟩],true⟩:Fu) 1 .no [1,1,1,1,1,1,1,1,0,1,0,0,1,0,0,1,1,1,1,1,1,1,0,1,0] Tryz.f32 K) st=t:=by
 intro st K t h;unfold xbk at h;split at h
 .rename_i b0 b1 n2 n3 n4 a5 a6 n7 a8 a9 cb pp po iu bu bj bn bq dg dr e9 ez eu lm ct cy tu cd fk io im il ik ij ii t6 tw tv Bb hm;cases h;rw[xj hm];unfold kS;exact xt (S:=fun(i:Int×IntsL)=>xe xrU [.b b0,.b b1,.n n2,.n n3,.n n4,.i a5,.i a6,.n n7,.i a8,.i i.1,.r cb,.l pp,.r po,.r iu,.i bu,.i bj,.i bn,.i bq,.i dg,.i dr,.i e9,.i ez,.i eu,.i lm,.i ct,.i cy,.b tu,.i cd,.i fk,.i io,.i im,.i il,.i ik,.i ij,.i ii,.i t6,.i tw,.i tv,.l i.2]) (fun i k=>by kernel_rfl) xa (a9,Bb)
 .cases h
def xhW(v0:Nat)(v1 v2:RowsL)(v3:Int)(v4:Nat×Nat×Int×IntsL×RowsL->T β)(v5:Nat)(v6:IntsL):T β:=
 (wa v0 v1 (gX v2 v3 13)).bind fun dq=>
 bif decide (dq>=0)then((vo v0 v1 dq).bind fun lz=>
 bif Nat.beq (List.length lz.2) lz.1&&Nat.ble lz.1 1000 then(v4 (0+v5,lz.1+1,i64.wrap (v3+1),v6,lz.2 ++ [[gX v2 v3 13,i64.wrap (gX v2 v3 2*gX v2 v3 3),gX v2 v3 14]])) else
 .fail) else
 bif Nat.beq (List.length v1) v0&&Nat.ble v0 1000 then(v4 (0+v5,v0+1,i64.wrap (v3+1),v6,v1 ++ [[gX v2 v3 13,i64.wrap (gX v2 v3 2*gX v2 v3 3),gX v2 v3 14]])) else
 .fail
def xhX(v0:Nat)(v1 v2:RowsL)(v3:Int)(v4:Nat×Nat×Int×IntsL×RowsL->T β)(v5:Nat)(v6:IntsL):T β:=
 (wa v0 v1 (gX v2 v3 13)).bind fun dq=>
 bif decide (dq>=0)then((vo v0 v1 dq).bind fun lz=>
 bif Nat.beq (List.length lz.2) lz.1&&Nat.ble lz.1 1000 then(v4 (0+v5,lz.1+1,i64.wrap (v3+1),v6,lz.2 ++ [[gX v2 v3 13,gX v2 v3 2,gX v2 v3 14]])) else
 .fail) else
 bif Nat.beq (List.length v1) v0&&Nat.ble v0 1000 then(v4 (0+v5,v0+1,i64.wrap (v3+1),v6,v1 ++ [[gX v2 v3 13,gX v2 v3 2,gX v2 v3 14]])) else
 .fail
def xoj(b0 b1:Bool)(n4:Nat)(q6 q9:RowsL)(κ0:Unit->T β)(κ1:Unit->T β)(i:Nat×Nat×Int×IntsL×RowsL)(k:Nat×Nat×Int×IntsL×RowsL->T β):T β:=
 bif decide (i.2.2.1 < ↑n4)then(ixT n4 q9 i.2.2.1 (bif gX q9 i.2.2.1 1==7 then(bif decide (0<=i64.wrap (gX q9 i.2.2.1 5+gX q9 i.2.2.1 6)/\i64.wrap (gX q9 i.2.2.1 5+gX q9 i.2.2.1 6) < ↑i.1)then(bif inB i.2.2.2.1 (prO 0 (i64.wrap (gX q9 i.2.2.1 5+gX q9 i.2.2.1 6)) 1 0)then(k (i.1,i.2.1,i64.wrap (i.2.2.1+1),List.set i.2.2.2.1 (prO 0 (i64.wrap (gX q9 i.2.2.1 5+gX q9 i.2.2.1 6)) 1 0) (i64.wrap (gX q9 i.2.2.1 7)),i.2.2.2.2)) else
 .fail) else
 .fail) else
 bif gX q9 i.2.2.1 1==8 then(bif decide (i64.wrap (gX q9 i.2.2.1 5+gX q9 i.2.2.1 6)<0)then(k (i.1,i.2.1,i64.wrap (i.2.2.1+1),i.2.2.2.1,i.2.2.2.2)) else
 bif decide (i64.wrap (gX q9 i.2.2.1 5+gX q9 i.2.2.1 6) >= ↑i.1)then(k (i.1,i.2.1,i64.wrap (i.2.2.1+1),i.2.2.2.1,i.2.2.2.2)) else
 bif decide (0<=i64.wrap (gX q9 i.2.2.1 5+gX q9 i.2.2.1 6)/\i64.wrap (gX q9 i.2.2.1 5+gX q9 i.2.2.1 6) < ↑i.1)then(bif inR (List.length i.2.2.2.1) (i64.wrap (gX q9 i.2.2.1 5+gX q9 i.2.2.1 6))then(bif decide (getI i.2.2.2.1 (Int.toNat (i64.wrap (gX q9 i.2.2.1 5+gX q9 i.2.2.1 6)))>=0)then(bif getI i.2.2.2.1 (Int.toNat (i64.wrap (gX q9 i.2.2.1 5+gX q9 i.2.2.1 6))) != i64.wrap (gX q9 i.2.2.1 15)then(κ0 ()) else
 k (i.1,i.2.1,i64.wrap (i.2.2.1+1),i.2.2.2.1,i.2.2.2.2)) else
 k (i.1,i.2.1,i64.wrap (i.2.2.1+1),i.2.2.2.1,i.2.2.2.2)) else
 .fail) else
 .fail) else
 bif gX q9 i.2.2.1 1==2 then(bif Nat.beq 0 0&&Nat.ble 0 1000&&we none i.1 i.2.2.2.1&&Nat.ble i.1 1000 then((wa i.2.1 i.2.2.2.2 (gX q9 i.2.2.1 5)).bind fun r7=>
 kS b0 b1 i.1 i.2.1 n4 i.2.2.1 (i64.wrap (gX q9 i.2.2.1 2*gX q9 i.2.2.1 3)) (0+i.1) r7 q6 i.2.2.2.1 i.2.2.2.2 q9 (gX q9 i.2.2.1 0) (gX q9 i.2.2.1 1) (gX q9 i.2.2.1 2) (gX q9 i.2.2.1 3) (gX q9 i.2.2.1 4) (gX q9 i.2.2.1 5) (gX q9 i.2.2.1 6) (gX q9 i.2.2.1 7) (gX q9 i.2.2.1 8) (gX q9 i.2.2.1 9) (gX q9 i.2.2.1 10) (gX q9 i.2.2.1 11) (gX q9 i.2.2.1 12 != 0) (gX q9 i.2.2.1 13) (gX q9 i.2.2.1 14) (gX q9 i.2.2.1 15) (gX q9 i.2.2.1 16) (gX q9 i.2.2.1 17) (gX q9 i.2.2.1 18) (gX q9 i.2.2.1 19) (gX q9 i.2.2.1 20) (gX q9 i.2.2.1 21) (gX q9 i.2.2.1 22) (gX q9 i.2.2.1 23) 0 ([]++cutL none i.1 i.2.2.2.1) (fun ip=>
 bif gX q9 i.2.2.1 1==4 then(bif decide (r7>=0)then((vo i.2.1 i.2.2.2.2 r7).bind fun Cn=>
 xhW Cn.1 Cn.2 q9 i.2.2.1 k i.1 ip) else
 xhW i.2.1 i.2.2.2.2 q9 i.2.2.1 k i.1 ip) else
 xhW i.2.1 i.2.2.2.2 q9 i.2.2.1 k i.1 ip)) else
 .fail) else
 bif Nat.beq 0 0&&Nat.ble 0 1000&&we none i.1 i.2.2.2.1&&Nat.ble i.1 1000 then((wa i.2.1 i.2.2.2.2 (gX q9 i.2.2.1 5)).bind fun r7=>
 kS b0 b1 i.1 i.2.1 n4 i.2.2.1 (gX q9 i.2.2.1 2) (0+i.1) r7 q6 i.2.2.2.1 i.2.2.2.2 q9 (gX q9 i.2.2.1 0) (gX q9 i.2.2.1 1) (gX q9 i.2.2.1 2) (gX q9 i.2.2.1 3) (gX q9 i.2.2.1 4) (gX q9 i.2.2.1 5) (gX q9 i.2.2.1 6) (gX q9 i.2.2.1 7) (gX q9 i.2.2.1 8) (gX q9 i.2.2.1 9) (gX q9 i.2.2.1 10) (gX q9 i.2.2.1 11) (gX q9 i.2.2.1 12 != 0) (gX q9 i.2.2.1 13) (gX q9 i.2.2.1 14) (gX q9 i.2.2.1 15) (gX q9 i.2.2.1 16) (gX q9 i.2.2.1 17) (gX q9 i.2.2.1 18) (gX q9 i.2.2.1 19) (gX q9 i.2.2.1 20) (gX q9 i.2.2.1 21) (gX q9 i.2.2.1 22) (gX q9 i.2.2.1 23) 0 ([]++cutL none i.1 i.2.2.2.1) (fun ip=>
 bif gX q9 i.2.2.1 1==4 then(bif decide (r7>=0)then((vo i.2.1 i.2.2.2.2 r7).bind fun Cn=>
 xhX Cn.1 Cn.2 q9 i.2.2.1 k i.1 ip) else
 xhX i.2.1 i.2.2.2.2 q9 i.2.2.1 k i.1 ip) else
 xhX i.2.1 i.2.2.2.2 q9 i.2.2.1 k i.1 ip)) else
 .fail)) else
 κ1 ()
def qs(b0 b1:Bool)(n4:Nat)(q6 q9:RowsL)(n2 n3:Nat)(a5:Int)(l7:IntsL)(q8:RowsL)(κ0:Unit->T β)(κ1:Unit->T β):T β:=xu xa (xoj b0 b1 n4 q6 q9 κ0 κ1) (n2,n3,a5,l7,q8)
theorem xok{β γ:Type}(b0 b1 n4 q6 q9 n2 n3 a5 l7 q8 κ0 κ1)(κ:β->T γ):(qs b0 b1 n4 q6 q9 n2 n3 a5 l7 q8 κ0 κ1).bind κ=qs b0 b1 n4 q6 q9 n2 n3 a5 l7 q8 (fun u=>(κ0 u).bind κ) (fun u=>(κ1 u).bind κ):=by
 unfold qs;refine xi κ (fun i k =>?_) _ _
 unfold xoj ixT xhW xhX gX;simp only[bz,xoi]
def xrV:Pat:=⟨xk 243 0 [(4,.c (.bool)),(5,.c (.bool)),(6,.c (.slr 1)),(8,.c (.slr 2)),(9,.c (.slr 3)),(12,.c (.int .i64))],[some ⟨[], 78,true,some (.rows ek)⟩,some ⟨[], 3,true,some (.col .i64)⟩,some ⟨[], 130,true,some (.rows [.int .i64,.int .i64,.int .i64])⟩,some ⟨[], 78,true,some (.rows ek)⟩]⟩
def xky:Pat:=⟨xk 243 0 [(4,.c (.bool)),(5,.c (.bool))],[some ⟨[], 78,true,some (.rows ek)⟩]⟩
def xfj:LF:=fun st K=>match xr xrV st with
 | some [.b b0,.b b1,.n n2,.n n3,.n n4,.i a5,.r q6,.l l7,.r q8,.r q9]=>some (qs b0 b1 n4 q6 q9 n2 n3 a5 l7 q8 (fun _=>K (.ret) (xe xky [.b false,.b true,.r q6])) (fun _=>K (.exit 4) (xe xky [.b b0,.b b1,.r q6])))
 | _=>none
theorem xBc:∀st K t,xfj st K=some t->xD xa (lf kj4 (⟨xa,[⟨8, 130,.rows [.int .i64,.int .i64,.int .i64]⟩,⟨9, 78,.rows ek⟩],true⟩:Fu) 1 (lsAt xbk .no [1,0,0,1,1,1,1,1,1,1,0,1,0]) [1,1,1,1,1,1,1,1,0,1,0] Tryz.f32 K) st=t:=by
 intro st K t h;unfold xfj at h;split at h
 .rename_i b0 b1 n2 n3 n4 a5 q6 l7 q8 q9 hm;cases h;rw[xj hm];unfold qs;exact xt (S:=fun(i:Nat×Nat×Int×IntsL×RowsL)=>xe xrV [.b b0,.b b1,.n i.1,.n i.2.1,.n n4,.i i.2.2.1,.r q6,.l i.2.2.2.1,.r i.2.2.2.2,.r q9]) (fun i k=>by kernel_rfl) xa (n2,n3,a5,l7,q8)
 .cases h
def xw4(n:Nat)(L:RowsL)(pg:Int)(κ:(Bool×Bool)->T β):T β:=
 (jdgT n L pg).bind fun r0=>
 bif !r0 then(κ (false,false)) else
 (aprT n L).bind fun r2=>
 bif !r2 then(κ (false,false)) else
 bif decide (pg<0)then(kQ n false false 0 L 0 (List.replicate (Int.toNat 0) 0) (fun Eh=>
 kR n false false 0 0 L Eh ([]) 0 0 ([]) (fun bo Bx=>
 (takT bo Bx 9223372036854775807).bind fun r7=>
 qs false false r7.1 L r7.2 0 0 0 Eh ([]) (fun ip=>
 κ (false,true))  (fun ip=>
 κ (true,true))))) else
 bif decide (pg>256)then(.fail) else
 bif decide (i64.wrap (64*pg)=i64.wrap (64*pg)/\0<=i64.wrap (64*pg)/\i64.wrap (64*pg)<=1000)then(kQ n false false (Int.toNat (i64.wrap (64*pg))) L 0 (List.replicate (Int.toNat (i64.wrap (64*pg))) 0) (fun ml=>
 kR n false false (Int.toNat (i64.wrap (64*pg))) 0 L ml ([]) 0 0 ([]) (fun ip Hl=>
 (takT ip Hl 9223372036854775807).bind fun r9=>
 qs false false r9.1 L r9.2 (Int.toNat (i64.wrap (64*pg))) 0 0 ml ([]) (fun Ep=>
 κ (false,true))  (fun Ep=>
 κ (true,true))))) else
 .fail
def bytT(n:Nat)(L:RowsL)(pg:Int):T (Bool×Bool):=xw4 n L pg .ret
theorem xza(n L pg)(κ:(Bool×Bool)->T β):(bytT n L pg).bind κ=xw4 n L pg κ:=by
 unfold bytT xw4;simp only[bz,xob,xod,xok]
def xvp:Sm:=fun
 | [.c (.slr 0 n)],[some ⟨[], 78,true,some (.rows [.int .i64,.int .u8,.int .i64,.int .i64,.int .i64,.int .i64,.int .i64,.int .u8,.int .i64,.int .i64,.int .i64,.int .i64,.bool,.int .i64,.int .i64,.int .u8,.int .u64,.int .u64,.int .u64,.int .u64,.int .u64,.int .i64,.int .i64,.int .i64] L)⟩]=>some (mkS Cts (staT n L) fun r=>some (.agg r.cells,[some ⟨[], 78,true,some (.rows ek L)⟩]))
 | _,_=>none
theorem xzb:Good Tryz.prog (xp kj4) xa 1 (mrg (lsAt xff .no [1,1,0,1,0]) (lsAt xfg .no [1,1,1,1,0,1,0])) (Tryz.f31.body.getD .skip) (xw Tryz.f31.results.toList):=(yF (xB (xg (by kernel_rfl)) xA xA7) (xB (xg (by kernel_rfl)) xA xA8))
variable{σ:Type}{I:Port Tryz.prog σ}
theorem xBd(hl:SoundL I kj4):SoundF I 31 xvp:=by
 refine sq hl xa Tryz.func31 fun _ _ t ht =>?_
 unfold xvp at ht;split at ht
 .rename_i n L;cases ht;refine(xE (P:= Tryz.prog) (n:=xa) (x:=(mrg (lsAt xff .no [1,1,0,1,0]) (lsAt xfg .no [1,1,1,1,0,1,0]))) (fn:= Tryz.f31) (H :=[some ⟨[], 78,true,some (.rows ek L)⟩]) (c:= Tryz.f31.body.getD .skip) (xg (by kernel_rfl)) xzb).symm.trans ?_
  exact ey (xy6 n L _)
 .cases ht
def xvq:Sm:=fun
 | [.c (.slr 0 n),.c (.int .i64 pg)],[some ⟨[], 78,true,some (.rows [.int .i64,.int .u8,.int .i64,.int .i64,.int .i64,.int .i64,.int .i64,.int .u8,.int .i64,.int .i64,.int .i64,.int .i64,.bool,.int .i64,.int .i64,.int .u8,.int .u64,.int .u64,.int .u64,.int .u64,.int .u64,.int .i64,.int .i64,.int .i64] L)⟩]=>some (mkS ((Bool×Bool)) (bytT n L pg) fun r=>some (.tup [.c (.bool r.1),.c (.bool r.2)],[some ⟨[], 78,true,some (.rows ek L)⟩]))
 | _,_=>none
theorem xzc:Good Tryz.prog (xp kj4) (⟨xa,[⟨8, 130,.rows [.int .i64,.int .i64,.int .i64]⟩,⟨9, 78,.rows ek⟩],true⟩:Fu) 1 (mrg (lsAt xfh .no [1,1,1,0,1,0]) (mrg (lsAt xfi .no [1,1,1,1,1,1,0,1,0]) (lsAt xfj (lsAt xbk .no [1,0,0,1,1,1,1,1,1,1,0,1,0]) [1,1,1,1,1,1,1,1,0,1,0]))) (Tryz.f32.body.getD .skip) (xw Tryz.f32.results.toList):=(yF (xB (xg (by kernel_rfl)) xA xA9) (yF (xB (xg (by kernel_rfl)) xA xBa) (xB (xg (by kernel_rfl)) (vS (p :=[1,1,1,1,1,1,1,1,0,1,0]) (q :=[1,0,0,1,1,1,1,1,1,1,0,1,0]) (xg (fn:= Tryz.f32) (by kernel_rfl)) xA xBb (by kernel_rfl)) xBc)))
theorem xBe(hl:SoundL I kj4):SoundF I 32 xvq:=by
 refine vD hl (⟨xa,[⟨8, 130,.rows [.int .i64,.int .i64,.int .i64]⟩,⟨9, 78,.rows ek⟩],true⟩:Fu) Tryz.func32 (by kernel_rfl) (by kernel_rfl) fun _ _ t ht =>?_
 unfold xvq at ht;split at ht
 .rename_i n pg L;cases ht;refine(xE (P:= Tryz.prog) (n:=(⟨xa,[⟨8, 130,.rows [.int .i64,.int .i64,.int .i64]⟩,⟨9, 78,.rows ek⟩],true⟩:Fu)) (x:=(mrg (lsAt xfh .no [1,1,1,0,1,0]) (mrg (lsAt xfi .no [1,1,1,1,1,1,0,1,0]) (lsAt xfj (lsAt xbk .no [1,0,0,1,1,1,1,1,1,1,0,1,0]) [1,1,1,1,1,1,1,1,0,1,0])))) (fn:= Tryz.f32) (H :=[some ⟨[], 78,true,some (.rows ek L)⟩]) (c:= Tryz.f32.body.getD .skip) (xg (by kernel_rfl)) xzc).symm.trans ?_
  exact ey (xza n L pg _)
 .cases ht
noncomputable def kj5:List (Nat×Sm):=(31,xvp)::(32,xvq)::kj4
theorem s_kj5:SoundL I kj5:=(.cons (xBd s_kj4) (.cons (xBe s_kj4) s_kj4))
end Lx
end Go.Proofs.YtcicjcggclhbfaaGreat
