/- Part. -/
import Derived.Test.YtcicjcggclhbfaaGreatCsM13
set_option linter.all false
open Go.IntKind (i64 u64 u32 u8)
namespace Go.Proofs.YtcicjcggclhbfaaGreat.Lx
variable{β:Type}(g:Geo)
open Go
set_option maxRecDepth 1000000
def xiy(n0:Nat)(q3:RowsL)(a4 a5 a6 a7 a8 a9 be bd ay ca bu bn bq:Int)(κ0:Int->T β)(i:Int×Int×Int)(k:Int×Int×Int->T β):T β:=
 bif decide (i.2.1>=0)then(bif decide (i.1>0)then(bif decide ((0:Int)<=i.2.1/\i.2.1 < ↑n0)then(bif inR (List.length q3) i.2.1 then(bif getI (getR q3 (Int.toNat i.2.1)) 21==0 then(bif decide ((0:Int)<=i.2.1/\i.2.1 < ↑n0)then(bif inR (List.length q3) i.2.1 then(bif decide (getI (getR q3 (Int.toNat i.2.1)) 1>=1)then(bif decide ((0:Int)<=i.2.1/\i.2.1 < ↑n0)then(bif inR (List.length q3) i.2.1 then(bif decide (getI (getR q3 (Int.toNat i.2.1)) 1<=4)then(bif decide ((0:Int)<=i.2.1/\i.2.1 < ↑n0)then(bif inR (List.length q3) i.2.1 then(k (i64.wrap (i.1-1),i64.wrap (i.2.1-1),getI (getR q3 (Int.toNat i.2.1)) 13)) else
 .fail) else
 .fail) else
 k (i.1,i64.wrap (i.2.1-1),i.2.2)) else
 .fail) else
 .fail) else
 k (i.1,i64.wrap (i.2.1-1),i.2.2)) else
 .fail) else
 .fail) else
 k (i.1,i64.wrap (i.2.1-1),i.2.2)) else
 .fail) else
 .fail) else
 κ0 i.2.2) else
 κ0 (i.2.2)
def jY(n0:Nat)(q3:RowsL)(a4 a5 a6 a7 a8 a9 be bd ay ca bu bn bq a1 a2 bj:Int)(κ0:Int->T β):T β:=xu xa (xiy n0 q3 a4 a5 a6 a7 a8 a9 be bd ay ca bu bn bq κ0) (a1,a2,bj)
theorem xjn{β γ:Type}(n0 q3 a4 a5 a6 a7 a8 a9 be bd ay ca bu bn bq a1 a2 bj κ0)(κ:β->T γ):(jY n0 q3 a4 a5 a6 a7 a8 a9 be bd ay ca bu bn bq a1 a2 bj κ0).bind κ=jY n0 q3 a4 a5 a6 a7 a8 a9 be bd ay ca bu bn bq a1 a2 bj (fun D3=>(κ0 D3).bind κ):=by
 unfold jY
 refine xi κ (fun i k =>?_) _ _
 unfold xiy
 simp only[bz]
def xk6:Pat:=⟨xk 59 0 [(0,.c (.slr 0)),(4,.c (.raw (.ptr 2 0))),(5,.c (.raw (.ptr 3 0))),(6,.c (.int .i64)),(7,.c (.int .i64))],[some ⟨[], 78,true,some (.rows ek)⟩,none,some ⟨[.int .u8,.int .i64,.int .i64,.int .i64,.int .i64,.int .i64,.int .u8], 76,false,none⟩,some ⟨[.int .u8,.int .i64,.int .i64,.int .i64,.int .i64,.int .i64,.int .u8], 76,false,none⟩]⟩
def xwf:Pat:=⟨xk 59 0 [(4,.c (.raw (.ptr 2 0))),(5,.c (.raw (.ptr 3 0)))],[some ⟨[], 78,true,some (.rows ek)⟩,none,some ⟨[.int .u8,.int .i64,.int .i64,.int .i64,.int .i64,.int .i64,.int .u8], 76,false,none⟩,some ⟨[.int .u8,.int .i64,.int .i64,.int .i64,.int .i64,.int .i64,.int .u8], 76,false,none⟩]⟩
def xbC:LF:=fun st K=>match xr xk6 st with
 | some [.n n0,.i a1,.i a2,.r q3,.i a4,.i a5,.i a6,.i a7,.i a8,.i a9,.i be,.i bd,.i ay,.i ca,.i bu,.i bj,.i bn,.i bq]=>some (jY n0 q3 a4 a5 a6 a7 a8 a9 be bd ay ca bu bn bq a1 a2 bj (fun D3=>K (.exit 0) (xe xwf [.r q3,.i a4,.i a5,.i a6,.i a7,.i a8,.i a9,.i be,.i bd,.i ay,.i ca,.i bu,.i D3,.i bn,.i bq])))
 | _=>none
theorem xzT : ∀st K t,xbC st K=some t->xD xa (lf kd7 xa 1 .no [1,1,1,0,1,0] Tryz.f60 K) st=t:=by
 intro st K t h
 unfold xbC at h
 split at h
 .rename_i n0 a1 a2 q3 a4 a5 a6 a7 a8 a9 be bd ay ca bu bj bn bq hm
  cases h
  rw[xj hm]
  unfold jY
  exact xt (S:=fun(i:Int×Int×Int)=>xe xk6 [.n n0,.i i.1,.i i.2.1,.r q3,.i a4,.i a5,.i a6,.i a7,.i a8,.i a9,.i be,.i bd,.i ay,.i ca,.i bu,.i i.2.2,.i bn,.i bq]) (fun i k=>by kernel_rfl) xa (a1,a2,bj)
 .cases h
def xoF(n:Nat)(L:RowsL)(th bk op sz nn al at_ off by_:Int)(κ:Cal->T β):T β:=
 jY n L 0 0 0 0 0 0 0 op sz nn al off by_ (i64.wrap bk) (i64.wrap (↑n-1)) at_ (fun av=>
 κ ⟨op,sz,nn,al,av,off,by_⟩)
def xk7(n:Nat)(L:RowsL)(th bk op sz nn al at_ off by_:Int):T Cal:=xoF n L th bk op sz nn al at_ off by_ .ret
theorem xwg(n L th bk op sz nn al at_ off by_)(κ:Cal->T β):(xk7 n L th bk op sz nn al at_ off by_).bind κ=xoF n L th bk op sz nn al at_ off by_ κ:=by
 unfold xk7 xoF
 simp only[bz,xjn]
def xoG:Sm:=fun
 | [.c (.slr 0 n),.agg [.int .u8 th,.int .u8 bk,.int .u8 op,.int .i64 sz,.int .i64 nn,.int .i64 al,.int .i64 at_,.int .i64 off,.int .u8 by_]],[some ⟨[], 78,true,some (.rows [.int .i64,.int .u8,.int .i64,.int .i64,.int .i64,.int .i64,.int .i64,.int .u8,.int .i64,.int .i64,.int .i64,.int .i64,.bool,.int .i64,.int .i64,.int .u8,.int .u64,.int .u64,.int .u64,.int .u64,.int .u64,.int .i64,.int .i64,.int .i64] L)⟩]=>some (mkS Cal (xk7 n L th bk op sz nn al at_ off by_) fun r=>some (.agg r.cells,[some ⟨[], 78,true,some (.rows ek L)⟩]))
 | _,_=>none
theorem xwh:Good Tryz.prog (xp kd7) xa 1 (lsAt xbC .no [1,1,1,0,1,0]) (Tryz.f60.body.getD .skip) (xw Tryz.f60.results.toList):=(xB (xg (by kernel_rfl)) xA xzT)
variable{σ:Type}{I:Port Tryz.prog σ}
theorem xzU(hl:SoundL I kd7):SoundF I 60 xoG:=by
 refine sq hl xa Tryz.func60 fun _ _ t ht =>?_
 unfold xoG at ht
 split at ht
 .rename_i n th bk op sz nn al at_ off by_ L
  cases ht
  refine(xE (P:= Tryz.prog) (n:=xa) (x:=(lsAt xbC .no [1,1,1,0,1,0])) (fn:= Tryz.f60) (H :=[some ⟨[], 78,true,some (.rows ek L)⟩]) (c:= Tryz.f60.body.getD .skip) (xg (by kernel_rfl)) xwh).symm.trans ?_
  exact ey (xwg n L th bk op sz nn al at_ off by_ _)
 .cases ht
end Go.Proofs.YtcicjcggclhbfaaGreat.Lx
