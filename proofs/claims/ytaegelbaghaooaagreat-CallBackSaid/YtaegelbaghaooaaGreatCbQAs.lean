/- Part. -/
import Derived.Test.YtaegelbaghaooaaGreatCbM13
set_option linter.all false
open Go.IntKind (i64 u64 u32 u8)
namespace Go.Proofs.YtaegelbaghaooaaGreat.Lx
variable{β:Type}(g:Geo)
open Go
set_option maxRecDepth 1000000
def xgu(n0:Nat)(q3:RowsL)(a4 a5 a6 a7 a8 a9 a10 a11 a12 a13 a14 a16 a17:Int)(κ0:Int->T β)(i:Int×Int×Int)(k:Int×Int×Int->T β):T β:=
 bif decide (i.2.1>=0)then(bif decide (i.1>0)then(bif decide ((0:Int)<=i.2.1/\i.2.1 < ↑n0)then(bif inR (List.length q3) i.2.1 then(bif getI (getR q3 (Int.toNat i.2.1)) 21==0 then(bif decide ((0:Int)<=i.2.1/\i.2.1 < ↑n0)then(bif inR (List.length q3) i.2.1 then(bif decide (getI (getR q3 (Int.toNat i.2.1)) 1>=1)then(bif decide ((0:Int)<=i.2.1/\i.2.1 < ↑n0)then(bif inR (List.length q3) i.2.1 then(bif decide (getI (getR q3 (Int.toNat i.2.1)) 1<=4)then(bif decide ((0:Int)<=i.2.1/\i.2.1 < ↑n0)then(bif inR (List.length q3) i.2.1 then(k (i64.wrap (i.1-1),i64.wrap (i.2.1-1),getI (getR q3 (Int.toNat i.2.1)) 13)) else
 .fail) else
 .fail) else
 k (i.1,i64.wrap (i.2.1-1),i.2.2)) else
 .fail) else
 .fail) else
 k (i.1,i64.wrap (i.2.1-1),i.2.2)) else
 .fail) else
 .fail) else
 k (i.1,i64.wrap (i.2.1-1),i.2.2)) else
 .fail) else
 .fail) else
 κ0 (i.2.2)) else
 κ0 (i.2.2)
def jd(n0:Nat)(q3:RowsL)(a4 a5 a6 a7 a8 a9 a10 a11 a12 a13 a14 a16 a17 a1 a2 a15:Int)(κ0:Int->T β):T β:=xr xa (xgu n0 q3 a4 a5 a6 a7 a8 a9 a10 a11 a12 a13 a14 a16 a17 κ0) (a1,a2,a15)
theorem xhi{β γ:Type}(n0:Nat)(q3:RowsL)(a4 a5 a6 a7 a8 a9 a10 a11 a12 a13 a14 a16 a17 a1 a2 a15:Int)(κ0:Int->T β)(κ:β->T γ):(jd n0 q3 a4 a5 a6 a7 a8 a9 a10 a11 a12 a13 a14 a16 a17 a1 a2 a15 κ0).bind κ=jd n0 q3 a4 a5 a6 a7 a8 a9 a10 a11 a12 a13 a14 a16 a17 a1 a2 a15 (fun ae12=>(κ0 ae12).bind κ):=by
 unfold jd
 refine xj κ (fun i k =>?_) _ _
 unfold xgu
 simp only[bz]
def xiU:Pat:=⟨xm 59 0 [(0,.c (.slr 0)),(4,.c (.raw (.ptr 2 0))),(5,.c (.raw (.ptr 3 0))),(6,.c (.int .i64)),(7,.c (.int .i64))],[some ⟨[],108,true,some (.rows ek)⟩,none,some ⟨[.int .u8,.int .i64,.int .i64,.int .i64,.int .i64,.int .i64,.int .u8],97,false,none⟩,some ⟨[.int .u8,.int .i64,.int .i64,.int .i64,.int .i64,.int .i64,.int .u8],97,false,none⟩]⟩
def xsF:Pat:=⟨xm 59 0 [(4,.c (.raw (.ptr 2 0))),(5,.c (.raw (.ptr 3 0)))],[some ⟨[],108,true,some (.rows ek)⟩,none,some ⟨[.int .u8,.int .i64,.int .i64,.int .i64,.int .i64,.int .i64,.int .u8],97,false,none⟩,some ⟨[.int .u8,.int .i64,.int .i64,.int .i64,.int .i64,.int .i64,.int .u8],97,false,none⟩]⟩
def xao:LF:=fun st K=>match xq xiU st with
 | some [.n n0,.i a1,.i a2,.r q3,.i a4,.i a5,.i a6,.i a7,.i a8,.i a9,.i a10,.i a11,.i a12,.i a13,.i a14,.i a15,.i a16,.i a17]=>some (jd n0 q3 a4 a5 a6 a7 a8 a9 a10 a11 a12 a13 a14 a16 a17 a1 a2 a15 (fun ae12=>K (.exit 0) (xd xsF [.r q3,.i a4,.i a5,.i a6,.i a7,.i a8,.i a9,.i a10,.i a11,.i a12,.i a13,.i a14,.i ae12,.i a16,.i a17])))
 | _=>none
theorem xv4 : ∀st K t,xao st K=some t->xA xa (lf kd7 xa 1 .no [1,1,1,0,1,0] Tryz.f68 K) st=t:=by
 intro st K t h
 unfold xao at h
 split at h
 ·rename_i n0 a1 a2 q3 a4 a5 a6 a7 a8 a9 a10 a11 a12 a13 a14 a15 a16 a17 hm
  cases h
  rw[xk hm]
  unfold jd
  exact xu (S:=fun(i:Int×Int×Int)=>xd xiU [.n n0,.i (i.1),.i (i.2.1),.r q3,.i a4,.i a5,.i a6,.i a7,.i a8,.i a9,.i a10,.i a11,.i a12,.i a13,.i a14,.i (i.2.2),.i a16,.i a17]) (fun i k=>by kernel_rfl) xa (a1,a2,a15)
 ·cases h
def xlK(n:Nat)(L:RowsL)(th bk op sz nn al at_ off by_:Int)(κ:Cal->T β):T β:=
 jd (n) (L) (0) (0) (0) (0) (0) (0) (0) (op) (sz) (nn) (al) (off) (by_) (i64.wrap bk) (i64.wrap (↑n-1)) (at_) (fun y0_0=>
 κ ⟨(op),(sz),(nn),(al),y0_0,(off),(by_)⟩)
def xiV(n:Nat)(L:RowsL)(th bk op sz nn al at_ off by_:Int):T Cal:=xlK n L th bk op sz nn al at_ off by_ .ret
theorem xsG(n:Nat)(L:RowsL)(th bk op sz nn al at_ off by_:Int)(κ:Cal->T β):(xiV n L th bk op sz nn al at_ off by_).bind κ=xlK n L th bk op sz nn al at_ off by_ κ:=by
 unfold xiV xlK
 simp only[bz,xhi]
def xlL:Sm:=fun
 | [.c (.slr 0 n),.agg [.int .u8 th,.int .u8 bk,.int .u8 op,.int .i64 sz,.int .i64 nn,.int .i64 al,.int .i64 at_,.int .i64 off,.int .u8 by_]],[some ⟨[], 108,true,some (.rows [.int .i64,.int .u8,.int .i64,.int .i64,.int .i64,.int .i64,.int .i64,.int .u8,.int .i64,.int .i64,.int .i64,.int .i64,.bool,.int .i64,.int .i64,.int .u8,.int .u64,.int .u64,.int .u64,.int .u64,.int .u64,.int .i64,.int .i64,.int .i64] L)⟩]=>some (mkS (Cal) (xiV n L th bk op sz nn al at_ off by_) fun r=>some (.agg r.cells,[some ⟨[], 108,true,some (.rows ek L)⟩]))
 | _,_=>none
theorem xsH:Good Tryz.prog (xo kd7) xa 1 (lsAt xao .no [1,1,1,0,1,0]) (Tryz.f68.body.getD .skip) (xt Tryz.f68.results.toList):=(xz (xi (by kernel_rfl)) xy xv4)
variable{σ:Type}{I:Port Tryz.prog σ}
theorem xv5(hl:SoundL I kd7):SoundF I 68 xlL:=by
 refine sq hl xa Tryz.func68 fun _ _ t ht =>?_
 unfold xlL at ht
 split at ht
 ·rename_i n th bk op sz nn al at_ off by_ L
  cases ht
  refine(xE (P:= Tryz.prog) (n:=xa) (x:=(lsAt xao .no [1,1,1,0,1,0])) (fn:= Tryz.f68) (H :=[some ⟨[], 108,true,some (.rows ek L)⟩]) (c:= Tryz.f68.body.getD .skip) (xi (by kernel_rfl)) xsH).symm.trans ?_
  exact ey (xsG n L th bk op sz nn al at_ off by_ _)
 ·cases ht
end Go.Proofs.YtaegelbaghaooaaGreat.Lx
