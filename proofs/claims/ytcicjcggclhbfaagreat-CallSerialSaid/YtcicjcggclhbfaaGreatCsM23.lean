/- Part. -/
import Derived.Test.YtcicjcggclhbfaaGreatCsM24
import Derived.Test.YtcicjcggclhbfaaGreatCsM20
set_option linter.all false
open Go.IntKind (i64 u64 u32 u8)
set_option maxRecDepth 1000000
namespace Go.Proofs.YtcicjcggclhbfaaGreat
open Go.RowKit Lx
theorem xvw{σ:Type}{I:Port Tryz.prog σ}{l k:List (Nat×Sm)}(h:SoundL I l)(h':SoundL I k):SoundL I (l++k):=fun f m hm=>(List.mem_append.1 hm).elim (h f m) (h' f m)
noncomputable def kj6a:List (Nat×Sm):=kj5++kx0
theorem xBm:SoundL NP kj6a:=xvw s_kj5 s_kx0
noncomputable def kj6:List (Nat×Sm):=(25,inl Tryz.prog (xp kj6a) 1 Tryz.f25)::kj6a
theorem s_kj6:SoundL NP kj6 :=.cons (xI xBm 1 Tryz.func25 (by kernel_rfl) (by kernel_rfl)) xBm
end Go.Proofs.YtcicjcggclhbfaaGreat
namespace Go.Proofs.YtcicjcggclhbfaaGreat.Lx
variable{β:Type}(g:Geo)
open Go
noncomputable section
def xvx(b0:Bool)(a1:Int)(n2 n4:Nat)(q5 q6:RowsL)(κ0:Unit->T β)(κ1:Unit->T β)(i:Int)(k:Int->T β):T β:=
 bif decide (i < ↑n2)then(bif decide ((0:Int)<=i/\i < ↑n2)then(bif inR (List.length q6) i then(bif getI (getR q6 (Int.toNat i)) 21==5 then(κ0 ()) else
 k (i64.wrap (i+1))) else
 .fail) else
 .fail) else
 κ1 ()
def Yh(b0:Bool)(a1:Int)(n2 n4:Nat)(q5 q6:RowsL)(a3:Int)(κ0:Unit->T β)(κ1:Unit->T β):T β:=xu xa (xvx b0 a1 n2 n4 q5 q6 κ0 κ1) a3
theorem xrZ{β γ:Type}(b0 a1 n2 n4 q5 q6 a3 κ0 κ1)(κ:β->T γ):(Yh b0 a1 n2 n4 q5 q6 a3 κ0 κ1).bind κ=Yh b0 a1 n2 n4 q5 q6 a3 (fun u=>(κ0 u).bind κ) (fun u=>(κ1 u).bind κ):=by
 unfold Yh;refine xi κ (fun i k =>?_) _ _
 unfold xvx;simp only[bz]
def xw6:Pat:=⟨xk 82 0 [(6,.c (.bool)),(7,.c (.int .i64)),(10,.c (.slr 1)),(12,.c (.int .i64))],[some ⟨[], 120,false,some (.wrows [.int .u8,.int .u8,.int .u8,.int .i64,.int .i64,.int .i64,.int .i64,.int .i64,.int .u8])⟩,some ⟨[], 78,true,some (.rows ek)⟩]⟩
def xr0:Pat:=⟨xk 82 0 [(6,.c (.bool)),(7,.c (.int .i64)),(10,.c (.slr 1))],[some ⟨[], 120,false,some (.wrows [.int .u8,.int .u8,.int .u8,.int .i64,.int .i64,.int .i64,.int .i64,.int .i64,.int .u8])⟩,some ⟨[], 78,true,some (.rows ek)⟩]⟩
def xop:LF:=fun st K=>match xr xw6 st with
 | some [.b b0,.i a1,.n n2,.i a3,.n n4,.r q5,.r q6]=>some (Yh b0 a1 n2 n4 q5 q6 a3 (fun _=>K (.ret) (xe xr0 [.b false,.i a1,.n n2,.n n4,.r q5,.r q6])) (fun _=>K (.exit 0) (xe xr0 [.b b0,.i a1,.n n2,.n n4,.r q5,.r q6])))
 | _=>none
theorem slT_0Ok:∀st K t,xop st K=some t->xD xa (lf kj6 (⟨xa,[],true⟩:Fu) 1 .no [1,1,1,1,1,1,1,0,1,0] Tryz.f4 K) st=t:=by
 intro st K t h;unfold xop at h;split at h
 .rename_i b0 a1 n2 a3 n4 q5 q6 hm;cases h;rw[xj hm];unfold Yh;exact xt (S:=fun(i:Int)=>xe xw6 [.b b0,.i a1,.n n2,.i i,.n n4,.r q5,.r q6]) (fun i k=>by kernel_rfl) xa a3
 .cases h
def slTK(pages threads:Int)(o:Nat)(z:Yi)(n c q:Nat)(L:RowsL)(κ:Bool->T β):T β:=
 bif decide (↑n>(40:Int))then(κ true) else
 (newT (i64.wrap (i64.wrap (Int.tmod pages 12)+1)) (i64.wrap (i64.wrap (Int.tmod threads 4)+1))).bind fun r1=>
 (yE (decide (0<=r1.1.b19/\r1.1.b19<=1000000/\0<=i64.wrap (64*r1.1.pages)/\i64.wrap (64*r1.1.pages)<=1000000))).bind fun r2=>
 (vN (okS (Int.toNat r1.1.b19) (Int.toNat r1.1.b19) (Int.toNat (i64.wrap (64*r1.1.pages))) (Int.toNat (i64.wrap (64*r1.1.pages))) (List.replicate (Int.toNat r1.1.b19) 0) (List.replicate (Int.toNat (i64.wrap (64*r1.1.pages))) 0)) (XF r1.1) (DS.mk (Mem.mk (List.replicate (Int.toNat r1.1.b19) 0) (List.replicate (Int.toNat (i64.wrap (64*r1.1.pages))) 0)) 0 0 none)).bind fun r3=>
 (vN (okM r3.snd.m) (XH r1.1) (DS.mk r3.snd.m r3.snd.self r3.snd.steps none)).bind fun r4=>
 (serT r1.1 (List.length r4.snd.m.1) (List.length r4.snd.m.1) (List.length r4.snd.m.2) (List.length r4.snd.m.2) r4.snd.m.1 r4.snd.m.2 o z n c q L).bind fun r5=>
 bif !r5.ok then(κ false) else
 (jdgT r5.n r5.2 (i64.wrap (i64.wrap (Int.tmod pages 12)+1))).bind fun r7=>
 bif !r7 then(κ false) else
 (vR (okS r5.x2 r5.x r5.y2 r5.y r5.W r5.B) (doT r1.1 (Cal.mk 11 0 0 0 0 0 0)) (DS.mk (Mem.mk r5.W r5.B) 0 0 none)).bind fun r9=>
 (staT r5.n r5.2).bind fun ck=>
 bif !(r9.fst.c1==ck.allocs&&(r9.fst.c2==ck.frees&&(r9.fst.c3==ck.failures&&(r9.fst.c4==ck.live&&(r9.fst.c5==ck.bytes&&true)))))then(κ false) else
 Yh false (i64.wrap (i64.wrap (Int.tmod pages 12)+1)) r5.n q L r5.2 0 (fun En=>
 κ false) (fun En=>
 (bytT r5.n r5.2 (i64.wrap (i64.wrap (Int.tmod pages 12)+1))).bind fun gy=>
 bif gy.1 then(bif gy.2 then(κ true) else
 κ false) else
 κ false)
def slT(pages threads:Int)(o:Nat)(z:Yi)(n c q:Nat)(L:RowsL):T Bool:=slTK pages threads o z n c q L .ret
theorem xBn(pages threads o z n c q L)(κ:Bool->T β):(slT pages threads o z n c q L).bind κ=slTK pages threads o z n c q L κ:=by
 unfold slT slTK;simp only[bz,xrZ]
def m_slT:Sm:=fun
 | [.c (.int .u8 pages),.c (.int .u8 threads),.c (.slw 0 o z n c)],[some ⟨[], 120,false,some (.wrows q [.int .u8,.int .u8,.int .u8,.int .i64,.int .i64,.int .i64,.int .i64,.int .i64,.int .u8] L)⟩]=>some (mkS Bool (slT pages threads o z n c q L) fun r=>some (.c (.bool r),[some ⟨[], 120,false,some (.wrows q [.int .u8,.int .u8,.int .u8,.int .i64,.int .i64,.int .i64,.int .i64,.int .i64,.int .u8] L)⟩]))
 | _,_=>none
theorem xBo:Good Tryz.prog (xp kj6) (⟨xa,[],true⟩:Fu) 1 (lsAt xop .no [1,1,1,1,1,1,1,0,1,0]) (Tryz.f4.body.getD .skip) (xw Tryz.f4.results.toList):=(xB (xg (by kernel_rfl)) xA slT_0Ok)
variable{σ:Type}{I:Port Tryz.prog σ}
theorem s_m_slT(hl:SoundL I kj6):SoundF I 4 m_slT:=by
 refine vD hl (⟨xa,[],true⟩:Fu) Tryz.func4 (by kernel_rfl) (by kernel_rfl) fun _ _ t ht =>?_
 unfold m_slT at ht;split at ht
 .rename_i pages threads o z n c q L;cases ht;refine(xE (P:= Tryz.prog) (n:=(⟨xa,[],true⟩:Fu)) (x:=(lsAt xop .no [1,1,1,1,1,1,1,0,1,0])) (fn:= Tryz.f4) (H :=[some ⟨[], 120,false,some (.wrows q [.int .u8,.int .u8,.int .u8,.int .i64,.int .i64,.int .i64,.int .i64,.int .i64,.int .u8] L)⟩]) (c:= Tryz.f4.body.getD .skip) (xg (by kernel_rfl)) xBo).symm.trans ?_
  exact ey (xBn pages threads o z n c q L _)
 .cases ht
end
end Go.Proofs.YtcicjcggclhbfaaGreat.Lx
