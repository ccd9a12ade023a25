/- Part. -/
import Derived.Test.YtaegelbaghaooaaGreatCbPCall
set_option linter.all false
open Go.IntKind (i64 u64 u32 u8)
namespace Go.Proofs.YtaegelbaghaooaaGreat
open Go Go.RowKit Lx
section
variable{n t:Nat}(hf:Small n t)
include hf
theorem xpm:decide (0<=(xb n t).b19/\(xb n t).b19<=1000000/\0<=i64.wrap (64*(xb n t).pages)/\i64.wrap (64*(xb n t).pages)<=1000000)=true:=by
 have hn2:=hf.n2
 have hBr:=xty hf.n2 hf.t2
 have hg19:(xb n t).b19=((Br n t 19:Nat):Int):=rfl
 have e2:i64.wrap (64*(xb n t).pages)=((n*64:Nat):Int):=by
  show i64.wrap (64*((n:Nat):Int))=_
  rw[show 64*((n:Nat):Int)=((n*64:Nat):Int)by omega,wN _ (by omega)]
 rw[dT,e2,hg19];omega
theorem xxT : ∃ (u3:Unit) (s3:DS) (u4:Unit) (s4:DS) (A:AS),
  vN (okS (Int.toNat (xb n t).b19) (Int.toNat (xb n t).b19) (Int.toNat (i64.wrap (64*(xb n t).pages))) (Int.toNat (i64.wrap (64*(xb n t).pages))) (List.replicate (Int.toNat (xb n t).b19) 0) (List.replicate (Int.toNat (i64.wrap (64*(xb n t).pages))) 0)) (ZF (xb n t))
   (DS.mk (Mem.mk (List.replicate (Int.toNat (xb n t).b19) 0) (List.replicate (Int.toNat (i64.wrap (64*(xb n t).pages))) 0)) 0 0 none) = .ret (u3,s3)/\
  vN (okS s3.m.words.length s3.m.words.length s3.m.bytes.length s3.m.bytes.length s3.m.words s3.m.bytes) (ZH (xb n t)) (DS.mk s3.m s3.self s3.steps none) = .ret (u4,s4)/\
  MemH n t A (fun _=>none) (fun _=>none) s4.m.words s4.m.bytes/\ ∀i,A.w 2 i=0:=by
 have hn2:=hf.n2
 have hBr:=xty hf.n2 hf.t2
 have e2:i64.wrap (64*(xb n t).pages)=((n*64:Nat):Int):=by
  show i64.wrap (64*((n:Nat):Int))=_
  rw[show 64*((n:Nat):Int)=((n*64:Nat):Int)by omega,wN _ (by omega)]
 have hX:Int.toNat (xb n t).b19=Br n t 19:=rfl
 have hY:Int.toNat (i64.wrap (64*(xb n t).pages))=n*64:=by rw[e2];rfl
 rw[hX,hY]
 have hR0:Rep n t (xgr 0 (List.replicate (n*64) 0) 0) ⟨⟨List.replicate (Br n t 19) 0,List.replicate (n*64) 0⟩,0,0,none⟩:=xxP 0 _
 have hok:okS (Br n t 19) (Br n t 19) (n*64) (n*64) (List.replicate (Br n t 19) 0) (List.replicate (n*64) 0)=true:=decide_eq_true ⟨rfl,rfl,by simp,by simp,by omega,by omega⟩
 have hl:=xga (xgr 0 (List.replicate (n*64) 0) 0) 0 n
 obtain⟨s3,h3,r3⟩:=YI (ZF (xb n t)) hR0 (xvZ hf)
 have t3:s3.told=none:=by rw[r3.told,hl.told];rfl
 have r3':Rep n t ((xgr 0 (List.replicate (n*64) 0) 0).lay 0 n) ⟨⟨s3.m.words,s3.m.bytes⟩,s3.self,s3.steps,none⟩:=⟨r3.len,r3.row,r3.bytes,r3.self,r3.steps,by rw[hl.told];rfl⟩
 obtain⟨x4,A2,hrun,hfr,h4,hNN⟩:=xv1 hf (A:=(xgr 0 (List.replicate (n*64) 0) 0).lay 0 n) trivial
 obtain⟨s4,h5,r4⟩:=YI (ZH (xb n t)) r3' hrun
 have hE:Empty n t A2:=xxR hf (A0:=xgr 0 (List.replicate (n*64) 0) 0) (fun _ _=>rfl) (fun _ _=>rfl) hfr h4 hNN
 obtain⟨hi,hs⟩:=hE.inv hf
 have hb1:((xgr 0 (List.replicate (n*64) 0) 0).lay 0 n).b=List.replicate (n*64) 0:=by rw[hl.b];rfl
 have hb:A2.b=List.replicate (n*64) 0:=by rw[hfr.b,hb1]
 refine⟨(),s3,x4,s4,A2,xq5 hok h3 t3,xq5 (xtK hf.toFew r3 (by rw[hb1,List.length_replicate];omega)) h5 (by rw[r4.told,hfr.told,hl.told];rfl),⟨r4.port 0,hi,hs,LH.nil,?_,?_⟩,hE.rest 2 (by decide) (by decide) (by decide) (by decide)⟩
 ·rw[hb];intro y hy;rw[List.eq_of_mem_replicate hy];omega
 ·rw[hb,List.length_replicate];omega
end
end Go.Proofs.YtaegelbaghaooaaGreat
