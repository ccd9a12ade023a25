/- Part. -/
import Derived.Test.YtaegelbaghaooaaGreatCbM6
import Derived.Test.YtaegelbaghaooaaGreatCbM18
set_option linter.all false
open Go.IntKind (i64 u64 u32 u8)
namespace Go.Proofs.YtaegelbaghaooaaGreat
section
open Go Go.RowKit Lx
def cntR(f:Nat->Int):Nat->Int->Nat
 | 0,_=>0
 | N+1,v=>cntR f N v+if f N=v then 1 else 0
theorem xgd{f g:Nat->Int} : ∀ {N:Nat} {v:Int},(∀i,i<N->f i=g i)->cntR f N v=cntR g N v
 | 0,v,h=>rfl
 | N+1,v,h=>by simp only[cntR,xgd (N:=N) (v:=v) fun i hi=>h i (by omega),h N (by omega)]
theorem Xm(f:Nat->Int)(i:Nat)(x:Int) : ∀ (N:Nat) (v:Int),i<N->cntR (fun j=>if j=i then x else f j) N v+(if f i=v then 1 else 0)=cntR f N v+(if x=v then 1 else 0)
 | 0,v,h=>by omega
 | N+1,v,h=>by
  by_cases hi:i=N
  ·subst hi
   have e1:cntR (fun j=>if j=i then x else f j) i v=cntR f i v:=xgd fun j hj=>if_neg (by omega)
   have e2:(if i=i then x else f i)=x:=if_pos rfl
   show cntR (fun j=>if j=i then x else f j) i v+(if(if i=i then x else f i)=v then 1 else 0)+(if f i=v then 1 else 0)=cntR f i v+(if f i=v then 1 else 0)+(if x=v then 1 else 0)
   simp only[e1,if_true]
   omega
  ·have:=Xm f i x N v (by omega)
   have e2:(if N=i then x else f N)=f N:=if_neg (fun hh=>hi hh.symm)
   show cntR (fun j=>if j=i then x else f j) N v+(if(if N=i then x else f N)=v then 1 else 0)+(if f i=v then 1 else 0)=cntR f N v+(if f N=v then 1 else 0)+(if x=v then 1 else 0)
   simp only[e2]
   omega
theorem kr{f:Nat->Int} : ∀ {N:Nat} {v:Int},(∀i,i<N->f i≠v)->cntR f N v=0
 | 0,v,h=>rfl
 | N+1,v,h=>by simp only[cntR,kr (N:=N) fun i hi=>h i (by omega),if_neg (h N (by omega))]
theorem xaj{f:Nat->Int}{i:Nat}{v:Int} : ∀ {N:Nat},i<N->f i=v->1<=cntR f N v
 | 0,h,hv=>by omega
 | N+1,h,hv=>by
  simp only[cntR]
  by_cases hi:i=N
  ·subst hi;rw[if_pos hv];omega
  ·have:=xaj (N:=N) (show i<N by omega) hv;omega
theorem xiz{f:Nat->Int}{N:Nat}{v:Int}(h:cntR f N v=0){i:Nat}(hi:i<N):f i≠v:=fun hv=>by
 have:=xaj hi hv;omega
def yN(f:Nat->Int):Nat->Nat
 | 0=>0
 | N+1=>yN f N+if f N=0 then 0 else 1
theorem jx{f g:Nat->Int} : ∀ {N:Nat},(∀i,i<N->f i=g i)->yN f N=yN g N
 | 0,h=>rfl
 | N+1,h=>by simp only[yN,jx (N:=N) fun i hi=>h i (by omega),h N (by omega)]
theorem xiA(f:Nat->Int)(i:Nat)(hf:f i≠0) : ∀ (N:Nat),i<N->yN (fun j=>if j=i then 0 else f j) N+1=yN f N
 | 0,h=>by omega
 | N+1,h=>by
  by_cases hi:i=N
  ·subst hi
   have e1:yN (fun j=>if j=i then 0 else f j) i=yN f i:=jx fun j hj=>if_neg (by omega)
   show yN (fun j=>if j=i then 0 else f j) i+(if(if i=i then 0 else f i)=0 then 0 else 1)+1=yN f i+(if f i=0 then 0 else 1)
   rw[e1,if_pos rfl,if_pos rfl,if_neg hf]
  ·have:=xiA f i hf N (by omega)
   have e2:(if N=i then 0 else f N)=f N:=if_neg (fun hh=>hi hh.symm)
   show yN (fun j=>if j=i then 0 else f j) N+(if(if N=i then 0 else f N)=0 then 0 else 1)+1=yN f N+(if f N=0 then 0 else 1)
   simp only[e2]
   omega
theorem xge(f:Nat->Int) : ∀N,yN f N<=N
 | 0=>Nat.le_refl _
 | N+1=>by have:=xge f N;simp only[yN];split<;>omega
def LessB(r b N:Nat)(A A':AS):Prop :=∃i,i<N/\A.w r (b+i)≠0/\ ∀q,A'.w r q=if q=b+i then 0 else A.w r q
theorem LessB.nz{r b N:Nat}{A A':AS}(h:LessB r b N A A'):yN (fun i=>A'.w r (b+i)) N+1=yN (fun i=>A.w r (b+i)) N:=by
 obtain⟨i,hi,h0,h1⟩:=h
 rw[<- xiA (fun i=>A.w r (b+i)) i h0 N hi]
 congr 1
 refine jx fun j hj =>?_
 simp only[h1]
 by_cases hji:j=i
 ·rw[if_pos (by omega),if_pos hji]
 ·rw[if_neg (by omega),if_neg hji]
theorem LessB.of{r b N:Nat}{A B B' A':AS}(h:LessB r b N B B')(h1 : ∀i,B.w r i=A.w r i)(h2 : ∀i,A'.w r i=B'.w r i):LessB r b N A A':=by
 obtain⟨i,hi,h0,h3⟩:=h
 exact⟨i,hi,by rw[<- h1];exact h0,fun q=>by rw[h2,h3,h1]⟩
def blc(c:Nat):Nat:=8 / (c+1)
def slabAt:List Sg->Nat->Option (Nat×Nat)
 | [],_=>none
 | s::l,p=>if p<s.len then(match s.kd with | .slab c o=>some (c,o)|_=>none)else slabAt l (p-s.len)
def runAt:List Sg->Nat->Option Nat
 | [],_=>none
 | s::l,p=>if p<s.len then(if p=0/\s.kd = .run then some s.len else none)else runAt l (p-s.len)
theorem yC(L M:List Sg)(p:Nat):slabAt (L++M) p=if p<plen L then slabAt L p else slabAt M (p-plen L):=by
 induction L generalizing p with
 | nil=>simp[plen]
 | cons s l ih=>
  have hpl:plen (s::l)=s.len+plen l:=rfl
  simp only[List.cons_append,slabAt]
  by_cases h:p<s.len
  ·rw[if_pos h,if_pos h,if_pos (show p<plen (s::l)by omega)]
  ·rw[if_neg h,if_neg h,ih]
   by_cases h2:p-s.len<plen l
   ·rw[if_pos h2,if_pos (show p<plen (s::l)by omega)]
   ·rw[if_neg h2,if_neg (show ¬p<plen (s::l)by omega)];congr 1;omega
theorem yR(L M:List Sg)(p:Nat):runAt (L++M) p=if p<plen L then runAt L p else runAt M (p-plen L):=by
 induction L generalizing p with
 | nil=>simp[plen]
 | cons s l ih=>
  have hpl:plen (s::l)=s.len+plen l:=rfl
  simp only[List.cons_append,runAt]
  by_cases h:p<s.len
  ·rw[if_pos h,if_pos h,if_pos (show p<plen (s::l)by omega)]
  ·rw[if_neg h,if_neg h,ih]
   by_cases h2:p-s.len<plen l
   ·rw[if_pos h2,if_pos (show p<plen (s::l)by omega)]
   ·rw[if_neg h2,if_neg (show ¬p<plen (s::l)by omega)];congr 1;omega
theorem ke : ∀ (S:List Sg) (p c o:Nat),(∀s∈S,s.ok)->slabAt S p=some (c,o) ->∃L R,S=L++(⟨1,.slab c o⟩::R)/\plen L=p
 | [],p,c,o,_,h=>by cases h
 | s::l,p,c,o,hok,h=>by
  simp only[slabAt]at h
  split at h
  ·rename_i hp
   split at h
   ·rename_i c' o' hk
    cases h
    have h1:=(hok s (by simp)).2 c o hk
    obtain⟨len,kd⟩:=s
    simp only at h1 hk hp
    obtain⟨h11,_⟩:=h1
    subst h11
    rw[hk]
    exact⟨[],l,rfl,by simp only[plen];omega⟩
   ·cases h
  ·rename_i hp
   obtain⟨L,R,h1,h2⟩:=ke l _ c o (fun x hx=>hok x (by simp[hx])) h
   exact⟨s::L,R,by rw[h1];rfl,by rw[xJ,h2];omega⟩
theorem YM{S:List Sg}{p:Nat}{x:Nat×Nat}(h:slabAt S p=some x):p<plen S:=by
 induction S generalizing p with
 | nil=>cases h
 | cons s l ih=>
  simp only[slabAt]at h
  rw[xJ]
  split at h
  ·omega
  ·have:=ih h;omega
theorem YN{S:List Sg}{p c o:Nat}(hok : ∀s∈S,s.ok)(h:slabAt S p=some (c,o)):c<4/\o<64:=by
 obtain⟨L,R,rfl,_⟩:=ke S p c o hok h
 exact((hok ⟨1,.slab c o⟩ (by simp)).2 c o rfl).2
def isBlk(S:List Sg)(g c:Nat):Prop :=∃p o j,slabAt S p=some (c,o)/\j<blc c/\g=8*p+j*(c+1)
theorem xW{c j:Nat}(h:j<blc c):j*(c+1)+(c+1)<=8:=by
 unfold blc at h
 have h1:(j+1)*(c+1)<=8:=by
  have:=Nat.div_mul_le_self 8 (c+1)
  exact Nat.le_trans (Nat.mul_le_mul_right (c+1) h) this
 rw[Nat.add_mul]at h1;omega
theorem xX{S:List Sg}{g c:Nat}(h:isBlk S g c) : ∃o j,slabAt S (g / 8)=some (c,o)/\j<blc c/\g%8=j*(c+1):=by
 obtain⟨p,o,j,h1,h2,rfl⟩:=h
 have h3:=xW h2
 have e1:(8*p+j*(c+1)) / 8=p:=by omega
 exact⟨o,j,by rw[e1];exact h1,h2,by omega⟩
theorem xvM{S:List Sg}{g c d:Nat}(h:isBlk S g c)(h':isBlk S g d):c=d:=by
 obtain⟨o,j,h1,_⟩:=xX h
 obtain⟨o',j',h1',_⟩:=xX h'
 rw[h1]at h1';cases h1';rfl
inductive HK where
 | blk (c:Nat)
 | run (k:Nat)
 deriving DecidableEq
def hdw:List Nat->Int
 | []=>0
 | g::_=>((g+1:Nat):Int)
def linked(f:Nat->Int):List Nat->Prop
 | []=>True
 | g::l=>f g=hdw l/\linked f l
def hdn:List Nat->Nat
 | []=>0
 | m::_=>m
def linkedN(f:Nat->Int):List Nat->Prop
 | []=>True
 | m::l=>f (m-1)=(hdn l:Int)/\linkedN f l
def b2n(b:Bool):Nat:=if b then 1 else 0
def btw(m c v:Nat):Int:=Bt.word ⟨m,true,c,v⟩
def bt0(v:Nat):Int:=Bt.word ⟨0,false,0,v⟩
def Gon(n t:Nat)(A:AS)(bag:Nat->List Nat)(pl:List Nat):Prop :=∃rt:Nat->List Nat,
 (∀q,q<t->(rt q).length<=2*t+2/\A.w 15 q=((rt q).length:Int)/\(rt q).Nodup/\(∀k,k<(rt q).length->A.w 16 (q*(2*t+2)+k)=(((rt q).getD k 0:Nat):Int))/\ ∀m∈rt q,1<=m/\m<=nodesN n t/\m∉pl/\ ∀i,i<4*t->m∉bag i)/\
 ∀q q' m,q<t->q'<t->m∈rt q->m∈rt q'->q=q'
theorem Gon.of{n t:Nat}{A A':AS}{bag:Nat->List Nat}{pl:List Nat}(h:Gon n t A bag pl)(h15 : ∀i,A'.w 15 i=A.w 15 i)(h16 : ∀i,A'.w 16 i=A.w 16 i):Gon n t A' bag pl:=by
 obtain⟨rt,h1,h2⟩:=h
 exact⟨rt,fun q hq=>by obtain⟨a,b,c,d,e⟩:=h1 q hq;exact⟨a,by rw[h15,b],c,fun k hk=>by rw[h16,d k hk],e⟩,h2⟩
theorem Gon.sub{n t:Nat}{A A':AS}{bag bag':Nat->List Nat}{pl pl':List Nat}(h:Gon n t A bag pl)(h15 : ∀i,A'.w 15 i=A.w 15 i)(h16 : ∀i,A'.w 16 i=A.w 16 i)(hp : ∀m,(m∈pl'\/ ∃i,i<4*t/\m∈bag' i)->m∈pl\/ ∃i,i<4*t/\m∈bag i):Gon n t A' bag' pl':=by
 obtain⟨rt,h1,h2⟩:=h
 refine⟨rt,fun q hq =>?_,h2⟩
 obtain⟨a,b,c,d,e⟩:=h1 q hq
 refine⟨a,by rw[h15,b],c,fun k hk=>by rw[h16,d k hk],fun m hm =>?_⟩
 obtain⟨e1,e2,e3,e4⟩:=e m hm
 refine⟨e1,e2,fun hm' =>?_,fun i hi hm' =>?_⟩
 ·rcases hp m (.inl hm')with h|⟨j,hj,h⟩
  ·exact e3 h
  ·exact e4 j hj h
 ·rcases hp m (.inr ⟨i,hi,hm'⟩)with h|⟨j,hj,h⟩
  ·exact e3 h
  ·exact e4 j hj h
structure HI(n t:Nat)(A:AS)(held:Nat->Option HK)(S:List Sg)(mp vr:Nat->Nat)(rem bag:Nat->List Nat)(pl:List Nat):Prop where
 laid:Laid n A S
 norm:Norm S
 nodf : ∀s∈S,s.kd ≠ .dfr
 ep:0<=A.w 1 0/\A.w 1 0<18446744073709551616
 ver : ∀p,p<n->vr p<4294967296
 bitS : ∀p c o,slabAt S p=some (c,o)->mp p<2 ^ blc c/\A.w 8 p=btw (mp p) c (vr p)
 bitN : ∀p,p<n->slabAt S p=none->A.w 8 p=bt0 (vr p)
 remw : ∀p,p<n->A.w 9 p=hdw (rem p)/\linked (A.w 10) (rem p)
 remb : ∀p,p<n ->∀g∈rem p,g / 8=p/\ ∃c,isBlk S g c
 cach : ∀i,i<8*t->A.w 12 i=0\/ ∃g,A.w 12 i=((g+1:Nat):Int)/\isBlk S g (i / 2%4)
 bagw : ∀i,i<4*t->A.w 13 i=(hdn (bag i):Int)/\linkedN (A.w 17) (bag i)
 bagn : ∀i,i<4*t->(bag i).Nodup/\ ∀m∈bag i,1<=m/\m<=nodesN n t
 bagd : ∀i j m,i<4*t->j<4*t->m∈bag i->m∈bag j->i=j
 item : ∀m k,1<=m->m<=nodesN n t->k<8->A.w 18 ((m-1)*8+k)=0\/ ∃i g,i<4*t/\m∈bag i/\A.w 18 ((m-1)*8+k)=((g+1:Nat):Int)/\isBlk S g (i%4)
 polw : ∃v:Nat,v<4294967296/\A.w 4 0=Ref.word ⟨hdn pl,false,v⟩/\linkedN (A.w 17) pl
 poln:pl.Nodup/\ ∀m∈pl,1<=m/\m<=nodesN n t/\ ∀i,i<4*t->m∉bag i
 hblk : ∀g c,held g=some (.blk c)->isBlk S g c
 hrun : ∀g k,held g=some (.run k)↔g%8=0/\runAt S (g / 8)=some k
 tok : ∀p c o j,slabAt S p=some (c,o)->j<blc c->b2n ((mp p).testBit j)+cntR (A.w 12) (8*t) ((8*p+j*(c+1)+1:Nat):Int)+cntR (A.w 18) (8*nodesN n t) ((8*p+j*(c+1)+1:Nat):Int)+(rem p).count (8*p+j*(c+1))+(if(held (8*p+j*(c+1))).isSome then 1 else 0)=1
 gon:Gon n t A bag pl
def HInv(n t:Nat)(A:AS)(held:Nat->Option HK):Prop:=A.w 0 0=0/\ ∃S mp vr rem bag pl,HI n t A held S mp vr rem bag pl
theorem HI.same{n t:Nat}{A A':AS}{held:Nat->Option HK}{S:List Sg}{mp vr:Nat->Nat}{rem bag:Nat->List Nat}{pl:List Nat}(h:HI n t A held S mp vr rem bag pl)(hw : ∀r i,(r=1/\i=0)\/r=3\/(r=4)\/(7<=r/\r<=10)\/r=12\/r=13\/(15<=r/\r<=18)->A'.w r i=A.w r i):HI n t A' held S mp vr rem bag pl:=by
 have e : ∀r,(r=8\/r=9\/r=10\/r=12\/r=13\/r=17\/r=18)->A'.w r=A.w r:=fun r hr=>funext fun i=>hw r i (by omega)
 exact⟨h.laid.of (fun i=>hw 7 i (by omega)) (fun i=>hw 3 i (by omega)),h.norm,h.nodf,by rw[hw 1 0 (by omega)];exact h.ep,h.ver,by rw[e 8 (by omega)];exact h.bitS,by rw[e 8 (by omega)];exact h.bitN,by rw[e 9 (by omega),e 10 (by omega)];exact h.remw,h.remb,by rw[e 12 (by omega)];exact h.cach,by rw[e 13 (by omega),e 17 (by omega)];exact h.bagw,h.bagn,h.bagd,by rw[e 18 (by omega)];exact h.item,by rw[hw 4 0 (by omega),e 17 (by omega)];exact h.polw,h.poln,h.hblk,h.hrun,by rw[e 12 (by omega),e 18 (by omega)];exact h.tok,h.gon.of (fun i=>hw 15 i (by omega)) (fun i=>hw 16 i (by omega))⟩
theorem HI.fr{n t c:Nat}{R:List Nat}{A A':AS}{held:Nat->Option HK}{S:List Sg}{mp vr:Nat->Nat}{rem bag:Nat->List Nat}{pl:List Nat}(h:HI n t A held S mp vr rem bag pl)(f:Fr R c A A')(hR : ∀r∈R,r=0\/r=2\/r=5\/r=6\/r=11\/r=14):HI n t A' held S mp vr rem bag pl:=
 h.same fun r i hr=>f.w r (fun hm=>by have:=hR r hm;omega) i
def upd(held:Nat->Option HK)(g:Nat)(x:Option HK):Nat->Option HK:=fun q=>if q=g then x else held q
theorem xC(held:Nat->Option HK)(g:Nat)(x:Option HK):upd held g x g=x:=if_pos rfl
theorem upd_ne(held:Nat->Option HK){g q:Nat}(x:Option HK)(h:q≠g):upd held g x q=held q:=if_neg h
theorem xtE{p q c d j k:Nat}(hj:j<blc c)(hk:k<blc d)(h:8*p+j*(c+1)=8*q+k*(d+1)):p=q:=by
 have:=xW hj;have:=xW hk;omega
theorem xo3{p c j k:Nat}(h:8*p+j*(c+1)=8*p+k*(c+1)):j=k:=by
 have:j*(c+1)=k*(c+1):=by omega
 exact Nat.eq_of_mul_eq_mul_right (by omega) this
theorem yz{S:List Sg}{p:Nat}{x:Nat×Nat}(h:slabAt S p=some x):runAt S p=none:=by
 induction S generalizing p with
 | nil=>rfl
 | cons s l ih=>
  simp only[slabAt]at h
  simp only[runAt]
  split at h
  ·rename_i hp
   rw[if_pos hp]
   split at h
   ·rename_i hk;rw[if_neg (by rintro ⟨_,hh⟩;rw[hk]at hh;cases hh)]
   ·cases h
  ·rename_i hp
   rw[if_neg hp];exact ih h
end
section
open Go Go.RowKit Lx
theorem yf(A:AS)(r i:Nat)(v:Int):(A.set r i v).w r=fun q=>if q=i then v else A.w r q:=by
 funext q;simp only[AS.set_w,true_and]
theorem xM(A:AS){r q:Nat}(i:Nat)(v:Int)(h:q≠r):(A.set r i v).w q=A.w q:=by
 funext j;simp only[AS.set_w,h,false_and,if_false]
section
variable{n t:Nat}{A:AS}{held:Nat->Option HK}{S:List Sg}{mp vr:Nat->Nat}{rem bag:Nat->List Nat}{pl:List Nat}
theorem HI.held_some(h:HI n t A held S mp vr rem bag pl){g c:Nat}(hb:isBlk S g c):(∀q d,upd held g (some (.blk c)) q=some (.blk d)->isBlk S q d)/\ ∀q k,upd held g (some (.blk c)) q=some (.run k)↔q%8=0/\runAt S (q / 8)=some k:=by
 refine⟨fun q d hq =>?_,fun q k =>?_⟩
 ·by_cases hqg:q=g
  ·subst hqg;rw[xC]at hq;cases hq;exact hb
  ·rw[upd_ne _ _ hqg]at hq;exact h.hblk q d hq
 ·by_cases hqg:q=g
  ·subst hqg
   rw[xC]
   obtain⟨o,j,h1,_⟩:=xX hb
   rw[yz h1]
   simp
  ·rw[upd_ne _ _ hqg];exact h.hrun q k
theorem HI.held_none(h:HI n t A held S mp vr rem bag pl){g c:Nat}(hg:held g=some (.blk c)):(∀q d,upd held g none q=some (.blk d)->isBlk S q d)/\ ∀q k,upd held g none q=some (.run k)↔q%8=0/\runAt S (q / 8)=some k:=by
 refine⟨fun q d hq =>?_,fun q k =>?_⟩
 ·by_cases hqg:q=g
  ·subst hqg;rw[xC]at hq;cases hq
  ·rw[upd_ne _ _ hqg]at hq;exact h.hblk q d hq
 ·by_cases hqg:q=g
  ·subst hqg
   rw[xC]
   obtain⟨o,j,h1,_⟩:=xX (h.hblk q c hg)
   rw[yz h1]
   simp
  ·rw[upd_ne _ _ hqg];exact h.hrun q k
theorem HI.places(h:HI n t A held S mp vr rem bag pl){g c:Nat}(hb:isBlk S g c) : ∃p o j,slabAt S p=some (c,o)/\j<blc c/\g=8*p+j*(c+1)/\
  b2n ((mp p).testBit j)+cntR (A.w 12) (8*t) ((g+1:Nat):Int)+cntR (A.w 18) (8*nodesN n t) ((g+1:Nat):Int)+(rem p).count g+(if(held g).isSome then 1 else 0)=1:=by
 obtain⟨p,o,j,h1,h2,rfl⟩:=hb
 exact⟨p,o,j,h1,h2,rfl,h.tok p c o j h1 h2⟩
theorem isSome_none{x:Option HK}(h:(if x.isSome then 1 else 0)=0):x=none:=by cases x<;>simp at h |-
theorem HI.uncache(h:HI n t A held S mp vr rem bag pl){i g:Nat}(hi:i<8*t)(hw:A.w 12 i=((g+1:Nat):Int)):held g=none/\isBlk S g (i / 2%4)/\HI n t (A.set 12 i 0) (upd held g (some (.blk (i / 2%4)))) S mp vr rem bag pl:=by
 have hb:isBlk S g (i / 2%4):=by
  rcases h.cach i hi with h0|⟨g',h1,h2⟩
  ·rw[hw]at h0;omega
  ·rw[hw]at h1;obtain rfl:g=g':=by omega
   exact h2
 have hn:held g=none:=by
  obtain⟨p,o,j,h1,h2,h3,h4⟩:=h.places hb
  have:=xaj hi hw
  exact isSome_none (by omega)
 obtain⟨k1,k2⟩:=h.held_some hb
 refine⟨hn,hb,⟨h.laid.of (fun _=>rfl) (fun _=>rfl),h.norm,h.nodf,h.ep,h.ver,h.bitS,h.bitN,h.remw,h.remb,fun q hq =>?_,h.bagw,h.bagn,h.bagd,h.item,h.polw,h.poln,k1,k2,fun p c o j hs hj =>?_,h.gon⟩⟩
 ·rw[yf]
  by_cases hqi:q=i
  ·left;simp[hqi]
  ·simp only[if_neg hqi];exact h.cach q hq
 ·have h1:=h.tok p c o j hs hj
  rw[yf,xM A i 0 (show 18≠12 by decide)]
  have h2:=Xm (A.w 12) i 0 (8*t) ((8*p+j*(c+1)+1:Nat):Int) hi
  rw[if_neg (show ¬ (0:Int)=((8*p+j*(c+1)+1:Nat):Int)by omega)]at h2
  by_cases hg:8*p+j*(c+1)=g
  ·rw[if_pos (by rw[hw,hg])]at h2
   rw[hg]at h1 h2 |-
   rw[hn]at h1
   rw[xC]
   simp only[Option.isSome_none,Option.isSome_some,Bool.false_eq_true,if_false,if_true]at h1 |-
   omega
  ·rw[if_neg (by rw[hw];omega)]at h2
   rw[upd_ne _ _ hg]
   omega
theorem HI.cache(h:HI n t A held S mp vr rem bag pl){i g:Nat}(hi:i<8*t)(hw:A.w 12 i=0)(hg:held g=some (.blk (i / 2%4))):HI n t (A.set 12 i ((g+1:Nat):Int)) (upd held g none) S mp vr rem bag pl:=by
 obtain⟨k1,k2⟩:=h.held_none hg
 refine⟨h.laid.of (fun _=>rfl) (fun _=>rfl),h.norm,h.nodf,h.ep,h.ver,h.bitS,h.bitN,h.remw,h.remb,fun q hq =>?_,h.bagw,h.bagn,h.bagd,h.item,h.polw,h.poln,k1,k2,fun p c o j hs hj =>?_,h.gon⟩
 ·rw[yf]
  by_cases hqi:q=i
  ·right;exact⟨g,by simp[hqi],by rw[hqi];exact h.hblk g _ hg⟩
  ·simp only[if_neg hqi];exact h.cach q hq
 ·have h1:=h.tok p c o j hs hj
  rw[yf,xM A i _ (show 18≠12 by decide)]
  have h2:=Xm (A.w 12) i ((g+1:Nat):Int) (8*t) ((8*p+j*(c+1)+1:Nat):Int) hi
  rw[if_neg (show ¬A.w 12 i=((8*p+j*(c+1)+1:Nat):Int)by rw[hw];omega)]at h2
  by_cases hgg:8*p+j*(c+1)=g
  ·rw[if_pos (by rw[hgg])]at h2
   rw[hgg]at h1 h2 |-
   rw[hg]at h1
   rw[xC]
   simp only[Option.isSome_none,Option.isSome_some,Bool.false_eq_true,if_false,if_true]at h1 |-
   omega
  ·rw[if_neg (by omega)]at h2
   rw[upd_ne _ _ hgg]
   omega
theorem HI.unitem(h:HI n t A held S mp vr rem bag pl){m k g:Nat}(hm:1<=m)(hm2:m<=nodesN n t)(hk:k<8)(hw:A.w 18 ((m-1)*8+k)=((g+1:Nat):Int)){x:Nat}(hx:x<4*t)(hmx:m∈bag x) :
  held g=none/\isBlk S g (x%4)/\HI n t (A.set 18 ((m-1)*8+k) 0) (upd held g (some (.blk (x%4)))) S mp vr rem bag pl:=by
 have hi:(m-1)*8+k<8*nodesN n t:=by omega
 have hb:isBlk S g (x%4):=by
  rcases h.item m k hm hm2 hk with h0|⟨y,g',hy,hmy,h1,h2⟩
  ·rw[hw]at h0;omega
  ·rw[hw]at h1;obtain rfl:g=g':=by omega
   rw[h.bagd x y m hx hy hmx hmy];exact h2
 have hn:held g=none:=by
  obtain⟨p,o,j,h1,h2,h3,h4⟩:=h.places hb
  have:=xaj hi hw
  exact isSome_none (by omega)
 obtain⟨k1,k2⟩:=h.held_some hb
 refine⟨hn,hb,⟨h.laid.of (fun _=>rfl) (fun _=>rfl),h.norm,h.nodf,h.ep,h.ver,h.bitS,h.bitN,h.remw,h.remb,h.cach,h.bagw,h.bagn,h.bagd,fun m' k' h1 h2 h3 =>?_,h.polw,h.poln,k1,k2,fun p c o j hs hj =>?_,h.gon⟩⟩
 ·rw[yf]
  by_cases hqi:(m'-1)*8+k'=(m-1)*8+k
  ·left;simp[hqi]
  ·simp only[if_neg hqi];exact h.item m' k' h1 h2 h3
 ·have h1:=h.tok p c o j hs hj
  rw[yf,xM A _ 0 (show 12≠18 by decide)]
  have h2:=Xm (A.w 18) ((m-1)*8+k) 0 (8*nodesN n t) ((8*p+j*(c+1)+1:Nat):Int) hi
  rw[if_neg (show ¬ (0:Int)=((8*p+j*(c+1)+1:Nat):Int)by omega)]at h2
  by_cases hg:8*p+j*(c+1)=g
  ·rw[if_pos (by rw[hw,hg])]at h2
   rw[hg]at h1 h2 |-
   rw[hn]at h1
   rw[xC]
   simp only[Option.isSome_none,Option.isSome_some,Bool.false_eq_true,if_false,if_true]at h1 |-
   omega
  ·rw[if_neg (by rw[hw];omega)]at h2
   rw[upd_ne _ _ hg]
   omega
theorem HI.additem(h:HI n t A held S mp vr rem bag pl){m k g:Nat}(hm:1<=m)(hm2:m<=nodesN n t)(hk:k<8)(hw:A.w 18 ((m-1)*8+k)=0){x:Nat}(hx:x<4*t)(hmx:m∈bag x)(hg:held g=some (.blk (x%4))) :
  HI n t (A.set 18 ((m-1)*8+k) ((g+1:Nat):Int)) (upd held g none) S mp vr rem bag pl:=by
 have hi:(m-1)*8+k<8*nodesN n t:=by omega
 obtain⟨k1,k2⟩:=h.held_none hg
 refine⟨h.laid.of (fun _=>rfl) (fun _=>rfl),h.norm,h.nodf,h.ep,h.ver,h.bitS,h.bitN,h.remw,h.remb,h.cach,h.bagw,h.bagn,h.bagd,fun m' k' h1 h2 h3 =>?_,h.polw,h.poln,k1,k2,fun p c o j hs hj =>?_,h.gon⟩
 ·rw[yf]
  by_cases hqi:(m'-1)*8+k'=(m-1)*8+k
  ·right
   obtain rfl:m'=m:=by omega
   exact⟨x,g,hx,hmx,by simp[hqi],h.hblk g _ hg⟩
  ·simp only[if_neg hqi];exact h.item m' k' h1 h2 h3
 ·have h1:=h.tok p c o j hs hj
  rw[yf,xM A _ _ (show 12≠18 by decide)]
  have h2:=Xm (A.w 18) ((m-1)*8+k) ((g+1:Nat):Int) (8*nodesN n t) ((8*p+j*(c+1)+1:Nat):Int) hi
  rw[if_neg (show ¬A.w 18 ((m-1)*8+k)=((8*p+j*(c+1)+1:Nat):Int)by rw[hw];omega)]at h2
  by_cases hgg:8*p+j*(c+1)=g
  ·rw[if_pos (by rw[hgg])]at h2
   rw[hgg]at h1 h2 |-
   rw[hg]at h1
   rw[xC]
   simp only[Option.isSome_none,Option.isSome_some,Bool.false_eq_true,if_false,if_true]at h1 |-
   omega
  ·rw[if_neg (by omega)]at h2
   rw[upd_ne _ _ hgg]
   omega
def updN(f:Nat->Nat)(p x:Nat):Nat->Nat:=fun q=>if q=p then x else f q
theorem HI.unhome(h:HI n t A held S mp vr rem bag pl){p c o j m':Nat}(hs:slabAt S p=some (c,o))(hj:j<blc c)(hbit:(mp p).testBit j=true)(hm:m'<2 ^ blc c)(hb' : ∀i,m'.testBit i=((mp p).testBit i&&decide (i≠j))) :
  held (8*p+j*(c+1))=none/\HI n t (A.set 8 p (btw m' c (vr p))) (upd held (8*p+j*(c+1)) (some (.blk c))) S (updN mp p m') vr rem bag pl:=by
 have hb:isBlk S (8*p+j*(c+1)) c:=⟨p,o,j,hs,hj,rfl⟩
 have hn:held (8*p+j*(c+1))=none:=by
  have h4:=h.tok p c o j hs hj
  rw[hbit,show b2n true=1 from rfl]at h4
  exact isSome_none (by omega)
 obtain⟨k1,k2⟩:=h.held_some hb
 refine⟨hn,⟨h.laid.of (fun _=>rfl) (fun _=>rfl),h.norm,h.nodf,h.ep,h.ver,fun q d o' hq =>?_,fun q hq hqs =>?_,h.remw,h.remb,h.cach,h.bagw,h.bagn,h.bagd,h.item,h.polw,h.poln,k1,k2,fun q d o' i hq hi =>?_,h.gon⟩⟩
 ·rw[yf]
  by_cases hqp:q=p
  ·subst hqp
   rw[hs]at hq;cases hq
   simp only[updN,if_true]
   exact⟨hm,trivial⟩
  ·simp only[updN,if_neg hqp];exact h.bitS q d o' hq
 ·rw[yf]
  have hqp:q≠p:=fun hh=>by rw[hh,hs]at hqs;cases hqs
  simp only[if_neg hqp];exact h.bitN q hq hqs
 ·have h1:=h.tok q d o' i hq hi
  rw[xM A _ _ (show 12≠8 by decide),xM A _ _ (show 18≠8 by decide)]
  by_cases hqp:q=p
  ·subst hqp
   rw[hs]at hq;cases hq
   simp only[updN,if_true]
   rw[hb']
   by_cases hij:i=j
   ·subst hij
    rw[hn,hbit,show b2n true=1 from rfl]at h1
    rw[xC,hbit]
    simp only[Option.isSome_none,Option.isSome_some,Bool.false_eq_true,if_false,if_true,ne_eq,not_true_eq_false,decide_false,Bool.and_false,show b2n false=0 from rfl]at h1 |-
    omega
   ·rw[upd_ne _ _ (fun hh=>hij (xo3 hh))]
    simp only[ne_eq,hij,not_false_eq_true,decide_true,Bool.and_true]
    exact h1
  ·simp only[updN,if_neg hqp]
   rw[upd_ne _ _ (fun hh=>hqp (xtE hi hj hh))]
   exact h1
theorem HI.home(h:HI n t A held S mp vr rem bag pl){p c o j m':Nat}(hs:slabAt S p=some (c,o))(hj:j<blc c)(hg:held (8*p+j*(c+1))=some (.blk c))(hm:m'<2 ^ blc c)(hb' : ∀i,m'.testBit i=((mp p).testBit i||decide (i=j))) :
  (mp p).testBit j=false/\HI n t (A.set 8 p (btw m' c (vr p))) (upd held (8*p+j*(c+1)) none) S (updN mp p m') vr rem bag pl:=by
 have hbit:(mp p).testBit j=false:=by
  have h4:=h.tok p c o j hs hj
  rw[hg]at h4
  cases hh:(mp p).testBit j with
  | false=>rfl
  | true=>rw[hh,show b2n true=1 from rfl]at h4;simp at h4
 obtain⟨k1,k2⟩:=h.held_none hg
 refine⟨hbit,⟨h.laid.of (fun _=>rfl) (fun _=>rfl),h.norm,h.nodf,h.ep,h.ver,fun q d o' hq =>?_,fun q hq hqs =>?_,h.remw,h.remb,h.cach,h.bagw,h.bagn,h.bagd,h.item,h.polw,h.poln,k1,k2,fun q d o' i hq hi =>?_,h.gon⟩⟩
 ·rw[yf]
  by_cases hqp:q=p
  ·subst hqp
   rw[hs]at hq;cases hq
   simp only[updN,if_true]
   exact⟨hm,trivial⟩
  ·simp only[updN,if_neg hqp];exact h.bitS q d o' hq
 ·rw[yf]
  have hqp:q≠p:=fun hh=>by rw[hh,hs]at hqs;cases hqs
  simp only[if_neg hqp];exact h.bitN q hq hqs
 ·have h1:=h.tok q d o' i hq hi
  rw[xM A _ _ (show 12≠8 by decide),xM A _ _ (show 18≠8 by decide)]
  by_cases hqp:q=p
  ·subst hqp
   rw[hs]at hq;cases hq
   simp only[updN,if_true]
   rw[hb']
   by_cases hij:i=j
   ·subst hij
    rw[hg,hbit,show b2n false=0 from rfl]at h1
    rw[xC,hbit]
    simp only[Option.isSome_none,Option.isSome_some,Bool.false_eq_true,if_false,if_true,decide_true,Bool.false_or,show b2n true=1 from rfl]at h1 |-
    omega
   ·rw[upd_ne _ _ (fun hh=>hij (xo3 hh))]
    simp only[hij,decide_false,Bool.or_false]
    exact h1
  ·simp only[updN,if_neg hqp]
   rw[upd_ne _ _ (fun hh=>hqp (xtE hi hj hh))]
   exact h1
def updL(f:Nat->List Nat)(p:Nat)(x:List Nat):Nat->List Nat:=fun q=>if q=p then x else f q
theorem Vg{f:Nat->Int}{i:Nat}{v:Int} : ∀ {l:List Nat},i∉l->linked f l->linked (fun q=>if q=i then v else f q) l
 | [],_,_=>trivial
 | g::l,hi,h=>⟨by show(if g=i then v else f g)=hdw l;rw[if_neg (fun hh=>hi (by simp[hh]))];exact h.1,Vg (fun hh=>hi (by simp[hh])) h.2⟩
theorem HI.push(h:HI n t A held S mp vr rem bag pl){g c:Nat}(hg:held g=some (.blk c))(hp:g / 8<n):HI n t ((A.set 10 g (hdw (rem (g / 8)))).tick.set 9 (g / 8) ((g+1:Nat):Int)) (upd held g none) S mp vr (updL rem (g / 8) (g::rem (g / 8))) bag pl:=by
 have hb:=h.hblk g c hg
 obtain⟨k1,k2⟩:=h.held_none hg
 have hnot : ∀q,q<n->g∉rem q:=by
  intro q hq hm
  obtain⟨e,_⟩:=h.remb q hq g hm
  obtain⟨p,o,j,h1,h2,h3,h4⟩:=h.places hb
  have:=xW h2
  obtain rfl:p=q:=by omega
  have:=List.count_pos_iff.2 hm
  rw[hg]at h4
  simp only[Option.isSome_some,if_true]at h4
  omega
 refine⟨h.laid.of (fun _=>rfl) (fun _=>rfl),h.norm,h.nodf,h.ep,h.ver,h.bitS,h.bitN,fun q hq =>?_,fun q hq x hx =>?_,h.cach,h.bagw,h.bagn,h.bagd,h.item,h.polw,h.poln,k1,k2,fun q d o' i hq hi =>?_,h.gon⟩
 ·rw[yf,xM _ _ _ (show 10≠9 by decide),AS.tick_w,yf,xM A _ _ (show 9≠10 by decide)]
  obtain⟨h1,h2⟩:=h.remw q hq
  by_cases hqp:q=g / 8
  ·subst hqp
   simp only[updL,if_true]
   exact⟨rfl,by simp,Vg (hnot _ hq) h2⟩
  ·simp only[updL,if_neg hqp]
   exact⟨h1,Vg (hnot _ hq) h2⟩
 ·by_cases hqp:q=g / 8
  ·subst hqp
   simp only[updL,if_true,List.mem_cons]at hx
   rcases hx with rfl|hx
   ·exact⟨rfl,c,hb⟩
   ·exact h.remb _ hq x hx
  ·simp only[updL,if_neg hqp]at hx
   exact h.remb q hq x hx
 ·have h1:=h.tok q d o' i hq hi
  have hi':=xW hi
  rw[xM _ _ _ (show 12≠9 by decide),xM _ _ _ (show 18≠9 by decide),AS.tick_w,xM A _ _ (show 12≠10 by decide),xM A _ _ (show 18≠10 by decide)]
  by_cases hqp:q=g / 8
  ·simp only[updL,if_pos hqp]
   subst hqp
   by_cases hgg:8*(g / 8)+i*(d+1)=g
   ·rw[hgg]at h1 |-
    rw[hg]at h1
    rw[xC,List.count_cons_self]
    simp only[Option.isSome_none,Option.isSome_some,Bool.false_eq_true,if_false,if_true]at h1 |-
    omega
   ·rw[upd_ne _ _ hgg,List.count_cons_of_ne (fun hh=>hgg hh.symm)]
    exact h1
  ·simp only[updL,if_neg hqp]
   rw[upd_ne _ _ (fun hh=>hqp (by omega))]
   exact h1
theorem HI.drain(h:HI n t A held S mp vr rem bag pl){p c o:Nat}(hs:slabAt S p=some (c,o))(hp:p<n):(∀g∈rem p,held g=none)/\(rem p).Nodup/\
  HI n t (A.set 9 p 0) (fun g=>if g∈rem p then some (.blk c)else held g) S mp vr (updL rem p []) bag pl:=by
 have hin : ∀g∈rem p,isBlk S g c:=by
  intro g hg
  obtain⟨e,d,hb⟩:=h.remb p hp g hg
  obtain⟨o',j,h1,h2,h3⟩:=xX hb
  rw[e,hs]at h1;cases h1;exact hb
 have hcnt : ∀g∈rem p,(rem p).count g=1/\held g=none:=by
  intro g hg
  obtain⟨q,o',j,h1,h2,h3,h4⟩:=h.places (hin g hg)
  obtain⟨e,_⟩:=h.remb p hp g hg
  have:=xW h2
  obtain rfl:q=p:=by omega
  have:=List.count_pos_iff.2 hg
  exact⟨by omega,isSome_none (by omega)⟩
 refine⟨fun g hg=>(hcnt g hg).2,List.nodup_iff_count.2 fun g =>?_,⟨h.laid.of (fun _=>rfl) (fun _=>rfl),h.norm,h.nodf,h.ep,h.ver,h.bitS,h.bitN,fun q hq =>?_,fun q hq x hx =>?_,h.cach,h.bagw,h.bagn,h.bagd,h.item,h.polw,h.poln,fun g d hg =>?_,fun g k =>?_,fun q d o' i hq hi =>?_,h.gon⟩⟩
 ·by_cases hg:g∈rem p
  ·rw[(hcnt g hg).1];exact Nat.le_refl _
  ·rw[List.count_eq_zero.2 hg];omega
 ·rw[yf,xM A _ _ (show 10≠9 by decide)]
  obtain⟨h1,h2⟩:=h.remw q hq
  by_cases hqp:q=p
  ·simp only[updL,if_pos hqp];exact⟨rfl,trivial⟩
  ·simp only[updL,if_neg hqp];exact⟨h1,h2⟩
 ·by_cases hqp:q=p
  ·simp only[updL,if_pos hqp]at hx;cases hx
  ·simp only[updL,if_neg hqp]at hx;exact h.remb q hq x hx
 ·by_cases hm:g∈rem p
  ·rw[if_pos hm]at hg;cases hg;exact hin g hm
  ·rw[if_neg hm]at hg;exact h.hblk g d hg
 ·by_cases hm:g∈rem p
  ·rw[if_pos hm]
   obtain⟨o',j,h1,_⟩:=xX (hin g hm)
   rw[yz h1];simp
  ·rw[if_neg hm];exact h.hrun g k
 ·have h1:=h.tok q d o' i hq hi
  rw[xM A _ _ (show 12≠9 by decide),xM A _ _ (show 18≠9 by decide)]
  by_cases hm:8*q+i*(d+1)∈rem p
  ·obtain⟨e,_⟩:=h.remb p hp _ hm
   have:=xW hi
   obtain rfl:q=p:=by omega
   obtain⟨g1,g2⟩:=hcnt _ hm
   rw[g1,g2]at h1
   simp only[updL,if_true,if_pos hm,List.count_nil]
   simp only[Option.isSome_none,Option.isSome_some,Bool.false_eq_true,if_false,if_true]at h1 |-
   omega
  ·by_cases hqp:q=p
   ·subst hqp
    simp only[updL,if_true,if_neg hm,List.count_nil]
    rw[List.count_eq_zero.2 hm]at h1
    exact h1
   ·simp only[updL,if_neg hqp,if_neg hm];exact h1
end
end
section
open Go Go.RowKit Lx
section
variable{n t:Nat}(hf:Few n t){A:AS}{held:Nat->Option HK}{S:List Sg}{mp vr:Nat->Nat}{rem bag:Nat->List Nat}{pl:List Nat}
include hf
theorem at0:atF (xb n t) 0 0=((Br n t 0+0:Nat):Int):=vT hf (r:=0) (i:=0) (by omega) (by simp[Zr])
theorem at1:atF (xb n t) 1 0=((Br n t 1+0:Nat):Int):=vT hf (r:=1) (i:=0) (by omega) (by simp[Zr])
theorem at4:atF (xb n t) 4 0=((Br n t 4+0:Nat):Int):=vT hf (r:=4) (i:=0) (by omega) (by simp[Zr])
theorem at5{c:Nat}(hc:c<4):atF (xb n t) 5 (c:Int)=((Br n t 5+c:Nat):Int):=vT hf (r:=5) (by omega) (by simpa[Zr]using hc)
theorem at8{p:Nat}(hp:p<n):atF (xb n t) 8 (p:Int)=((Br n t 8+p:Nat):Int):=vT hf (by omega) hp
theorem at9{p:Nat}(hp:p<n):atF (xb n t) 9 (p:Int)=((Br n t 9+p:Nat):Int):=vT hf (by omega) hp
theorem at10{g:Nat}(hg:g<n*8):atF (xb n t) 10 (g:Int)=((Br n t 10+g:Nat):Int):=vT hf (by omega) hg
theorem at11{g:Nat}(hg:g<n*8):atF (xb n t) 11 (g:Int)=((Br n t 11+g:Nat):Int):=vT hf (by omega) hg
theorem at12{th c s:Nat}(ht:th<t)(hc:c<4)(hs:s<2):atF (xb n t) 12 (inF (inF (th:Int) (c:Int) 4) (s:Int) 2)=((Br n t 12+((th*4+c)*2+s):Nat):Int):=by
 have:=hf.t2
 have e1:=xf6 (a:=th) (k:=c) (m:=4) (by omega) hc (by omega)
 have e2:=xf6 (a:=th*4+c) (k:=s) (m:=2) (by omega) hs (by omega)
 rw[show((4:Int))=((4:Nat):Int)from rfl,e1,show((2:Int))=((2:Nat):Int)from rfl,e2]
 exact vT hf (by omega) (by show _<t*4*2;omega)
theorem at13{th c:Nat}(ht:th<t)(hc:c<4):atF (xb n t) 13 (inF (th:Int) (c:Int) 4)=((Br n t 13+(th*4+c):Nat):Int):=by
 have:=hf.t2
 rw[show((4:Int))=((4:Nat):Int)from rfl,xf6 (a:=th) (k:=c) (m:=4) (by omega) hc (by omega)]
 exact vT hf (by omega) (by show _<t*4;omega)
theorem at14{th s:Nat}(ht:th<t)(hs:s<2):atF (xb n t) 14 (inF (th:Int) (s:Int) 2)=((Br n t 14+(th*2+s):Nat):Int):=by
 have:=hf.t2
 rw[show((2:Int))=((2:Nat):Int)from rfl,xf6 (a:=th) (k:=s) (m:=2) (by omega) hs (by omega)]
 exact vT hf (by omega) (by show _<t*2;omega)
theorem at15{th:Nat}(ht:th<t):atF (xb n t) 15 (th:Int)=((Br n t 15+th:Nat):Int):=vT hf (by omega) ht
theorem at17{m:Nat}(hm:1<=m)(hm2:m<=nodesN n t):atF (xb n t) 17 (inF (i64.wrap ((m:Int)-1)) 0 1)=((Br n t 17+(m-1):Nat):Int):=by
 have hn:=xae hf.n2 hf.t2
 have e:i64.wrap ((m:Int)-1)=((m-1:Nat):Int):=by rw[w64 (by omega) (by omega)];omega
 have e1:=xf6 (a:=m-1) (k:=0) (m:=1) (by omega) (by omega) (by omega)
 rw[e]
 rw[show((1:Int))=((1:Nat):Int)from rfl,show((0:Int))=((0:Nat):Int)from rfl,e1,Nat.mul_one,Nat.add_zero]
 exact vT hf (by omega) (by show _<nodesN n t;omega)
theorem at18{m k:Nat}(hm:1<=m)(hm2:m<=nodesN n t)(hk:k<8):atF (xb n t) 18 (inF (i64.wrap ((m:Int)-1)) (k:Int) 8)=((Br n t 18+((m-1)*8+k):Nat):Int):=by
 have hn:=xae hf.n2 hf.t2
 have e:i64.wrap ((m:Int)-1)=((m-1:Nat):Int):=by rw[w64 (by omega) (by omega)];omega
 have e1:=xf6 (a:=m-1) (k:=k) (m:=8) (by omega) hk (by omega)
 rw[e,show((8:Int))=((8:Nat):Int)from rfl,e1]
 exact vT hf (by omega) (by show _<nodesN n t*8;omega)
theorem xbM(h:HI n t A held S mp vr rem bag pl){th c:Nat}(ht:th<t)(hc:c<4):Rn n t (qu (xb n t) (th:Int) (c:Int)) A fun r A'=>
  (∃g,r=(((g+1:Nat):Int),true)/\held g=none/\isBlk S g c/\HI n t A' (upd held g (some (.blk c))) S mp vr rem bag pl/\Fr [12] 4 A A'/\LessB 12 ((th*4+c)*2) 2 A A')\/
  (r=(0,false)/\Fr [] 2 A A'/\A.w 12 ((th*4+c)*2)=0/\A.w 12 ((th*4+c)*2+1)=0):=by
 have a0:=at12 hf (s:=0) ht hc (by omega)
 have a1:=at12 hf (s:=1) ht hc (by omega)
 rw[show(((0:Nat)):Int)=0 from rfl]at a0
 rw[show(((1:Nat)):Int)=1 from rfl]at a1
 have got : ∀s,s<2 ->∀B:AS,B.w=A.w->A.w 12 ((th*4+c)*2+s)≠0 ->∀d,Fr [] d A B->d<=2 ->∃g,(A.w 12 ((th*4+c)*2+s),true)=(((g+1:Nat):Int),true)/\held g=none/\isBlk S g c/\HI n t (B.set 12 ((th*4+c)*2+s) 0).tick (upd held g (some (.blk c))) S mp vr rem bag pl/\Fr [12] 4 A (B.set 12 ((th*4+c)*2+s) 0).tick/\LessB 12 ((th*4+c)*2) 2 A (B.set 12 ((th*4+c)*2+s) 0).tick:=by
  intro s hs B hB hne d hfr hd
  have hi:(th*4+c)*2+s<8*t:=by omega
  rcases h.cach _ hi with h0|⟨g,h1,h2⟩
  ·exact absurd h0 hne
  ·have hB':HI n t B held S mp vr rem bag pl:=h.same fun r i _=>by rw[hB]
   obtain⟨k1,k2,k3⟩:=hB'.uncache hi (by rw[hB];exact h1)
   have e:((th*4+c)*2+s) / 2%4=c:=by omega
   rw[e]at k2 k3
   exact⟨g,by rw[h1],k1,k2,k3.same fun r i _=>rfl,hfr.trans (Fr.sett (R :=[12]) _ _ (by simp)),s,hs,hne,fun q=>by simp[hB]⟩
 have hi1:(th*4+c)*2+1<Zr n t 12:=by show _<t*4*2;omega
 have hi0:(th*4+c)*2+0<Zr n t 12:=by show _<t*4*2;omega
 unfold qu xcR
 refine Rn.no (by rw[dF,a0];omega) ?_
 refine Rn.load a0 (by omega) hi0 ?_
 refine Rn.cond (fun hx =>?_) (fun hx =>?_)
 ·refine Rn.cas a0 (by omega) hi0 rfl ?_
  refine Rn.yes rfl (Rn.ret (.inl ?_))
  exact got 0 (by omega) A.tick rfl (by simpa using hx) 1 (Fr.tick [] A) (by omega)
 ·refine Rn.no (by rw[dF,a1];omega) ?_
  refine Rn.load a1 (by omega) hi1 ?_
  refine Rn.cond (fun hy =>?_) (fun hy =>?_)
  ·refine Rn.cas a1 (by omega) hi1 rfl ?_
   refine Rn.yes rfl (Rn.ret (.inl ?_))
   exact got 1 (by omega) A.tick.tick rfl (by simpa using hy) 2 ((Fr.tick [] A).trans (Fr.tick [] _)) (by omega)
  ·exact Rn.ret (.inr ⟨rfl,(Fr.tick [] A).trans (Fr.tick [] _),by simpa using hx,by simpa using hy⟩)
theorem xso(h:HI n t A held S mp vr rem bag pl){th c:Nat}(hs:A.self=(th:Int))(ht:th<t)(hc:c<4)(o:Int)(hn:n*8<=2048)(hS:plen S=n):Rn n t (XT (xb n t) o (c:Int)) A fun r A'=>
  (∃g:Nat,r=(⟨(g:Int),true,0⟩,o)/\held g=none/\isBlk S g c/\HI n t A' (upd held g (some (.blk c))) S mp vr rem bag pl/\Fr [12] 4 A A')\/
  (r.1.ok=false/\r.1.e=0/\r.2=o/\Fr [] 2 A A'):=by
 unfold XT VW jD VG
 simp only[T.bind]
 refine Rn.self ?_
 rw[hs,T.bind_assoc]
 refine Rn.bind (xbM hf h ht hc) ?_
 rintro r A1 (⟨g,rfl,h1,h2,h3,h4,_⟩|⟨rfl,h1,_,_⟩)
 ·refine Rn.ret (.inl ⟨g,?_,h1,h2,h3,h4⟩)
  obtain⟨p,o',j,q1,q2,rfl⟩:=h2
  have:=xW q2
  have:=YM q1
  have e:i64.wrap (i64.wrap ((8*p+j*(c+1)+1:Nat):Int)-1)=((8*p+j*(c+1):Nat):Int):=by
   generalize j*(c+1)=x at *
   rw[wN _ (by omega),w64 (by omega) (by omega)];omega
  simp only[e]
 ·exact Rn.ret (.inr ⟨rfl,rfl,rfl,h1⟩)
theorem xxD(h:HI n t A held S mp vr rem bag pl){th c g:Nat}(hs:A.self=(th:Int))(ht:th<t)(hc:c<4)(hg:held g=some (.blk c)):Rn n t (xhA (xb n t) (c:Int) ((g+1:Nat):Int)) A fun r A'=>
  (r=true/\HI n t A' (upd held g none) S mp vr rem bag pl/\Fr [12] 2 A A')\/(r=false/\Fr [] 2 A A'):=by
 have a0:=at12 hf (s:=0) ht hc (by omega)
 have a1:=at12 hf (s:=1) ht hc (by omega)
 rw[show(((0:Nat)):Int)=0 from rfl]at a0
 rw[show(((1:Nat)):Int)=1 from rfl]at a1
 have hi1:(th*4+c)*2+1<Zr n t 12:=by show _<t*4*2;omega
 have hi0:(th*4+c)*2+0<Zr n t 12:=by show _<t*4*2;omega
 have put : ∀s,s<2 ->∀B:AS,B.w=A.w->A.w 12 ((th*4+c)*2+s)=0->HI n t (B.set 12 ((th*4+c)*2+s) ((g+1:Nat):Int)).tick (upd held g none) S mp vr rem bag pl:=by
  intro s hs B hB hz
  have hi:(th*4+c)*2+s<8*t:=by omega
  have hB':HI n t B held S mp vr rem bag pl:=h.same fun r i _=>by rw[hB]
  have e:((th*4+c)*2+s) / 2%4=c:=by omega
  exact(hB'.cache hi (by rw[hB];exact hz) (by rw[e];exact hg)).same fun r i _=>rfl
 unfold xhA xjb
 refine Rn.self ?_
 rw[hs]
 refine Rn.no (by simp;omega) ?_
 refine Rn.no (by rw[dF,a0];omega) ?_
 by_cases hz:A.w 12 ((th*4+c)*2+0)=0
 ·refine Rn.cas a0 (by omega) hi0 hz ?_
  exact Rn.yes rfl (Rn.ret (.inl ⟨rfl,put 0 (by omega) A rfl hz,(Fr.sett (R :=[12]) _ _ (by simp)).mono⟩))
 ·refine Rn.cas_not a0 (by omega) hi0 hz (Rn.no rfl ?_)
  refine Rn.self ?_
  rw[AS.tick_self,hs]
  refine Rn.no (by simp;omega) ?_
  refine Rn.no (by rw[dF,a1];omega) ?_
  by_cases hz1:A.w 12 ((th*4+c)*2+1)=0
  ·refine Rn.cas a1 (by omega) hi1 hz1 ?_
   exact Rn.yes rfl (Rn.ret (.inl ⟨rfl,put 1 (by omega) A.tick rfl hz1,(Fr.tick [] A).trans (Fr.sett (R :=[12]) _ _ (by simp))⟩))
  ·exact Rn.cas_not a1 (by omega) hi1 hz1 (Rn.no rfl (Rn.ret (.inr ⟨rfl,(Fr.tick [] A).trans (Fr.tick [] _)⟩)))
end
end
section
open Go Go.RowKit Lx
theorem qi : ∀ (N:Nat) (l:List Nat),l.Nodup->(∀x∈l,1<=x/\x<=N)->l.length<=N
 | 0,l,h,hl=>by
  cases l with
  | nil=>simp
  | cons x l=>have:=hl x (by simp);omega
 | N+1,l,h,hl=>by
  by_cases hm:N+1∈l
  ·have h1:=qi N (l.erase (N+1)) (h.erase _) fun x hx=>by
    have hx':=(h.mem_erase_iff).1 hx
    have:=hl x hx'.2
    have:=hx'.1
    omega
   rw[List.length_erase_of_mem hm]at h1
   omega
  ·have:=qi N l h fun x hx=>by
    have:=hl x hx
    have:x≠N+1:=fun hh=>hm (hh▸hx)
    omega
   omega
theorem ks{x:Nat}(h:x<16777216):xio (x:Int)=⟨(x:Int),false,0⟩:=by
 rw[xix x (by omega)]
 have e1:x%16777216=x:=Nat.mod_eq_of_lt h
 have e2:x / 16777216%2=0:=by omega
 have e3:x / 4294967296%4294967296=0:=by omega
 rw[e1,e2,e3];rfl
theorem Zd{N:Nat}{l:List Nat}(h : ∀m∈l,1<=m/\m<=N):hdn l<=N:=by
 cases l with
 | nil=>exact Nat.zero_le _
 | cons m l=>exact(h m (by simp)).2
structure Small(n t:Nat):Prop extends Few n t where
 nodes:nodesN n t<4000
section
variable{n t:Nat}(hf:Small n t){A:AS}{held:Nat->Option HK}{S:List Sg}{mp vr:Nat->Nat}{rem bag:Nat->List Nat}{pl:List Nat}
include hf
theorem Ze{A:AS}{k:Nat}:(wW (xb n t) (k:Int)).run (xl n t) A=some (false,A):=by
 have:=hf.n1
 unfold wW Kb xeA xc6
 rw[show((xb n t).pages==0)=false by show(((n:Nat):Int)==0)=false;simp;omega]
 have e:((-1:Int)==(k:Int))=false:=beq_eq_false_iff_ne.2 (by omega)
 simp only[cond_false]
 unfold ZD XQ
 first
  | (simp only[e,cond_false,T.bind,T.run];rfl)
  | rfl
theorem xo4{r i a:Nat}(hr:r<19)(hr14:r≠14)(hi:i<Zr n t r)(ha:a=Br n t r+i){th s:Nat}(hs:s<2)(ht:th<t)(hself:A.self=(th:Int)):Rn n t (xb6 (xb n t) (s:Int) (a:Int)) A fun x A'=>x=xio (A.w r i)/\Fr [14] 3 A A':=by
 subst ha
 have hb:=wZ n t (show r+1<=19 by omega)
 have hb2:Br n t (r+1)=Br n t r+Zr n t r:=rfl
 unfold xb6 xkx
 refine Rn.self ?_
 rw[hself,at14 hf.toFew ht hs]
 refine Rn.run (Ze hf) (Rn.no rfl ?_)
 refine Rn.no (by rw[dF];omega) ?_
 refine Rn.no (by rw[dF];show ¬ (((Br n t r+i:Nat):Int)>=((Br n t 19:Nat):Int));omega) ?_
 refine Rn.load rfl hr hi ?_
 unfold kK
 rw[show xa=4095+1 from rfl,xr]
 unfold xe0
 refine Rn.self ?_
 rw[AS.tick_self,hself]
 refine Rn.store (at14 hf.toFew ht hs) (by omega) (by show _<t*2;omega) ?_
 refine Rn.load rfl hr hi ?_
 have e:((A.tick.set 14 (th*2+s) (u64.wrap (ofW i64 (A.w r i) 0 24))).tick).w r i=A.w r i:=by
  rw[AS.tick_w,xM _ _ _ hr14];rfl
 rw[e]
 refine Rn.yes (by simp) (Rn.ret ⟨rfl,?_⟩)
 exact((Fr.tick [] A).trans (Fr.sett (R :=[14]) _ _ (by simp)) (S :=[14]) (e:=2)).trans (Fr.tick [] _)
theorem xgf{th:Nat}(ht:th<t)(hself:A.self=(th:Int)):Rn n t (qJ (xb n t)) A fun _ A'=>Fr [14] 2 A A':=by
 have one : ∀ (B:AS) (s:Nat),B.self=(th:Int)->s<2->(WG (xb n t) (s:Int)).run (xl n t) B=some ((),(B.set 14 (th*2+s) 0).tick):=by
  intro B s hB hs
  unfold WG xdl
  simp only[T.run,xl,hB,at14 hf.toFew ht hs,T.run_bind,Ze hf,Bool.not_false,cond_true]
  rw[xB (show th*2+s<Zr n t 14 by show _<t*2;omega) 19 (by omega)]
 unfold qJ Kx
 refine Rn.run (one A 0 hself (by omega)) (Rn.run (one _ 1 (by simpa using hself) (by omega)) (Rn.ret ?_))
 exact(Fr.sett (R :=[14]) _ _ (by simp)).trans (Fr.sett (R :=[14]) _ _ (by simp))
def Xn(A:AS)(m:Nat):Prop :=∀k,k<8->A.w 18 ((m-1)*8+k)=0
theorem xo5(h:HI n t A held S mp vr rem bag pl){m x:Nat}(hm:1<=m)(hm2:m<=nodesN n t)(hx:x<4*t)(hmx:m∈bag x):Rn n t (kF (xb n t) (m:Int)) A fun r A'=>
  (∃g:Nat,r=(((g+1:Nat):Int),true)/\held g=none/\isBlk S g (x%4)/\HI n t A' (upd held g (some (.blk (x%4)))) S mp vr rem bag pl/\Fr [18] 10 A A'/\LessB 18 0 (8*nodesN n t) A A')\/(r=(0,false)/\Fr [] 8 A A'/\Xn A m):=by
 unfold kF XH vC
 refine Rn.loop (fun r i A' =>∃k:Nat,i=(k:Int)/\k<=8/\r=8-k/\Fr [] k A A'/\ ∀j,j<k->A.w 18 ((m-1)*8+j)=0) ?_ xa 8 0 A (by unfold xa;omega) ⟨0,rfl,by omega,rfl,Fr.refl _ _,fun j hj=>by omega⟩
 rintro r i A1 κ ⟨k,rfl,hk,rfl,hfr,hz⟩ hκ
 unfold jk
 by_cases hk8:k<8
 ·refine Rn.yes (by rw[dT];omega) ?_
  have ha:=at18 hf.toFew hm hm2 hk8
  have hi:(m-1)*8+k<Zr n t 18:=by show _<nodesN n t*8;omega
  refine Rn.load ha (by omega) hi ?_
  have hw:A1.w 18 ((m-1)*8+k)=A.w 18 ((m-1)*8+k):=hfr.w 18 (by simp) _
  rw[hw]
  refine Rn.cond (fun hx0 =>?_) (fun hx0 =>?_)
  ·refine Rn.cas ha (by omega) hi (by rw[AS.tick_w];exact hw) ?_
   refine Rn.yes rfl (Rn.ret (.inl ?_))
   have hne:A.w 18 ((m-1)*8+k)≠0:=by simpa using hx0
   rcases h.item m k hm hm2 hk8 with h0|⟨y,g,hy,hmy,h1,h2⟩
   ·exact absurd h0 hne
   ·have hB:HI n t A1.tick held S mp vr rem bag pl:=h.same fun r i _=>by rw[AS.tick_w];exact hfr.w r (by simp) i
    obtain⟨k1,k2,k3⟩:=hB.unitem hm hm2 hk8 (by rw[AS.tick_w,hw];exact h1) hx hmx
    exact⟨g,by rw[h1],k1,k2,k3.same fun r i _=>rfl,(hfr.trans (Fr.tick [] _) (S :=[]) (e:=k+1)).trans (Fr.sett (R :=[18]) _ _ (by simp)),(m-1)*8+k,by omega,by rw[Nat.zero_add];exact hne,fun q=>by simp only[AS.tick_w,AS.set_w,true_and,Nat.zero_add];rw[hfr.w 18 (by simp)]⟩
  ·rw[xF hf.toFew (x:=k) (by omega)]
   refine hκ (8-(k+1)) _ _ (by omega) ⟨k+1,rfl,by omega,rfl,hfr.trans (Fr.tick [] _),fun j hj =>?_⟩
   by_cases hjk:j=k
   ·subst hjk;simpa using hx0
   ·exact hz j (by omega)
 ·refine Rn.no (by rw[dF];omega) (Rn.ret (.inr ⟨rfl,hfr.mono,fun j hj=>hz j (by omega)⟩))
theorem xxE(h:HI n t A held S mp vr rem bag pl){th c me:Nat}(ht:th<t)(hc:c<4)(hme:me<t)(hself:A.self=(me:Int)):Rn n t (xhW (xb n t) (c:Int) (th:Int)) A fun r A'=>
  (∃g:Nat,r=(((g+1:Nat):Int),true)/\held g=none/\isBlk S g c/\HI n t A' (upd held g (some (.blk c))) S mp vr rem bag pl/\Fr [14,18] 60000 A A'/\LessB 18 0 (8*nodesN n t) A A')\/(r=(0,false)/\Fr [14] 60000 A A'/\ ∀m∈bag (th*4+c),Xn A m):=by
 have hx:th*4+c<4*t:=by omega
 have hxc:(th*4+c)%4=c:=by omega
 have hN:=hf.nodes
 obtain⟨hw13,hlk⟩:=h.bagw _ hx
 obtain⟨hnd,hrange⟩:=h.bagn _ hx
 have hlen:=qi _ _ hnd hrange
 unfold xhW xkT kQ
 rw[show xa=4095+1 from rfl,xr]
 unfold xfi
 rw[at13 hf.toFew ht hc]
 refine Rn.bind (xo4 hf (r:=13) (i:=th*4+c) (s:=0) (by omega) (by omega) (by show _<t*4;omega) rfl (by omega) hme hself) ?_
 rintro x A1 ⟨rfl,hfr⟩
 rw[hw13,ks (by have:=Zd hrange;omega)]
 unfold kO
 refine Rn.loop (fun r i A' =>∃L1 L2 s,bag (th*4+c)=L1++L2/\r=L2.length/\s<2/\i.1=((s:Nat):Int)/\i.2.1=(hdn L2:Int)/\linkedN (A.w 17) L2/\Fr [14] (3+11*L1.length) A A'/\ ∀m∈L1,Xn A m) ?_ (4095+1) (bag (th*4+c)).length _ A1 (by omega) ⟨[],bag (th*4+c),0,rfl,rfl,by omega,rfl,rfl,hlk,hfr.mono (by simp) (by simp),fun m hm=>by cases hm⟩
 rintro r ⟨i1,i2,i3,i4⟩ A2 κ ⟨L1,L2,s,hL,rfl,hs,hi1,hi2,hlk2,hfr2,hz⟩ hκ
 simp only at hi1 hi2
 subst hi1 hi2
 have hL1:L1.length<=4000:=by rw[hL]at hlen;simp at hlen;omega
 unfold xfh
 simp only
 cases L2 with
 | nil=>
  refine Rn.no (by simp[hdn]) (Rn.ret (.inr ⟨rfl,hfr2.mono,fun m hm=>hz m (by rw[hL,List.append_nil]at hm;exact hm)⟩))
 | cons m L2=>
  have hmem:m∈bag (th*4+c):=by rw[hL];simp
  obtain⟨hm1,hm2⟩:=hrange m hmem
  have h2:HI n t A2 held S mp vr rem bag pl:=h.fr hfr2 (by simp)
  refine Rn.yes (by simp[hdn];omega) ?_
  show Rn n t ((kF (xb n t) (m:Int)).bind _) _ _
  refine Rn.bind (xo5 hf h2 hm1 hm2 hx hmem) ?_
  rintro r A3 (⟨g,rfl,k1,k2,k3,k4,k5⟩|⟨rfl,k1,k2⟩)
  ·rw[hxc]at k2 k3
   exact Rn.yes rfl (Rn.ret (.inl ⟨g,rfl,k1,k2,k3,hfr2.trans k4,k5.of (hfr2.w 18 (by simp)) (fun _=>rfl)⟩))
  ·refine Rn.no rfl ?_
   have e1:i64.wrap (1-(s:Int))=((1-s:Nat):Int):=by rw[w64 (by omega) (by omega)];omega
   have hself3:A3.self=(me:Int):=by rw[k1.self,hfr2.self,hself]
   show Rn n t ((xb6 (xb n t) (i64.wrap (1-(s:Int))) (atF (xb n t) 17 (inF (i64.wrap ((m:Int)-1)) 0 1))).bind _) _ _
   rw[e1,at17 hf.toFew hm1 hm2]
   refine Rn.bind (xo4 hf (r:=17) (i:=m-1) (s:=1-s) (by omega) (by omega) (by show _<nodesN n t;omega) rfl (by omega) hme hself3) ?_
   rintro x A4 ⟨rfl,hfr4⟩
   have e2:A3.w 17 (m-1)=(hdn L2:Int):=by rw[k1.w 17 (by simp),hfr2.w 17 (by simp)];exact hlk2.1
   have hr2 : ∀y∈L2,1<=y/\y<=nodesN n t:=fun y hy=>hrange y (by rw[hL];simp[hy])
   rw[e2,ks (by have:=Zd hr2;omega)]
   refine Rn.no rfl ?_
   refine hκ L2.length _ _ (by simp) ⟨L1 ++ [m],L2,1-s,by rw[hL];simp,rfl,by omega,rfl,rfl,hlk2.2,(hfr2.trans k1 (S :=[14]) (e:=3+11*L1.length+8)).trans hfr4 (by simp) (by simp) (by simp;omega),fun y hy =>?_⟩
   rcases List.mem_append.1 hy with hy|hy
   ·exact hz y hy
   ·simp only[List.mem_singleton]at hy
    subst hy
    exact fun k hk=>by rw[<- hfr2.w 18 (by simp)];exact k2 k hk
end
end
section
open Go Go.RowKit Lx
theorem ym{f:Nat->Int}{i:Nat}{v:Int} : ∀ {l:List Nat},(∀m∈l,m-1≠i)->linkedN f l->linkedN (fun q=>if q=i then v else f q) l
 | [],_,_=>trivial
 | m::l,hi,h=>⟨by show(if m-1=i then v else f (m-1))=_;rw[if_neg (hi m (by simp))];exact h.1,ym (fun x hx=>hi x (by simp[hx])) h.2⟩
section
variable{n t:Nat}(hf:Small n t){A:AS}{held:Nat->Option HK}{S:List Sg}{mp vr:Nat->Nat}{rem bag:Nat->List Nat}{pl:List Nat}
include hf
theorem xbN{me c:Nat}(hme:me<t)(hc:c<4)(hself:A.self=(me:Int)):(ZA (xb n t) (c:Int)).run (xl n t) A=some (false,A):=by
 unfold ZA xcU
 simp only[T.run,xl,hself,at13 hf.toFew hme hc]
 rw[show(((Br n t 13+(me*4+c):Nat):Int) == -1)=false from beq_eq_false_iff_ne.2 (by omega)]
theorem xiB(h:HI n t A held S mp vr rem bag pl){me c:Nat}(hc:c<4)(hme:me<t)(hself:A.self=(me:Int)):Rn n t (qL (xb n t) (c:Int)) A fun r A'=>
  (∃g:Nat,r=(((g+1:Nat):Int),true)/\held g=none/\isBlk S g c/\HI n t A' (upd held g (some (.blk c))) S mp vr rem bag pl/\Fr [14,18] 5000000 A A'/\LessB 18 0 (8*nodesN n t) A A')\/(r=(0,false)/\Fr [14] 5000000 A A'/\ ∀x,x<4*t->x%4=c ->∀m∈bag x,Xn A m):=by
 have ht2:=hf.t2
 unfold qL xdt
 refine Rn.run (xbN hf hme hc hself) (Rn.no rfl ?_)
 unfold ws
 rw[show xa=4095+1 from rfl,xr]
 unfold xbq
 refine Rn.load (at5 hf.toFew hc) (by omega) (by simpa[Zr]using hc) ?_
 unfold wq
 refine Rn.loop (fun r i A' =>∃k:Nat,i=(k:Int)/\k<=t/\r=t-k/\Fr [14] (1+60000*k) A A'/\ ∀j,j<k ->∀m∈bag ((me+j)%t*4+c),Xn A m) ?_ (4095+1) t _ A.tick (by omega) ⟨0,rfl,by omega,rfl,(Fr.tick [] A).mono,fun j hj=>by omega⟩
 rintro r i A1 κ ⟨k,rfl,hk,rfl,hfr,hz⟩ hκ
 unfold xbp
 by_cases hkt:k<t
 ·refine Rn.yes (by rw[dT];show((k:Nat):Int)<((t:Nat):Int);omega) ?_
  have hself1:A1.self=(me:Int):=by rw[hfr.self,hself]
  refine Rn.self ?_
  rw[hself1]
  refine Rn.yes (by show(bif (((t:Nat):Int)==0)then false else true)=true;rw[beq_eq_false_iff_ne.2 (by omega)];rfl) ?_
  have e:Int.tmod (i64.wrap ((me:Int)+(k:Int))) (xb n t).threads=(((me+k)%t:Nat):Int):=by
   rw[wrap_add hf.toFew (by omega),Int.tmod_eq_emod_of_nonneg (by omega)];rfl
  rw[e]
  have h1:HI n t A1 held S mp vr rem bag pl:=h.fr hfr (by simp)
  refine Rn.bind (xxE hf h1 (th:=(me+k)%t) (Nat.mod_lt _ (by omega)) hc hme hself1) ?_
  rintro r A2 (⟨g,rfl,k1,k2,k3,k4,k6⟩|⟨rfl,k1,k2⟩)
  ·refine Rn.yes rfl ?_
   have hself2:A2.self=(me:Int):=by rw[k4.self,hself1]
   refine Rn.bind (xgf hf hme hself2) ?_
   rintro _ A3 k5
   exact Rn.ret (.inl ⟨g,rfl,k1,k2,k3.fr k5 (by simp),(hfr.trans k4 (S :=[14,18]) (e:=1+60000*k+60000)).trans k5,k6.of (hfr.w 18 (by simp)) (k5.w 18 (by simp))⟩)
  ·refine Rn.no rfl ?_
   rw[xF hf.toFew (x:=k) (by omega)]
   refine hκ (t-(k+1)) _ _ (by omega) ⟨k+1,rfl,by omega,rfl,hfr.trans k1,fun j hj =>?_⟩
   by_cases hjk:j=k
   ·subst hjk;exact fun m hm i hi=>by rw[<- hfr.w 18 (by simp)];exact k2 m hm i hi
   ·exact hz j (by omega)
 ·refine Rn.no (by rw[dF];show ¬ ((k:Nat):Int)<((t:Nat):Int);omega) ?_
  refine Rn.load (at5 hf.toFew hc) (by omega) (by simpa[Zr]using hc) ?_
  refine Rn.yes (by rw[hfr.w 5 (by simp)];simp) ?_
  have hself1:A1.tick.self=(me:Int):=by rw[AS.tick_self,hfr.self,hself]
  refine Rn.bind (xgf hf hme hself1) ?_
  rintro _ A3 k5
  refine Rn.ret (.inr ⟨rfl,(hfr.trans (Fr.tick [] A1) (S :=[14]) (e:=1+60000*k+1)).trans k5,fun x hx hxc m hm =>?_⟩)
  have hq:x / 4<t:=by omega
  by_cases hle:me<=x / 4
  ·refine hz (x / 4-me) (by omega) m ?_
   rw[show me+(x / 4-me)=x / 4 by omega,Nat.mod_eq_of_lt hq,show x / 4*4+c=x by omega];exact hm
  ·refine hz (x / 4+t-me) (by omega) m ?_
   rw[show me+(x / 4+t-me)=x / 4+t by omega,Nat.add_mod_right,Nat.mod_eq_of_lt hq,show x / 4*4+c=x by omega];exact hm
theorem xvN(h:HI n t A held S mp vr rem bag pl){m x g:Nat}(hm:1<=m)(hm2:m<=nodesN n t)(hx:x<4*t)(hmx:m∈bag x)(hg:held g=some (.blk (x%4))):Rn n t (Wm (xb n t) (m:Int) ((g+1:Nat):Int)) A fun r A'=>
  (r=true/\HI n t A' (upd held g none) S mp vr rem bag pl/\Fr [18] 10 A A')\/(r=false/\Fr [] 8 A A'):=by
 have step : ∀ (k:Nat),k<8 ->∀ (B:AS),Fr [] k A B ->∀ (X:T Bool),(∀B',Fr [] (k+1) A B'->Rn n t X B' fun r A'=>(r=true/\HI n t A' (upd held g none) S mp vr rem bag pl/\Fr [18] 10 A A')\/(r=false/\Fr [] 8 A A'))->
   Rn n t (.op (.load (atF (xb n t) 18 (inF (i64.wrap ((m:Int)-1)) (k:Int) 8))) fun x0=>bif x0==0 then(.op (.store (atF (xb n t) 18 (inF (i64.wrap ((m:Int)-1)) (k:Int) 8)) ((g+1:Nat):Int)) fun _ =>.ret true)else X) B fun r A'=>(r=true/\HI n t A' (upd held g none) S mp vr rem bag pl/\Fr [18] 10 A A')\/(r=false/\Fr [] 8 A A'):=by
  intro k hk B hB X hX
  have ha:=at18 hf.toFew hm hm2 hk
  have hi:(m-1)*8+k<Zr n t 18:=by show _<nodesN n t*8;omega
  refine Rn.load ha (by omega) hi ?_
  have hw:B.w 18 ((m-1)*8+k)=A.w 18 ((m-1)*8+k):=hB.w 18 (by simp) _
  refine Rn.cond (fun h0 =>?_) (fun h0=>hX _ (hB.trans (Fr.tick [] B)))
  refine Rn.store ha (by omega) hi (Rn.ret (.inl ⟨rfl,?_,(hB.trans (Fr.tick [] B) (S :=[]) (e:=k+1)).trans (Fr.sett (R :=[18]) _ _ (by simp))⟩))
  have hBt:HI n t B.tick held S mp vr rem bag pl:=h.same fun r i _=>by rw[AS.tick_w];exact hB.w r (by simp) i
  exact(hBt.additem hm hm2 hk (by rw[AS.tick_w];simpa using h0) hx hmx hg).same fun r i _=>rfl
 unfold Wm xcV
 refine step 0 (by omega) A (Fr.refl _ _) _ fun B1 f1 =>?_
 refine step 1 (by omega) B1 f1 _ fun B2 f2 =>?_
 refine step 2 (by omega) B2 f2 _ fun B3 f3 =>?_
 refine step 3 (by omega) B3 f3 _ fun B4 f4 =>?_
 refine step 4 (by omega) B4 f4 _ fun B5 f5 =>?_
 refine step 5 (by omega) B5 f5 _ fun B6 f6 =>?_
 refine step 6 (by omega) B6 f6 _ fun B7 f7 =>?_
 refine step 7 (by omega) B7 f7 _ fun B8 f8 =>?_
 exact Rn.ret (.inr ⟨rfl,f8⟩)
theorem run_acq(h:HI n t A held S mp vr rem bag pl):Rn n t (acqT (xb n t)) A fun r A'=>
  (r=0/\Fr [] 3 A A')\/(∃ (m:Nat) (pl':List Nat),r=(m:Int)/\pl=m::pl'/\1<=m/\m<=nodesN n t/\(∀i,i<4*t->m∉bag i)/\m∉pl'/\HI n t A' held S mp vr rem bag pl'/\Gon n t A' bag (m::pl')/\Fr [4] 3 A A'):=by
 have hN:=hf.nodes
 obtain⟨v,hv,hw4,hlk⟩:=h.polw
 obtain⟨hnd,hpl⟩:=h.poln
 have hhd:=Zd (N:=nodesN n t) (l:=pl) fun m hm=>⟨(hpl m hm).1,(hpl m hm).2.1⟩
 have hr:=xf5 (hdn pl) v (by omega) hv
 rw[<- hw4]at hr
 have hidx:ofW i64 (A.w 4 0) 0 24=(hdn pl:Int):=congrArg Ref.idx hr
 have hver:ofW u32 (A.w 4 0) 32 32=(v:Int):=congrArg Ref.ver hr
 have hpn:(wV (xb n t)).run (xl n t) A=some (false,A):=by
  have:=hf.n1
  unfold wV ZG
  rw[show((xb n t).pages==0)=false from beq_eq_false_iff_ne.2 (by show((n:Nat):Int)≠0;omega)]
  rfl
 unfold acqT xtf
 refine Rn.run hpn (Rn.no rfl ?_)
 unfold qB
 rw[show xa=4095+1 from rfl,xr]
 unfold xku
 refine Rn.load (at4 hf.toFew) (by omega) (by simp[Zr]) ?_
 rw[hidx]
 cases pl with
 | nil=>exact Rn.yes (by simp[hdn]) (Rn.ret (.inl ⟨rfl,(Fr.tick [] A).mono⟩))
 | cons m pl'=>
  obtain⟨hm1,hm2,hm3⟩:=hpl m (by simp)
  rw[List.nodup_cons]at hnd
  refine Rn.no (beq_eq_false_iff_ne.2 (by simp only[hdn];omega)) ?_
  refine Rn.load (at17 hf.toFew hm1 hm2) (by omega) (by show _<nodesN n t;omega) ?_
  have hhd':=Zd (N:=nodesN n t) (l:=pl') fun m hm=>⟨(hpl m (by simp[hm])).1,(hpl m (by simp[hm])).2.1⟩
  have hx2:ofW i64 (A.tick.w 17 (m-1)) 0 24=(hdn pl':Int):=by
   rw[AS.tick_w,hlk.1]
   exact congrArg Ref.idx (ks (x:=hdn pl') (by omega))
  refine Rn.cas (at4 hf.toFew) (by omega) (by simp[Zr]) rfl ?_
  refine Rn.yes rfl (Rn.ret (.inr ⟨m,pl',rfl,rfl,hm1,hm2,hm3,hnd.1,?_,h.gon.of (fun _=>rfl) (fun _=>rfl),?_⟩))
  ·rw[show hdn (m::pl')=m from rfl,hx2,hver]
   have e:u32.wrap ((v:Int)+1)=(((v+1)%4294967296:Nat):Int):=by
    rw[IntKind.wrap_u32];omega
   rw[e]
   refine⟨h.laid.of (fun _=>rfl) (fun _=>rfl),h.norm,h.nodf,h.ep,h.ver,h.bitS,h.bitN,h.remw,h.remb,h.cach,h.bagw,h.bagn,h.bagd,h.item,⟨(v+1)%4294967296,Nat.mod_lt _ (by omega),rfl,hlk.2⟩,⟨hnd.2,fun x hx=>hpl x (by simp[hx])⟩,h.hblk,h.hrun,h.tok,h.gon.sub (fun _=>rfl) (fun _=>rfl) (fun x hx=>by rcases hx with hx|hx;exact .inl (by simp[hx]);exact .inr hx)⟩
  ·exact((Fr.tick [] A).trans (Fr.tick [] _) (S :=[]) (e:=2)).trans (Fr.sett (R :=[4]) _ _ (by simp))
theorem HI.link(h:HI n t A held S mp vr rem bag pl){m x:Nat}(hm:1<=m)(hm2:m<=nodesN n t)(hno : ∀i,i<4*t->m∉bag i)(hnp:m∉pl)(hx:x<4*t)(hgn:Gon n t A bag (m::pl)) :
    HI n t ((A.set 17 (m-1) (hdn (bag x):Int)).set 13 x (m:Int)) held S mp vr rem (updL bag x (m::bag x)) pl:=by
  have hne : ∀i,i<4*t ->∀y∈bag i,y-1≠m-1:=fun i hi y hy hh=>by
    have:=((h.bagn i hi).2 y hy).1
    obtain rfl:y=m:=by omega
    exact hno i hi hy
  refine⟨h.laid.of (fun _=>rfl) (fun _=>rfl),h.norm,h.nodf,h.ep,h.ver,h.bitS,h.bitN,h.remw,h.remb,h.cach,fun i hi =>?_,fun i hi =>?_,fun i j y hi hj hy hy' =>?_,fun y k h1 h2 h3 =>?_,?_,?_,h.hblk,h.hrun,h.tok,hgn.sub (fun _=>rfl) (fun _=>rfl) (fun y hy =>?_)⟩
  . rw[yf,xM _ _ _ (show 17≠13 by decide),yf,xM A _ _ (show 13≠17 by decide)]
    obtain⟨h1,h2⟩:=h.bagw i hi
    by_cases hix:i=x
    . subst hix
      simp only[updL,if_true]
      exact⟨rfl,by simp,ym (hne i hi) h2⟩
    . simp only[updL,if_neg hix]
      exact⟨h1,ym (hne i hi) h2⟩
  . obtain⟨h1,h2⟩:=h.bagn i hi
    by_cases hix:i=x
    . subst hix
      simp only[updL,if_true,List.nodup_cons,List.mem_cons]
      exact⟨⟨hno i hi,h1⟩,fun y hy=>by rcases hy with rfl|hy;exact⟨hm,hm2⟩;exact h2 y hy⟩
    . simp only[updL,if_neg hix];exact⟨h1,h2⟩
  . have key : ∀i,i<4*t->y∈updL bag x (m::bag x) i->(y=m/\i=x)\/y∈bag i:=by
      intro i hi hy
      by_cases hix:i=x
      . simp only[updL,if_pos hix,List.mem_cons]at hy
        rcases hy with hy|hy
        . exact .inl ⟨hy,hix⟩
        . exact .inr (hix▸hy)
      . simp only[updL,if_neg hix]at hy;exact .inr hy
    rcases key i hi hy with⟨h1,h2⟩|h1<;>rcases key j hj hy' with⟨h3,h4⟩|h3
    . omega
    . exact absurd (h1▸h3) (hno j hj)
    . exact absurd (h3▸h1) (hno i hi)
    . exact h.bagd i j y hi hj h1 h3
  . rw[xM _ _ _ (show 18≠13 by decide),xM A _ _ (show 18≠17 by decide)]
    rcases h.item y k h1 h2 h3 with h0|⟨i,g,hi,hy,h4,h5⟩
    . exact .inl h0
    . refine .inr ⟨i,g,hi,?_,h4,h5⟩
      by_cases hix:i=x
      . simp only[updL,if_pos hix,List.mem_cons];exact .inr (hix▸hy)
      . simp only[updL,if_neg hix];exact hy
  . obtain⟨v,hv,hw,hl⟩:=h.polw
    refine⟨v,hv,hw,?_⟩
    rw[xM _ _ _ (show 17≠13 by decide),yf]
    exact ym (fun y hy hh=>by
                                         have:=(h.poln.2 y hy).1;obtain rfl:y=m:=by omega
                                         exact hnp hy) hl
  . refine⟨h.poln.1,fun y hy=>⟨(h.poln.2 y hy).1,(h.poln.2 y hy).2.1,fun i hi hyi =>?_⟩⟩
    by_cases hix:i=x
    . simp only[updL,if_pos hix,List.mem_cons]at hyi
      rcases hyi with rfl|hyi
      . exact hnp hy
      . exact(h.poln.2 y hy).2.2 i hi (hix▸hyi)
    . simp only[updL,if_neg hix]at hyi
      exact(h.poln.2 y hy).2.2 i hi hyi
  . rcases hy with hy|⟨i,hi,hy⟩
    . exact .inl (by simp[hy])
    . by_cases hix:i=x
      . simp only[updL,if_pos hix,List.mem_cons]at hy
        rcases hy with rfl|hy
        . exact .inl (by simp)
        . exact .inr ⟨x,hx,hy⟩
      . simp only[updL,if_neg hix]at hy
        exact .inr ⟨i,hi,hy⟩
theorem xvO(h:HI n t A held S mp vr rem bag pl){m:Nat}(hm:1<=m)(hm2:m<=nodesN n t)(hno : ∀i,i<4*t->m∉bag i):Xn A m:=by
 intro k hk
 rcases h.item m k hm hm2 hk with h0|⟨i,g,hi,hy,_⟩
 ·exact h0
 ·exact absurd hy (hno i hi)
theorem xvP(h:HI n t A held S mp vr rem bag pl){me c g:Nat}(hc:c<4)(hme:me<t)(hself:A.self=(me:Int))(hg:held g=some (.blk c)):Rn n t (xbn (xb n t) (c:Int) ((g+1:Nat):Int) (hdn (bag (me*4+c)):Int)) A fun r A'=>
  (r=true/\ ∃bag' pl',HI n t A' (upd held g none) S mp vr rem bag' pl'/\Fr [4,13,17,18] 20 A A')\/(r=false/\Fr [] 3 A A'):=by
 have hx:me*4+c<4*t:=by omega
 have hxc:(me*4+c)%4=c:=by omega
 unfold xbn xdq
 refine Rn.bind (run_acq hf h) ?_
 rintro r A1 (⟨rfl,hfr⟩|⟨m,pl',rfl,rfl,hm,hm2,hno,hnp,h1,hgn1,hfr⟩)
 ·exact Rn.yes rfl (Rn.ret (.inr ⟨rfl,hfr⟩))
 ·refine Rn.no (beq_eq_false_iff_ne.2 (by omega)) ?_
  have hst : ∀k,k<8->(m-1)*8+k<Zr n t 18:=fun k hk=>by show _<nodesN n t*8;omega
  refine Rn.store (at18 hf.toFew hm hm2 (show 0<8 by omega)) (by omega) (hst 0 (by omega)) ?_
  refine Rn.store (at18 hf.toFew hm hm2 (show 1<8 by omega)) (by omega) (hst 1 (by omega)) ?_
  refine Rn.store (at18 hf.toFew hm hm2 (show 2<8 by omega)) (by omega) (hst 2 (by omega)) ?_
  refine Rn.store (at18 hf.toFew hm hm2 (show 3<8 by omega)) (by omega) (hst 3 (by omega)) ?_
  refine Rn.store (at18 hf.toFew hm hm2 (show 4<8 by omega)) (by omega) (hst 4 (by omega)) ?_
  refine Rn.store (at18 hf.toFew hm hm2 (show 5<8 by omega)) (by omega) (hst 5 (by omega)) ?_
  refine Rn.store (at18 hf.toFew hm hm2 (show 6<8 by omega)) (by omega) (hst 6 (by omega)) ?_
  refine Rn.store (at18 hf.toFew hm hm2 (show 7<8 by omega)) (by omega) (hst 7 (by omega)) ?_
  refine Rn.store (at17 hf.toFew hm hm2) (by omega) (by show _<nodesN n t;omega) ?_
  refine Rn.self ?_
  have hs2 : ∀B:AS,B.self=A1.self->B.self=(me:Int):=fun B hB=>by rw[hB,hfr.self,hself]
  simp only[AS.tick_self,AS.set_self]
  rw[hs2 A1 rfl]
  refine Rn.store (at13 hf.toFew hme hc) (by omega) (by show _<t*4;omega) (Rn.ret (.inl ⟨rfl,updL bag (me*4+c) (m::bag (me*4+c)),pl',?_,?_⟩))
  ·have hN:=hf.nodes
   have hbare:=xvO hf h1 hm hm2 hno
   have hlink:=h1.link hf hm hm2 hno hnp hx hgn1
   have hadd:=hlink.additem (m:=m) (k:=0) (x:=me*4+c) (g:=g) hm hm2 (by omega) (by rw[xM _ _ _ (show 18≠13 by decide),xM A1 _ _ (show 18≠17 by decide)];exact hbare 0 (by omega)) hx (by simp[updL]) (by rw[hxc];exact hg)
   have hb:=h.bagn _ hx
   have hhd:=Zd hb.2
   have e1:Ref.word ⟨(hdn (bag (me*4+c)):Int),false,0⟩=(hdn (bag (me*4+c)):Int):=by
    have:=jc (hdn (bag (me*4+c))) 0 (by omega) (by omega)
    simpa using this
   have e2:Ref.word ⟨(m:Int),false,0⟩=(m:Int):=by
    have:=jc m 0 (by omega) (by omega)
    simpa using this
   rw[e1,e2]
   refine hadd.same fun r i _ =>?_
   simp only[AS.tick_w,AS.set_w,Nat.add_zero]
   by_cases h13:r=13/\i=me*4+c
   ·obtain⟨rfl,rfl⟩:=h13;simp
   ·by_cases h17:r=17/\i=m-1
    ·obtain⟨rfl,rfl⟩:=h17;simp
    ·rw[if_neg h13,if_neg h17,if_neg h13,if_neg h17]
     by_cases h18:r=18
     ·subst h18
      simp only[true_and]
      by_cases k0:i=(m-1)*8
      ·rw[if_neg (by omega),if_neg (by omega),if_neg (by omega),if_neg (by omega),if_neg (by omega),if_neg (by omega),if_neg (by omega)]
      ·rw[if_neg (show ¬i=(m-1)*8 from k0)]
       have hz : ∀k,k<8->i=(m-1)*8+k->A1.w 18 i=0:=fun k hk he=>by rw[he];exact hbare k hk
       by_cases k7:i=(m-1)*8+7
       ·rw[if_pos k7,hz 7 (by omega) k7]
       ·rw[if_neg k7]
        by_cases k6:i=(m-1)*8+6
        ·rw[if_pos k6,hz 6 (by omega) k6]
        ·rw[if_neg k6]
         by_cases k5:i=(m-1)*8+5
         ·rw[if_pos k5,hz 5 (by omega) k5]
         ·rw[if_neg k5]
          by_cases k4:i=(m-1)*8+4
          ·rw[if_pos k4,hz 4 (by omega) k4]
          ·rw[if_neg k4]
           by_cases k3:i=(m-1)*8+3
           ·rw[if_pos k3,hz 3 (by omega) k3]
           ·rw[if_neg k3]
            by_cases k2:i=(m-1)*8+2
            ·rw[if_pos k2,hz 2 (by omega) k2]
            ·rw[if_neg k2]
             by_cases k1:i=(m-1)*8+1
             ·rw[if_pos k1,hz 1 (by omega) k1]
             ·rw[if_neg k1]
     ·simp only[h18,false_and,if_false]
  ·refine⟨fun r hr i =>?_,hfr.b,hfr.self,hfr.told,?_,?_⟩
   ·simp only[List.mem_cons,List.not_mem_nil,or_false,not_or]at hr
    simp only[AS.tick_w,AS.set_w,hr.2.1,hr.2.2.1,hr.2.2.2,false_and,if_false]
    exact hfr.w r (by simp[hr.1]) i
   ·have:=hfr.lo;simp only[AS.tick_steps,AS.set_steps];omega
   ·have:=hfr.hi;simp only[AS.tick_steps,AS.set_steps];omega
theorem xxF(h:HI n t A held S mp vr rem bag pl){me c g:Nat}(hc:c<4)(hme:me<t)(hself:A.self=(me:Int))(hg:held g=some (.blk c)):Rn n t (xh0 (xb n t) (c:Int) ((g+1:Nat):Int)) A fun r A'=>
  (r=true/\ ∃bag' pl',HI n t A' (upd held g none) S mp vr rem bag' pl'/\Fr [4,5,13,17,18] 60000 A A')\/(r=false/\Fr [] 60000 A A'):=by
 have hx:me*4+c<4*t:=by omega
 have hxc:(me*4+c)%4=c:=by omega
 have hN:=hf.nodes
 obtain⟨hw13,hlk⟩:=h.bagw _ hx
 obtain⟨hnd,hrange⟩:=h.bagn _ hx
 have hlen:=qi _ _ hnd hrange
 have hhd:=Zd hrange
 have hadd5 : ∀ (B:AS) (Q:Bool->AS->Prop),Q true (B.set 5 c (u64.wrap (B.w 5 c+1))).tick->Rn n t (.op (.add (atF (xb n t) 5 (c:Int)) 1) fun x5 =>.ret true) B Q:=by
  intro B Q hQ
  exact Rn.add (at5 hf.toFew hc) (by omega) (by simpa[Zr]using hc) (Rn.ret hQ)
 unfold xh0 xkZ
 refine Rn.run (xbN hf hme hc hself) (Rn.no rfl ?_)
 refine Rn.no (beq_eq_false_iff_ne.2 (by omega)) ?_
 have hputs:Rn n t (xhZ (xb n t) (c:Int) ((g+1:Nat):Int)) A fun r A'=>(r=true/\ ∃bag' pl',HI n t A' (upd held g none) S mp vr rem bag' pl'/\Fr [4,13,17,18] 50000 A A')\/(r=false/\Fr [] 50000 A A'):=by
  unfold xhZ xkW
  refine Rn.self ?_
  rw[hself]
  refine Rn.load (at13 hf.toFew hme hc) (by omega) (by show _<t*4;omega) ?_
  rw[hw13]
  have hidx:ofW i64 (hdn (bag (me*4+c)):Int) 0 24=(hdn (bag (me*4+c)):Int):=congrArg Ref.idx (ks (x:=hdn (bag (me*4+c))) (by omega))
  rw[hidx]
  unfold kR
  refine Rn.loop (fun r i A' =>∃L1 L2,bag (me*4+c)=L1++L2/\r=L2.length/\i=(hdn L2:Int)/\linkedN (A.w 17) L2/\Fr [] (1+10*L1.length) A A') ?_ xa (bag (me*4+c)).length _ A.tick (by unfold xa;omega) ⟨[],bag (me*4+c),rfl,rfl,rfl,hlk,(Fr.tick [] A).mono (by simp) (by simp)⟩
  rintro r i A2 κ ⟨L1,L2,hL,rfl,rfl,hlk2,hfr2⟩ hκ
  have hL1:L1.length<=4000:=by rw[hL]at hlen;simp at hlen;omega
  have h2:HI n t A2 held S mp vr rem bag pl:=h.fr hfr2 (by simp)
  unfold xfn
  cases L2 with
  | nil=>
   refine Rn.no (by simp[hdn]) ?_
   refine Rn.bind (xvP hf h2 hc hme (by rw[hfr2.self,hself]) hg) ?_
   rintro r A3 (⟨rfl,bag',pl',k1,k2⟩|⟨rfl,k1⟩)
   ·exact Rn.ret (.inl ⟨rfl,bag',pl',k1,hfr2.trans k2⟩)
   ·exact Rn.ret (.inr ⟨rfl,hfr2.trans k1⟩)
  | cons m L2=>
   have hmem:m∈bag (me*4+c):=by rw[hL];simp
   obtain⟨hm1,hm2⟩:=hrange m hmem
   rw[show hdn (m::L2)=m from rfl]
   refine Rn.yes (bne_iff_ne.2 (by omega)) ?_
   show Rn n t ((Wm (xb n t) (m:Int) ((g+1:Nat):Int)).bind _) _ _
   refine Rn.bind (xvN hf h2 hm1 hm2 hx hmem (by rw[hxc];exact hg)) ?_
   rintro r A3 (⟨rfl,k1,k2⟩|⟨rfl,k1⟩)
   ·exact Rn.yes rfl (Rn.ret (.inl ⟨rfl,bag,pl,k1,hfr2.trans k2⟩))
   ·refine Rn.no rfl ?_
    refine Rn.load (at17 hf.toFew hm1 hm2) (by omega) (by show _<nodesN n t;omega) ?_
    have e2:A3.w 17 (m-1)=(hdn L2:Int):=by rw[k1.w 17 (by simp),hfr2.w 17 (by simp)];exact hlk2.1
    have hr2 : ∀y∈L2,1<=y/\y<=nodesN n t:=fun y hy=>hrange y (by rw[hL];simp[hy])
    have hhd2:=Zd hr2
    rw[e2,show ofW i64 (hdn L2:Int) 0 24=(hdn L2:Int)from congrArg Ref.idx (ks (x:=hdn L2) (by omega))]
    exact hκ L2.length _ _ (by simp) ⟨L1 ++ [m],L2,by rw[hL];simp,rfl,rfl,hlk2.2,(hfr2.trans k1 (S :=[]) (e:=1+10*L1.length+8)).trans (Fr.tick [] _) (by simp) (by simp) (by simp;omega)⟩
 refine Rn.bind hputs ?_
 rintro r A1 (⟨rfl,bag',pl',k1,k2⟩|⟨rfl,k1⟩)
 ·refine Rn.no rfl (hadd5 A1 _ (.inl ⟨rfl,bag',pl',?_,k2.trans (Fr.sett (R :=[5]) _ _ (by simp))⟩))
  exact k1.fr (Fr.sett (R :=[5]) _ _ (by simp)) (by simp)
 ·exact Rn.yes rfl (Rn.ret (.inr ⟨rfl,k1.mono⟩))
end
end
section
open Go Go.RowKit Lx
/-! ### bits -/
theorem tz_ok : ∀m:Nat,m<256->m≠0->Lib.trailingZeros8 m<8/\m.testBit (Lib.trailingZeros8 m)=true:=by decide +kernel
theorem clr_ok : ∀m:Nat,m<256 ->∀j:Nat,j<8->bits .andNot .u8 (m:Int) (u8.wrap (1*2 ^ j))=((m &&& (255 ^^^ 2 ^ j):Nat):Int):=by decide +kernel
theorem orr_ok : ∀m:Nat,m<256 ->∀j:Nat,j<8->bits .or .u8 (m:Int) (u8.wrap (1*2 ^ j))=((m ||| 2 ^ j:Nat):Int):=by decide +kernel
theorem bit_ok : ∀m:Nat,m<256 ->∀j:Nat,j<8->(bits .and .u8 (Int.fdiv (m:Int) (2 ^ j)) 1==1)=m.testBit j:=by decide +kernel
theorem full_ok : ∀m:Nat,m<256 ->∀b:Nat,b<9->m<2 ^ b->decide ((Lib.trailingZeros8 (Int.toNat (bits .xor .u8 255 (m:Int))):Int)>=(b:Int))=decide (m=2 ^ b-1):=by decide +kernel
theorem xor_ok : ∀m:Nat,m<256->0<=bits .xor .u8 255 (m:Int)/\bits .xor .u8 255 (m:Int)<=255:=by decide +kernel
theorem clr_bit{m j i:Nat}(hm:m<256)(hj:j<8):(m &&& (255 ^^^ 2 ^ j)).testBit i=(m.testBit i&&decide (i≠j)):=by
 rw[Nat.testBit_and,Nat.testBit_xor,Nat.testBit_two_pow]
 by_cases hi:i<8
 ·have:(255:Nat).testBit i=true:=by
   have h : ∀i,i<8->(255:Nat).testBit i=true:=by decide
   exact h i hi
  rw[this]
  by_cases hij:i=j
  ·subst hij;simp
  ·rw[decide_eq_false (fun hh=>hij hh.symm),decide_eq_true hij];rfl
 ·have:m.testBit i=false:=Nat.testBit_lt_two_pow (Nat.lt_of_lt_of_le hm (by
   have:=Nat.pow_le_pow_right (n:=2) (by omega) (show 8<=i by omega)
   simpa using this))
  rw[this];rfl
theorem orr_bit{m j i:Nat}:(m ||| 2 ^ j).testBit i=(m.testBit i||decide (i=j)):=by
 rw[Nat.testBit_or,Nat.testBit_two_pow]
 by_cases hij:i=j
 ·subst hij;simp
 ·rw[decide_eq_false (fun hh=>hij hh.symm),decide_eq_false hij]
theorem xlD{c:Nat}:blc c<=8:=Nat.div_le_self _ _
theorem blc_pos{c:Nat}(h:c<4):0<blc c:=by
 have : ∀c,c<4->0<blc c:=by decide
 exact this c h
theorem xxG{m c:Nat}(h:m<2 ^ blc c):m<256:=by
 have:=Nat.pow_le_pow_right (n:=2) (by omega) (xlD (c:=c))
 omega
theorem Xo{m c v:Nat}(hm:m<256)(hc:c<4)(hv:v<4294967296):btOf (btw m c v)=⟨m,true,c,v⟩:=xvJ m c v hm (by omega) hv
theorem xgg{v:Nat}(hv:v<4294967296):btOf (bt0 v)=⟨0,false,0,v⟩:=xsj 0 0 v (by omega) hv
def Zf(S:List Sg)(p c:Nat):Bool:=match slabAt S p with
 | some (d,_)=>d==c
 | none=>false
theorem xgh{S:List Sg}{p c:Nat}(h:Zf S p c=true) : ∃o,slabAt S p=some (c,o):=by
 unfold Zf at h
 split at h
 ·rename_i d o hs
  obtain rfl:d=c:=by simpa using h
  exact⟨o,hs⟩
 ·cases h
theorem xvQ{S:List Sg}{p c:Nat}(h:Zf S p c=false)(o:Nat):slabAt S p≠some (c,o):=by
 intro hs
 unfold Zf at h
 rw[hs]at h
 simp at h
section
variable{n t:Nat}(hf:Small n t){A:AS}{held:Nat->Option HK}{S:List Sg}{mp vr:Nat->Nat}{rem bag:Nat->List Nat}{pl:List Nat}
include hf
theorem vU(h:HI n t A held S mp vr rem bag pl){p c o:Nat}(hs:slabAt S p=some (c,o)):p<n/\c<4/\mp p<256/\vr p<4294967296/\A.w 8 p=btw (mp p) c (vr p):=by
 have h1:=YM hs
 rw[h.laid.len]at h1
 obtain⟨h2,h3⟩:=h.bitS p c o hs
 exact⟨h1,(YN h.laid.ok hs).1,xxG h2,h.ver p h1,h3⟩
theorem YO{p:Nat}(hp:p<n):(YU (xb n t) (p:Int)).run (xl n t) A=some (btOf (A.w 8 p),A.tick):=by
 unfold YU xjf
 simp only[T.run,xl,at8 hf.toFew hp,xB (show p<Zr n t 8 from hp) 19 (by omega)]
theorem xbO{p:Nat}(hp:p<n){was now:Bt}(hw:A.w 8 p=was.word):(Zz (xb n t) (p:Int) was now).run (xl n t) A=some (true,(A.set 8 p now.word).tick):=by
 unfold Zz xcS
 simp only[T.run,xl,at8 hf.toFew hp,xB (show p<Zr n t 8 from hp) 19 (by omega)]
 rw[if_pos hw]
theorem xak{p k:Nat}(hp:p<n)(hk:k<4):(isT (xb n t) (p:Int) (k:Int)).run (xl n t) A=some (true,A):=by
 unfold isT isTK
 rw[decide_eq_true (show((p:Int)>=0)by omega),decide_eq_true (show((p:Int)<(xb n t).pages)by show(p:Int)<((n:Nat):Int);omega),decide_eq_true (show((k:Int)>=0)by omega),decide_eq_true (show((k:Int)<4)by omega)]
 rfl
theorem xtF(h:HI n t A held S mp vr rem bag pl){p c:Nat}(hp:p<n)(hc:c<4)(o:Int):(hofT (xb n t) o (p:Int) (c:Int)).run (xl n t) A=some ((Zf S p c,o),A.tick):=by
 unfold hofT xtd
 simp only[T.run,xl,at8 hf.toFew hp,xB (show p<Zr n t 8 from hp) 19 (by omega)]
 cases hs:slabAt S p with
 | none=>
  have hw:=h.bitN p hp hs
  have hb:=xgg (h.ver p hp)
  rw[<- hw]at hb
  have hhas:decide (ofW i64 (A.w 8 p) 8 3>0)=false:=congrArg Bt.has hb
  rw[dF]at hhas
  rw[if_neg hhas]
  simp only[Zf,hs]
  rfl
 | some x=>
  obtain⟨d,o'⟩:=x
  obtain⟨_,hd,hm,hv,hw⟩:=vU hf h hs
  have hb:=Xo hm hd hv
  rw[<- hw]at hb
  have hhas:decide (ofW i64 (A.w 8 p) 8 3>0)=true:=congrArg Bt.has hb
  have hcls:(bif decide (ofW i64 (A.w 8 p) 8 3>0)then i64.wrap (ofW i64 (A.w 8 p) 8 3-1)else(0:Int))=(d:Int):=congrArg Bt.cls hb
  rw[hcls,if_pos (by rw[dT]at hhas;exact hhas)]
  simp only[cond_true,T.run]
  simp only[Zf,hs]
  by_cases hdc:d=c
  ·subst hdc;simp
  ·rw[beq_eq_false_iff_ne.2 (show(d:Int)≠(c:Int)by omega),beq_eq_false_iff_ne.2 hdc]
theorem xsp{m c v:Nat}(hm:m<256)(hm0:m≠0):(firstT ⟨(m:Int),true,(c:Int),(v:Int)⟩).run (xl n t) A=some ((Lib.trailingZeros8 m:Int),A):=by
 unfold firstT VK
 simp only
 rw[beq_eq_false_iff_ne.2 (show(m:Int)≠0 by omega)]
 simp only[cond_false]
 rw[show(decide (0<=(m:Int))&&decide ((m:Int)<=255))=true by simp;omega]
 rfl
theorem xvR(h:HI n t A held S mp vr rem bag pl){p c o:Nat}(hs:slabAt S p=some (c,o)):Rn n t (xaP (xb n t) (p:Int) (c:Int)) A fun r A'=>
  (∃g m':Nat,r=((g:Int),true)/\held g=none/\isBlk S g c/\HI n t A' (upd held g (some (.blk c))) S (updN mp p m') vr rem bag pl/\Fr [8] 4 A A')\/(r=(0,false)/\Fr [] 4 A A'/\mp p=0):=by
 obtain⟨hp,hc,hm,hv,hw⟩:=vU hf h hs
 have hb:=Xo hm hc hv
 have hn:=hf.n2
 have hpw:=(h.bitS p c o hs).1
 unfold xaP xc2 kf
 rw[show xa=4095+1 from rfl,xr]
 unfold XL
 refine Rn.run (xak hf hp hc) (Rn.yes rfl ?_)
 refine Rn.run (YO hf hp) ?_
 rw[hw,hb]
 by_cases hm0:mp p=0
 ·have hfi:(firstT ⟨(mp p:Int),true,(c:Int),(vr p:Int)⟩).run (xl n t) A.tick=some (-1,A.tick):=by
   unfold firstT VK
   simp only[hm0]
   rfl
  refine Rn.run hfi ?_
  refine Rn.no rfl ?_
  refine Rn.no (by simp) ?_
  exact Rn.yes rfl (Rn.ret (.inr ⟨rfl,(Fr.tick [] A).mono,hm0⟩))
 ·obtain⟨ht8,htb⟩:=tz_ok _ hm hm0
  refine Rn.run (xsp hf hm hm0) ?_
  generalize Lib.trailingZeros8 (mp p)=j at *
  have hjc:j<blc c:=by
   by_cases hlt:j<blc c
   ·exact hlt
   ·exfalso
    have:=Nat.testBit_lt_two_pow (Nat.lt_of_lt_of_le hpw (Nat.pow_le_pow_right (n:=2) (by omega) (show blc c<=j by omega)))
    rw[htb]at this;cases this
  refine Rn.no rfl ?_
  refine Rn.no (by simp) ?_
  refine Rn.no (by rw[dF];omega) ?_
  refine Rn.yes (by rw[decide_eq_false (show ¬ ((j:Int)<0)by omega)];rfl) ?_
  simp only[Int.toNat_natCast]
  rw[if_pos (show j<=8 by omega),clr_ok _ hm j ht8]
  refine Rn.run (xbO hf (A:=A.tick) hp (by rw[AS.tick_w,hw];rfl)) ?_
  refine Rn.yes rfl (Rn.yes (by rw[dT];omega) ?_)
  have hlt:=xW hjc
  have e:i64.wrap (i64.wrap ((p:Int)*8)+i64.wrap (Int.tdiv (i64.wrap ((j:Int)*bif (c:Int)==0 then(8:Int)else bif (c:Int)==1 then(16:Int)else bif (c:Int)==2 then(24:Int)else(32:Int))) 8))=((8*p+j*(c+1):Nat):Int):=by
   have ec:(bif (c:Int)==0 then(8:Int)else bif (c:Int)==1 then(16:Int)else bif (c:Int)==2 then(24:Int)else(32:Int))=((8*(c+1):Nat):Int):=by
    have : ∀c:Nat,c<4->(bif (c:Int)==0 then(8:Int)else bif (c:Int)==1 then(16:Int)else bif (c:Int)==2 then(24:Int)else(32:Int))=((8*(c+1):Nat):Int):=by decide
    exact this c hc
   rw[ec]
   have e1:(j:Int)*((8*(c+1):Nat):Int)=((8*(j*(c+1)):Nat):Int):=by
    rw[<- Int.natCast_mul];congr 1;rw[Nat.mul_left_comm]
   rw[e1]
   generalize j*(c+1)=x at *
   rw[wN _ (by omega),Int.tdiv_eq_ediv_of_nonneg (by omega)]
   have e2:((8*x:Nat):Int) / 8=(x:Int):=by omega
   rw[e2,wN _ (by omega),show(p:Int)*8=((8*p:Nat):Int)by omega,wN _ (by omega),wrap_add hf.toFew (by omega)]
  rw[e]
  obtain⟨k1,k2⟩:=h.unhome (m':=mp p &&& (255 ^^^ 2 ^ j)) hs hjc htb (Nat.lt_of_le_of_lt Nat.and_le_left hpw) (fun i=>clr_bit hm ht8)
  exact Rn.ret (.inl ⟨_,_,rfl,k1,⟨p,o,j,hs,hjc,rfl⟩,k2.same fun r i _=>rfl,(Fr.tick [] A).trans (Fr.sett (R :=[8]) _ _ (by simp))⟩)
theorem xsq{c j:Nat}(hc:c<4)(hj:j<blc c):(XK (c:Int) ((8*(j*(c+1)):Nat):Int)).run (xl n t) A=some (((j:Int),true),A):=by
 have h8:j<8:=Nat.lt_of_lt_of_le hj xlD
 have key : ∀c,c<4 ->∀j,j<8->j<blc c->XK (c:Int) ((8*(j*(c+1)):Nat):Int) = .ret ((j:Int),true):=by
  intro c hc j h8 hj
  have hc':c=0\/c=1\/c=2\/c=3:=by omega
  have hj':j=0\/j=1\/j=2\/j=3\/j=4\/j=5\/j=6\/j=7:=by omega
  rcases hc' with rfl|rfl|rfl|rfl<;>rcases hj' with rfl|rfl|rfl|rfl|rfl|rfl|rfl|rfl<;>first|rfl|(exfalso;revert hj;decide)
 rw[key c hc j h8 hj];rfl
theorem ku{o:Int}{k:Nat}(hk:1<=k)(hk2:k<=100000):(yJ (xb n t) o (k:Int)).run (xl n t) A=some (((),u64.wrap (o+k)),(A.set 1 0 (u64.wrap (A.w 1 0+k))).tick):=by
 have e:u64.wrap (k:Int)=(k:Int):=by rw[IntKind.wrap_u64];omega
 unfold yJ VV
 rw[decide_eq_true (show(k:Int)>0 by omega),e]
 simp only[cond_true,T.run,xl,at1 hf.toFew,xB (show 0<Zr n t 1 by simp[Zr]) 19 (by omega)]
theorem HI.moved(h:HI n t A held S mp vr rem bag pl)(x:Int):HI n t (A.set 1 0 (u64.wrap x)).tick held S mp vr rem bag pl:=by
 have e:(A.set 1 0 (u64.wrap x)).tick.w 1 0=u64.wrap x:=by simp
 refine⟨h.laid.of (fun _=>rfl) (fun _=>rfl),h.norm,h.nodf,by rw[e,IntKind.wrap_u64];omega,h.ver,h.bitS,h.bitN,h.remw,h.remb,h.cach,h.bagw,h.bagn,h.bagd,h.item,h.polw,h.poln,h.hblk,h.hrun,h.tok,h.gon⟩
theorem xiC(h:HI n t A held S mp vr rem bag pl){g c:Nat}(hg:held g=some (.blk c)):Rn n t (Wt (xb n t) (g:Int)) A fun r A'=>
  r=true/\ ∃m',HI n t A' (upd held g none) S (updN mp (g / 8) m') vr rem bag pl/\Fr [8] 4 A A':=by
 have hb:=h.hblk g c hg
 obtain⟨p,o,j,hs,hj,rfl⟩:=hb
 obtain⟨hp,hc,hm,hv,hw⟩:=vU hf h hs
 have hlt:=xW hj
 have hbb:=Xo hm hc hv
 have hn:=hf.n2
 have hpw:=(h.bitS p c o hs).1
 have h8:j<8:=Nat.lt_of_lt_of_le hj xlD
 have e0:(8*p+j*(c+1)) / 8=p:=by omega
 obtain⟨k1,k2⟩:=h.home (m':=mp p ||| 2 ^ j) hs hj hg (Nat.or_lt_two_pow hpw (Nat.pow_lt_pow_right (by omega) hj)) (fun i=>orr_bit)
 rw[e0]
 have ed:i64.wrap (Int.tdiv ((8*p+j*(c+1):Nat):Int) 8)=(p:Int):=by
  rw[Int.tdiv_eq_ediv_of_nonneg (by omega)]
  have:((8*p+j*(c+1):Nat):Int) / 8=(p:Int):=by omega
  rw[this,wN _ (by omega)]
 have em:i64.wrap (Int.tmod ((8*p+j*(c+1):Nat):Int) 8*8)=((8*(j*(c+1)):Nat):Int):=by
  rw[Int.tmod_eq_emod_of_nonneg (by omega)]
  have:((8*p+j*(c+1):Nat):Int)%8*8=((8*(j*(c+1)):Nat):Int):=by omega
  rw[this,wN _ (by omega)]
 unfold Wt xc3
 refine Rn.no (by rw[dF];omega) ?_
 have hpg:i64.wrap ((xb n t).pages*8)=((n*8:Nat):Int):=by
  show i64.wrap (((n:Nat):Int)*8)=_
  rw[show((n:Nat):Int)*8=((n*8:Nat):Int)by omega,wN _ (by omega)]
 refine Rn.no (by rw[dF,hpg];omega) ?_
 rw[ed,em]
 unfold wh
 rw[show xa=4095+1 from rfl,xr]
 unfold xaS
 refine Rn.yes rfl ?_
 refine Rn.run (YO hf hp) ?_
 rw[hw,hbb]
 refine Rn.run (xsq hf hc hj) ?_
 refine Rn.no rfl (Rn.no rfl ?_)
 refine Rn.yes (by rw[decide_eq_false (show ¬ ((j:Int)<0)by omega)];rfl) ?_
 simp only[Int.toNat_natCast]
 rw[if_pos (show j<=8 by omega),bit_ok _ hm j h8,k1]
 refine Rn.no rfl ?_
 refine Rn.yes (by rw[decide_eq_false (show ¬ ((j:Int)<0)by omega)];rfl) ?_
 rw[orr_ok _ hm j h8]
 refine Rn.run (xbO hf (A:=A.tick) hp (by rw[AS.tick_w,hw];rfl)) ?_
 refine Rn.yes rfl (Rn.ret ⟨rfl,_,k2.same fun r i _=>rfl,(Fr.tick [] A).trans (Fr.sett (R :=[8]) _ _ (by simp))⟩)
theorem xo6(h:HI n t A held S mp vr rem bag pl){g c:Nat}(hg:held g=some (.blk c))(o:Int):Rn n t (xh (xb n t) o (g:Int)) A fun r A'=>
  r=((),u64.wrap (o+1))/\A'.w 1 0=u64.wrap (A.w 1 0+1)/\ ∃m',HI n t A' (upd held g none) S (updN mp (g / 8) m') vr rem bag pl/\Fr [1,8] 5 A A':=by
 unfold xh xkl
 refine Rn.bind (xiC hf h hg) ?_
 rintro r A1 ⟨rfl,m',k1,k2⟩
 refine Rn.run (ku hf (A:=A1) (o:=o) (k:=1) (by omega) (by omega)) (Rn.ret ⟨rfl,?_,m',k1.moved hf _,k2.trans (Fr.sett (R :=[1]) _ _ (by simp))⟩)
 simp only[AS.tick_w,AS.set_w,and_self,if_true]
 rw[k2.w 1 (by simp)];rfl
end
end
section
open Go Go.RowKit Lx
def xbP{β:Type}(g:Geo)(κ:Int->T β):List Int->Int->T β
 | [],o=>κ o
 | x::l,o=>(xh g o (i64.wrap (i64.wrap x-1))).bind fun r=>xbP g κ l r.2
def Vh{β:Type}(g:Geo)(F:List Int->T β):Nat->Int->List Int->T β
 | 0,x,acc=>bif x != 0 then F acc else F acc
 | m+1,x,acc=>bif x != 0 then(.op (.load (atF g 10 (i64.wrap (i64.wrap x-1)))) fun y=>Vh g F m y (acc ++ [x]))else F acc
theorem Vi(a:Nat) : ∀ (N:Nat) (l:List Nat),l.Nodup->(∀x∈l,a<=x/\x<a+N)->l.length<=N
 | 0,l,h,hl=>by
  cases l with
  | nil=>simp
  | cons x l=>have:=hl x (by simp);omega
 | N+1,l,h,hl=>by
  by_cases hm:a+N∈l
  ·have h1:=Vi a N (l.erase (a+N)) (h.erase _) fun x hx=>by
    have hx':=(h.mem_erase_iff).1 hx
    have:=hl x hx'.2
    have:=hx'.1
    omega
   rw[List.length_erase_of_mem hm]at h1
   omega
  ·have:=Vi a N l h fun x hx=>by
    have:=hl x hx
    have:x≠a+N:=fun hh=>hm (hh▸hx)
    omega
   omega
def tops(L:List Nat):List Int:=L.map fun g=>((g+1:Nat):Int)
theorem xal{g:Nat}(h:g<1000000):i64.wrap (i64.wrap ((g+1:Nat):Int)-1)=(g:Int):=by
 rw[wN _ (by omega),w64 (by omega) (by omega)];omega
section
variable{n t:Nat}(hf:Small n t){A:AS}{held:Nat->Option HK}{S:List Sg}{mp vr:Nat->Nat}{rem bag:Nat->List Nat}{pl:List Nat}
include hf
theorem Zg{β:Type}{F:List Int->T β}{Q:β->AS->Prop} : ∀ (L:List Nat) (m:Nat) (acc:List Int) (A:AS),L.length<=m->linked (A.w 10) L->(∀g∈L,g<n*8)->(∀A',Fr [] L.length A A'->Rn n t (F (acc++tops L)) A' Q)->Rn n t (Vh (xb n t) F m (hdw L) acc) A Q
 | [],0,acc,A,_,_,_,h=>by
  have:=h A (Fr.refl _ _)
  rw[tops,List.map_nil,List.append_nil]at this
  exact this
 | [],m+1,acc,A,_,_,_,h=>by
  have:=h A (Fr.refl _ _)
  rw[tops,List.map_nil,List.append_nil]at this
  exact this
 | g::L,0,acc,A,hl,_,_,h=>by simp at hl
 | g::L,m+1,acc,A,hl,hk,hg,h=>by
  have hn:=hf.n2
  have hgl:=hg g (by simp)
  unfold Vh
  refine Rn.yes (bne_iff_ne.2 (by simp only[hdw];omega)) ?_
  simp only[hdw]
  rw[xal (by omega)]
  refine Rn.load (at10 hf.toFew hgl) (by omega) hgl ?_
  rw[hk.1]
  refine Zg L m (acc ++ [((g+1:Nat):Int)]) A.tick (by simp at hl;omega) hk.2 (fun x hx=>hg x (by simp[hx])) fun A' hA' =>?_
  have:=h A' ((Fr.tick [] A).trans hA' (by simp) (by simp) (by simp;omega))
  rw[tops,List.map_cons]at this
  rw[tops,List.append_assoc]
  exact this
theorem xbQ{β:Type}{κ:Int->T β}{c:Nat}{Q:β->AS->Prop} : ∀ (L:List Nat) (o:Nat) (A:AS) (held:Nat->Option HK) (mp:Nat->Nat),HI n t A held S mp vr rem bag pl->L.Nodup->(∀g∈L,held g=some (.blk c)/\g<n*8)->o+L.length<1000000000->
  (∀A' mp',HI n t A' (fun g=>if g∈L then none else held g) S mp' vr rem bag pl->A'.w 1 0=u64.wrap (A.w 1 0+(L.length:Int))->Fr [1,8] (5*L.length) A A'->Rn n t (κ ((o+L.length:Nat):Int)) A' Q)->Rn n t (xbP (xb n t) κ (tops L) (o:Int)) A Q
 | [],o,A,held,mp,h,_,_,_,hk=>by
  have e:A.w 1 0=u64.wrap (A.w 1 0+((0:Nat):Int)):=by have:=h.ep;rw[IntKind.wrap_u64];omega
  exact hk A mp (by simpa using h) e (Fr.refl _ _)
 | g::L,o,A,held,mp,h,hnd,hh,ho,hk=>by
  have hn:=hf.n2
  rw[List.nodup_cons]at hnd
  obtain⟨hg,hgl⟩:=hh g (by simp)
  simp only[tops,List.map_cons,xbP]
  rw[xal (by omega)]
  simp only[List.length_cons]at ho
  refine Rn.bind (xo6 hf h hg (o:Int)) ?_
  rintro r A1 ⟨rfl,he,m',h1,hfr⟩
  have eo:u64.wrap ((o:Int)+1)=((o+1:Nat):Int):=by rw[IntKind.wrap_u64];omega
  simp only[eo]
  refine xbQ (c:=c) L (o+1) A1 _ _ h1 hnd.2 (fun x hx =>?_) (by omega) fun A' mp' h2 he2 hfr2 =>?_
  ·have hne:x≠g:=fun hh=>hnd.1 (hh▸hx)
   rw[upd_ne _ _ hne]
   exact hh x (by simp[hx])
  ·have e1:(fun x=>if x∈L then none else upd held g none x)=(fun x=>if x∈g::L then none else held x):=by
    funext x
    by_cases hxg:x=g
    ·subst hxg;rw[xC];simp
    ·rw[upd_ne _ _ hxg];simp[hxg]
   rw[e1]at h2
   have:=hk A' mp' h2 (by rw[he2,he,IntKind.wrap_u64,IntKind.wrap_u64,IntKind.wrap_u64];simp only[List.length_cons];omega) (hfr.trans hfr2 (by simp) (by simp) (by simp only[List.length_cons];omega))
   simp only[List.length_cons]at this
   rw[show o+1+L.length=o+(L.length+1)by omega]
   exact this
theorem xxH(h:HI n t A held S mp vr rem bag pl){g c:Nat}(hg:held g=some (.blk c)):Rn n t (xhJ (xb n t) (g:Int)) A fun r A'=>r=true/\ ∃rem',HI n t A' (upd held g none) S mp vr rem' bag pl/\Fr [9,10] 4 A A':=by
 have hn:=hf.n2
 obtain⟨p,o,j,hs,hj,rfl⟩:=h.hblk g c hg
 have hlt:=xW hj
 obtain⟨hp,_⟩:=vU hf h hs
 have e0:(8*p+j*(c+1)) / 8=p:=by omega
 have hgl:8*p+j*(c+1)<n*8:=by omega
 have ed:i64.wrap (Int.tdiv ((8*p+j*(c+1):Nat):Int) 8)=(p:Int):=by
  rw[Int.tdiv_eq_ediv_of_nonneg (by omega)]
  have:((8*p+j*(c+1):Nat):Int) / 8=(p:Int):=by omega
  rw[this,wN _ (by omega)]
 have hpg:i64.wrap ((xb n t).pages*8)=((n*8:Nat):Int):=by
  show i64.wrap (((n:Nat):Int)*8)=_
  rw[show((n:Nat):Int)*8=((n*8:Nat):Int)by omega,wN _ (by omega)]
 have h1:=h.push hg (by rw[e0];exact hp)
 rw[e0]at h1
 generalize 8*p+j*(c+1)=g at *
 have ew:u64.wrap (u64.wrap (g:Int)+1)=((g+1:Nat):Int):=by rw[IntKind.wrap_u64,IntKind.wrap_u64];omega
 unfold xhJ xjX
 refine Rn.no (by rw[dF];omega) ?_
 refine Rn.no (by rw[dF,hpg];omega) ?_
 rw[ed]
 unfold jO
 rw[show xa=4095+1 from rfl,xr]
 unfold VQ
 refine Rn.yes rfl ?_
 refine Rn.load (at9 hf.toFew hp) (by omega) hp ?_
 refine Rn.store (at10 hf.toFew hgl) (by omega) hgl ?_
 rw[ew]
 refine Rn.cas (at9 hf.toFew hp) (by omega) hp (by simp) ?_
 refine Rn.yes rfl (Rn.ret ⟨rfl,_,h1.same fun r i _ =>?_,((Fr.tick [] A).trans (Fr.sett (R :=[10]) _ _ (by simp)) (S :=[10]) (e:=2)).trans (Fr.sett (R :=[9]) _ _ (by simp))⟩)
 rw[(h.remw p hp).1];rfl
theorem xlE(h:HI n t A held S mp vr rem bag pl){p c o:Nat}(hs:slabAt S p=some (c,o)):(rem p).length<=8/\ ∀g∈rem p,g<n*8:=by
 obtain⟨hp,_⟩:=vU hf h hs
 obtain⟨_,hnd,_⟩:=h.drain hs hp
 refine⟨Vi (8*p) 8 _ hnd fun g hg =>?_,fun g hg =>?_⟩
 ·have:=(h.remb p hp g hg).1;omega
 ·have:=(h.remb p hp g hg).1;omega
theorem xiD(h:HI n t A held S mp vr rem bag pl){p c o:Nat}(hs:slabAt S p=some (c,o)){β:Type}{F:List Int->T β}{Q:β->AS->Prop}
  (hF : ∀A',HI n t A' (fun g=>if g∈rem p then some (.blk c)else held g) S mp vr (updL rem p []) bag pl->A'.w 1 0=A.w 1 0->Fr [9] 20 A A'->Rn n t (F (tops (rem p))) A' Q) :
  Rn n t (.op (.load (atF (xb n t) 9 (p:Int))) fun x=>yh (p:Int) (xb n t) (p:Int) x fun y=>Vh (xb n t) F 8 y []) A Q:=by
 obtain⟨hp,_⟩:=vU hf h hs
 obtain⟨hl8,hgl⟩:=xlE hf h hs
 obtain⟨hw9,hlk⟩:=h.remw p hp
 obtain⟨_,_,h1⟩:=h.drain hs hp
 refine Rn.load (at9 hf.toFew hp) (by omega) hp ?_
 rw[hw9]
 unfold yh
 rw[show xa=4095+1 from rfl,xr]
 unfold XO
 cases hr:rem p with
 | nil=>
  refine Rn.no (by simp[hdw]) ?_
  have h0:HI n t A.tick (fun g=>if g∈rem p then some (.blk c)else held g) S mp vr (updL rem p []) bag pl:=by
   have e1:(fun g=>if g∈rem p then some (HK.blk c)else held g)=held:=by funext g;rw[hr];simp
   have e2:updL rem p []=rem:=by
                     funext q;simp only[updL];split
                     ·rename_i hq;rw[hq,hr]
                     ·rfl
   rw[e1,e2]
   exact h.same fun r i _=>rfl
  refine Zg hf [] 8 [] A.tick (by simp) trivial (by simp) fun A' hA' =>?_
  have:=hF A' (h0.fr hA' (by simp)) (by rw[hA'.w 1 (by simp)];rfl) ((Fr.tick [] A).trans hA' (by simp) (by simp) (by simp))
  rw[hr]at this
  exact this
 | cons g0 L=>
  refine Rn.yes (bne_iff_ne.2 (by simp only[hdw];omega)) ?_
  refine Rn.cas (at9 hf.toFew hp) (by omega) hp (by rw[AS.tick_w,hw9,hr]) ?_
  refine Rn.no rfl ?_
  rw[<- hr]
  refine Zg hf (rem p) 8 [] _ hl8 (by rw[AS.tick_w,xM _ _ _ (show 10≠9 by decide)];exact hlk) hgl fun A' hA' =>?_
  have h2:HI n t (A.tick.set 9 p 0).tick (fun g=>if g∈rem p then some (.blk c)else held g) S mp vr (updL rem p []) bag pl:=h1.same fun r i _=>rfl
  rw[List.nil_append]
  exact hF A' (h2.fr hA' (by simp)) (by rw[hA'.w 1 (by simp)];rfl) (((Fr.tick [] A).trans (Fr.sett (R :=[9]) _ _ (by simp)) (S :=[9]) (e:=2)).trans hA')
end
end
end Go.Proofs.YtaegelbaghaooaaGreat
