/- Part. -/
import Derived.Test.YtcicjcggclhbfaaGreatCsM6
import Derived.Test.YtcicjcggclhbfaaGreatCsM18
set_option linter.all false
open Go.IntKind (i64 u64 u32 u8)
namespace Go.Proofs.YtcicjcggclhbfaaGreat
section
open Go Go.RowKit Lx
def cntR(f:Nat->Int):Nat->Int->Nat
 | 0,_=>0
 | N+1,v=>cntR f N v+if f N=v then 1 else 0
theorem xij{f g:Nat->Int} : ∀ {N:Nat} {v:Int},(∀i,i<N->f i=g i)->cntR f N v=cntR g N v
 | 0,v,h=>rfl
 | N+1,v,h=>by simp only[cntR,xij (N:=N) (v:=v) fun i hi=>h i (by omega),h N (by omega)]
theorem Ym(f:Nat->Int)(i:Nat)(x:Int) : ∀ (N:Nat) (v:Int),i<N->cntR (fun j=>if j=i then x else f j) N v+(if f i=v then 1 else 0)=cntR f N v+(if x=v then 1 else 0)
 | 0,v,h=>by omega
 | N+1,v,h=>by
  by_cases hi:i=N
  .subst hi
   have e1:cntR (fun j=>if j=i then x else f j) i v=cntR f i v:=xij fun j hj=>dA (by omega)
   have e2:(if i=i then x else f i)=x:=dB rfl
   show cntR (fun j=>if j=i then x else f j) i v+(if(if i=i then x else f i)=v then 1 else 0)+(if f i=v then 1 else 0)=cntR f i v+(if f i=v then 1 else 0)+(if x=v then 1 else 0)
   simp only[e1,if_true]
   omega
  .have:=Ym f i x N v (by omega)
   have e2:(if N=i then x else f N)=f N:=dA (fun hh=>hi hh.symm)
   show cntR (fun j=>if j=i then x else f j) N v+(if(if N=i then x else f N)=v then 1 else 0)+(if f i=v then 1 else 0)=cntR f N v+(if f N=v then 1 else 0)+(if x=v then 1 else 0)
   simp only[e2]
   omega
theorem jg{f:Nat->Int} : ∀ {N:Nat} {v:Int},(∀i,i<N->f i≠v)->cntR f N v=0
 | 0,v,h=>rfl
 | N+1,v,h=>by simp only[cntR,jg (N:=N) fun i hi=>h i (by omega),dA (h N (by omega))]
theorem xbw{f:Nat->Int}{i:Nat}{v:Int} : ∀ {N:Nat},i<N->f i=v->1<=cntR f N v
 | 0,h,hv=>by omega
 | N+1,h,hv=>by
  simp only[cntR]
  by_cases hi:i=N
  .subst hi;rw[dB hv];omega
  .have:=xbw (N:=N) (show i<N by omega) hv;omega
theorem xkN{f:Nat->Int}{N:Nat}{v:Int}(h:cntR f N v=0){i:Nat}(hi:i<N):f i≠v:=fun hv=>by
 have:=xbw hi hv;omega
def va(f:Nat->Int):Nat->Nat
 | 0=>0
 | N+1=>va f N+if f N=0 then 0 else 1
theorem qv{f g:Nat->Int} : ∀ {N:Nat},(∀i,i<N->f i=g i)->va f N=va g N
 | 0,h=>rfl
 | N+1,h=>by simp only[va,qv (N:=N) fun i hi=>h i (by omega),h N (by omega)]
theorem xkO(f:Nat->Int)(i:Nat)(hf:f i≠0) : ∀ (N:Nat),i<N->va (fun j=>if j=i then 0 else f j) N+1=va f N
 | 0,h=>by omega
 | N+1,h=>by
  by_cases hi:i=N
  .subst hi
   have e1:va (fun j=>if j=i then 0 else f j) i=va f i:=qv fun j hj=>dA (by omega)
   show va (fun j=>if j=i then 0 else f j) i+(if(if i=i then 0 else f i)=0 then 0 else 1)+1=va f i+(if f i=0 then 0 else 1)
   rw[e1,dB rfl,dB rfl,dA hf]
  .have:=xkO f i hf N (by omega)
   have e2:(if N=i then 0 else f N)=f N:=dA (fun hh=>hi hh.symm)
   show va (fun j=>if j=i then 0 else f j) N+(if(if N=i then 0 else f N)=0 then 0 else 1)+1=va f N+(if f N=0 then 0 else 1)
   simp only[e2]
   omega
theorem xik(f:Nat->Int) : ∀N,va f N<=N
 | 0=>dI _
 | N+1=>by have:=xik f N;simp only[va];split<;>omega
def LessB(r b N:Nat)(A A':AS):Prop :=∃i,i<N/\A.w r (b+i)≠0/\ ∀q,A'.w r q=if q=b+i then 0 else A.w r q
theorem LessB.nz{r b N:Nat}{A A':AS}(h:LessB r b N A A'):va (fun i=>A'.w r (b+i)) N+1=va (fun i=>A.w r (b+i)) N:=by
 obtain⟨i,hi,h0,h1⟩:=h
 rw[<- xkO (fun i=>A.w r (b+i)) i h0 N hi]
 congr 1
 refine qv fun j hj =>?_
 simp only[h1]
 by_cases rh:j=i
 .rw[dB (by omega),dB rh]
 .rw[dA (by omega),dA rh]
theorem LessB.of{r b N:Nat}{A B B' A':AS}(h:LessB r b N B B')(h1 : ∀i,B.w r i=A.w r i)(h2 : ∀i,A'.w r i=B'.w r i):LessB r b N A A':=by
 obtain⟨i,hi,h0,h3⟩:=h
 exact⟨i,hi,by rw[<- h1];exact h0,fun q=>by rw[h2,h3,h1]⟩
def blc(c:Nat):Nat:=8 / (c+1)
def slabAt:List Sg->Nat->Option (Nat×Nat)
 | [],_=>none
 | s::l,p=>if p<s.len then(match s.kd with | .slab c o=>some (c,o)|_=>none)else slabAt l (p-s.len)
def runAt:List Sg->Nat->Option Nat
 | [],_=>none
 | s::l,p=>if p<s.len then(if p=0/\s.kd = .run then some s.len else none)else runAt l (p-s.len)
theorem yR(L M:List Sg)(p:Nat):slabAt (L++M) p=if p<plen L then slabAt L p else slabAt M (p-plen L):=by
 induction L generalizing p with
 | nil=>simp[plen]
 | cons s l ih=>
  have bw:plen (s::l)=s.len+plen l:=rfl
  simp only[List.cons_append,slabAt]
  by_cases h:p<s.len
  .rw[dB h,dB h,dB (show p<plen (s::l)by omega)]
  .rw[dA h,dA h,ih]
   by_cases h2:p-s.len<plen l
   .rw[dB h2,dB (show p<plen (s::l)by omega)]
   .rw[dA h2,dA (show ¬p<plen (s::l)by omega)];congr 1;omega
theorem vj(L M:List Sg)(p:Nat):runAt (L++M) p=if p<plen L then runAt L p else runAt M (p-plen L):=by
 induction L generalizing p with
 | nil=>simp[plen]
 | cons s l ih=>
  have bw:plen (s::l)=s.len+plen l:=rfl
  simp only[List.cons_append,runAt]
  by_cases h:p<s.len
  .rw[dB h,dB h,dB (show p<plen (s::l)by omega)]
  .rw[dA h,dA h,ih]
   by_cases h2:p-s.len<plen l
   .rw[dB h2,dB (show p<plen (s::l)by omega)]
   .rw[dA h2,dA (show ¬p<plen (s::l)by omega)];congr 1;omega
theorem kW : ∀ (S:List Sg) (p c o:Nat),(∀s∈S,s.ok)->slabAt S p=some (c,o) ->∃L R,S=L++(⟨1,.slab c o⟩::R)/\plen L=p
 | [],p,c,o,_,h=>by cases h
 | s::l,p,c,o,bl,h=>by
  simp only[slabAt]at h
  split at h
  .rename_i hp
   split at h
   .rename_i c' o' hk
    cases h
    have h1:=(bl s (by simp)).2 c o hk
    obtain⟨len,kd⟩:=s
    simp only at h1 hk hp
    obtain⟨Nq,_⟩:=h1
    subst Nq
    rw[hk]
    exact⟨[],l,rfl,by simp only[plen];omega⟩
   .cases h
  .rename_i hp
   obtain⟨L,R,h1,h2⟩:=kW l _ c o (fun x hx=>bl x (by simp[hx])) h
   exact⟨s::L,R,by rw[h1];rfl,by rw[xP,h2];omega⟩
theorem WV{S:List Sg}{p:Nat}{x:Nat×Nat}(h:slabAt S p=some x):p<plen S:=by
 induction S generalizing p with
 | nil=>cases h
 | cons s l ih=>
  simp only[slabAt]at h
  rw[xP]
  split at h
  .omega
  .have:=ih h;omega
theorem WW{S:List Sg}{p c o:Nat}(bl : ∀s∈S,s.ok)(h:slabAt S p=some (c,o)):c<4/\o<64:=by
 obtain⟨L,R,rfl,_⟩:=kW S p c o bl h
 exact((bl ⟨1,.slab c o⟩ (by simp)).2 c o rfl).2
def isBlk(S:List Sg)(g c:Nat):Prop :=∃p o j,slabAt S p=some (c,o)/\j<blc c/\g=8*p+j*(c+1)
theorem yi{c j:Nat}(h:j<blc c):j*(c+1)+(c+1)<=8:=by
 unfold blc at h
 have h1:(j+1)*(c+1)<=8:=by
  have:=Nat.div_mul_le_self 8 (c+1)
  exact Nat.le_trans (Nat.mul_le_mul_right (c+1) h) this
 rw[Nat.add_mul]at h1;omega
theorem yj{S:List Sg}{g c:Nat}(h:isBlk S g c) : ∃o j,slabAt S (g / 8)=some (c,o)/\j<blc c/\g%8=j*(c+1):=by
 obtain⟨p,o,j,h1,h2,rfl⟩:=h
 have h3:=yi h2
 have e1:(8*p+j*(c+1)) / 8=p:=by omega
 exact⟨o,j,by rw[e1];exact h1,h2,by omega⟩
theorem xzC{S:List Sg}{g c d:Nat}(h:isBlk S g c)(h':isBlk S g d):c=d:=by
 obtain⟨o,j,h1,_⟩:=yj h
 obtain⟨o',j',Hj,_⟩:=yj h'
 rw[h1]at Hj;cases Hj;rfl
inductive HK where
 | blk (c:Nat)
 | run (k:Nat)
 deriving DecidableEq
def hdw:List Nat->Int
 | []=>0
 | g::_=>((g+1:Nat):Int)
def linked(f:Nat->Int):List Nat->Prop
 | []=>True
 | g::l=>f g=hdw l/\linked f l
def hdn:List Nat->Nat
 | []=>0
 | m::_=>m
def linkedN(f:Nat->Int):List Nat->Prop
 | []=>True
 | m::l=>f (m-1)=(hdn l:Int)/\linkedN f l
def b2n(b:Bool):Nat:=if b then 1 else 0
def btw(m c v:Nat):Int:=Bt.word ⟨m,true,c,v⟩
def bt0(v:Nat):Int:=Bt.word ⟨0,false,0,v⟩
def Gon(n t:Nat)(A:AS)(bag:Nat->List Nat)(pl:List Nat):Prop :=∃rt:Nat->List Nat,
 (∀q,q<t->(rt q).length<=2*t+2/\A.w 15 q=((rt q).length:Int)/\(rt q).Nodup/\(∀k,k<(rt q).length->A.w 16 (q*(2*t+2)+k)=(((rt q).getD k 0:Nat):Int))/\ ∀m∈rt q,1<=m/\m<=nodesN n t/\m∉pl/\ ∀i,i<4*t->m∉bag i)/\
 ∀q q' m,q<t->q'<t->m∈rt q->m∈rt q'->q=q'
theorem Gon.of{n t:Nat}{A A':AS}{bag:Nat->List Nat}{pl:List Nat}(h:Gon n t A bag pl)(s9 : ∀i,A'.w 15 i=A.w 15 i)(zd : ∀i,A'.w 16 i=A.w 16 i):Gon n t A' bag pl:=by
 obtain⟨rt,h1,h2⟩:=h
 exact⟨rt,fun q hq=>by obtain⟨a,b,c,d,e⟩:=h1 q hq;exact⟨a,by rw[s9,b],c,fun k hk=>by rw[zd,d k hk],e⟩,h2⟩
theorem Gon.sub{n t:Nat}{A A':AS}{bag dp:Nat->List Nat}{pl da:List Nat}(h:Gon n t A bag pl)(s9 : ∀i,A'.w 15 i=A.w 15 i)(zd : ∀i,A'.w 16 i=A.w 16 i)(hp : ∀m,(m∈da\/ ∃i,i<4*t/\m∈dp i)->m∈pl\/ ∃i,i<4*t/\m∈bag i):Gon n t A' dp da:=by
 obtain⟨rt,h1,h2⟩:=h
 refine⟨rt,fun q hq =>?_,h2⟩
 obtain⟨a,b,c,d,e⟩:=h1 q hq
 refine⟨a,by rw[s9,b],c,fun k hk=>by rw[zd,d k hk],fun m hm =>?_⟩
 obtain⟨e1,e2,e3,e4⟩:=e m hm
 refine⟨e1,e2,fun tm =>?_,fun i hi tm =>?_⟩
 .rcases hp m (.inl tm)with h|⟨j,hj,h⟩
  .exact e3 h
  .exact e4 j hj h
 .rcases hp m (.inr ⟨i,hi,tm⟩)with h|⟨j,hj,h⟩
  .exact e3 h
  .exact e4 j hj h
structure HI(n t:Nat)(A:AS)(held:Nat->Option HK)(S:List Sg)(mp vr:Nat->Nat)(rem bag:Nat->List Nat)(pl:List Nat):Prop where
 laid:Laid n A S
 norm:Norm S
 nodf : ∀s∈S,s.kd ≠ .dfr
 ep:0<=A.w 1 0/\A.w 1 0<18446744073709551616
 ver : ∀p,p<n->vr p<4294967296
 bitS : ∀p c o,slabAt S p=some (c,o)->mp p<2 ^ blc c/\A.w 8 p=btw (mp p) c (vr p)
 bitN : ∀p,p<n->slabAt S p=none->A.w 8 p=bt0 (vr p)
 remw : ∀p,p<n->A.w 9 p=hdw (rem p)/\linked (A.w 10) (rem p)
 remb : ∀p,p<n ->∀g∈rem p,g / 8=p/\ ∃c,isBlk S g c
 cach : ∀i,i<8*t->A.w 12 i=0\/ ∃g,A.w 12 i=((g+1:Nat):Int)/\isBlk S g (i / 2%4)
 bagw : ∀i,i<4*t->A.w 13 i=(hdn (bag i):Int)/\linkedN (A.w 17) (bag i)
 bagn : ∀i,i<4*t->(bag i).Nodup/\ ∀m∈bag i,1<=m/\m<=nodesN n t
 bagd : ∀i j m,i<4*t->j<4*t->m∈bag i->m∈bag j->i=j
 item : ∀m k,1<=m->m<=nodesN n t->k<8->A.w 18 ((m-1)*8+k)=0\/ ∃i g,i<4*t/\m∈bag i/\A.w 18 ((m-1)*8+k)=((g+1:Nat):Int)/\isBlk S g (i%4)
 polw : ∃v:Nat,v<4294967296/\A.w 4 0=Ref.word ⟨hdn pl,false,v⟩/\linkedN (A.w 17) pl
 poln:pl.Nodup/\ ∀m∈pl,1<=m/\m<=nodesN n t/\ ∀i,i<4*t->m∉bag i
 hblk : ∀g c,held g=some (.blk c)->isBlk S g c
 hrun : ∀g k,held g=some (.run k)↔g%8=0/\runAt S (g / 8)=some k
 tok : ∀p c o j,slabAt S p=some (c,o)->j<blc c->b2n ((mp p).testBit j)+cntR (A.w 12) (8*t) ((8*p+j*(c+1)+1:Nat):Int)+cntR (A.w 18) (8*nodesN n t) ((8*p+j*(c+1)+1:Nat):Int)+(rem p).count (8*p+j*(c+1))+(if(held (8*p+j*(c+1))).isSome then 1 else 0)=1
 gon:Gon n t A bag pl
def HInv(n t:Nat)(A:AS)(held:Nat->Option HK):Prop:=A.w 0 0=0/\ ∃S mp vr rem bag pl,HI n t A held S mp vr rem bag pl
theorem HI.same{n t:Nat}{A A':AS}{held:Nat->Option HK}{S:List Sg}{mp vr:Nat->Nat}{rem bag:Nat->List Nat}{pl:List Nat}(h:HI n t A held S mp vr rem bag pl)(hw : ∀r i,(r=1/\i=0)\/r=3\/(r=4)\/(7<=r/\r<=10)\/r=12\/r=13\/(15<=r/\r<=18)->A'.w r i=A.w r i):HI n t A' held S mp vr rem bag pl:=by
 have e : ∀r,(r=8\/r=9\/r=10\/r=12\/r=13\/r=17\/r=18)->A'.w r=A.w r:=fun r hr=>funext fun i=>hw r i (by omega)
 exact⟨h.laid.of (fun i=>hw 7 i (by omega)) (fun i=>hw 3 i (by omega)),h.norm,h.nodf,by rw[hw 1 0 (by omega)];exact h.ep,h.ver,by rw[e 8 (by omega)];exact h.bitS,by rw[e 8 (by omega)];exact h.bitN,by rw[e 9 (by omega),e 10 (by omega)];exact h.remw,h.remb,by rw[e 12 (by omega)];exact h.cach,by rw[e 13 (by omega),e 17 (by omega)];exact h.bagw,h.bagn,h.bagd,by rw[e 18 (by omega)];exact h.item,by rw[hw 4 0 (by omega),e 17 (by omega)];exact h.polw,h.poln,h.hblk,h.hrun,by rw[e 12 (by omega),e 18 (by omega)];exact h.tok,h.gon.of (fun i=>hw 15 i (by omega)) (fun i=>hw 16 i (by omega))⟩
theorem HI.fr{n t c:Nat}{R:List Nat}{A A':AS}{held:Nat->Option HK}{S:List Sg}{mp vr:Nat->Nat}{rem bag:Nat->List Nat}{pl:List Nat}(h:HI n t A held S mp vr rem bag pl)(f:Fr R c A A')(hR : ∀r∈R,r=0\/r=2\/r=5\/r=6\/r=11\/r=14):HI n t A' held S mp vr rem bag pl:=
 h.same fun r i hr=>f.w r (fun hm=>by have:=hR r hm;omega) i
def upd(held:Nat->Option HK)(g:Nat)(x:Option HK):Nat->Option HK:=fun q=>if q=g then x else held q
theorem xC(held:Nat->Option HK)(g:Nat)(x:Option HK):upd held g x g=x:=dB rfl
theorem upd_ne(held:Nat->Option HK){g q:Nat}(x:Option HK)(h:q≠g):upd held g x q=held q:=dA h
theorem xxl{p q c d j k:Nat}(hj:j<blc c)(hk:k<blc d)(h:8*p+j*(c+1)=8*q+k*(d+1)):p=q:=by
 have:=yi hj;have:=yi hk;omega
theorem xsl{p c j k:Nat}(h:8*p+j*(c+1)=8*p+k*(c+1)):j=k:=by
 have:j*(c+1)=k*(c+1):=by omega
 exact Nat.eq_of_mul_eq_mul_right (by omega) this
theorem yN{S:List Sg}{p:Nat}{x:Nat×Nat}(h:slabAt S p=some x):runAt S p=none:=by
 induction S generalizing p with
 | nil=>rfl
 | cons s l ih=>
  simp only[slabAt]at h
  simp only[runAt]
  split at h
  .rename_i hp
   rw[dB hp]
   split at h
   .rename_i hk;rw[dA (by rintro ⟨_,hh⟩;rw[hk]at hh;cases hh)]
   .cases h
  .rename_i hp
   rw[dA hp];exact ih h
end
section
open Go Go.RowKit Lx
theorem yt(A:AS)(r i:Nat)(v:Int):(A.set r i v).w r=fun q=>if q=i then v else A.w r q:=by
 funext q;simp only[AS.set_w,true_and]
theorem xV(A:AS){r q:Nat}(i:Nat)(v:Int)(h:q≠r):(A.set r i v).w q=A.w q:=by
 funext j;simp only[AS.set_w,h,false_and,if_false]
section
variable{n t:Nat}{A:AS}{held:Nat->Option HK}{S:List Sg}{mp vr:Nat->Nat}{rem bag:Nat->List Nat}{pl:List Nat}
theorem HI.held_some(h:HI n t A held S mp vr rem bag pl){g c:Nat}(hb:isBlk S g c):(∀q d,upd held g (some (.blk c)) q=some (.blk d)->isBlk S q d)/\ ∀q k,upd held g (some (.blk c)) q=some (.run k)↔q%8=0/\runAt S (q / 8)=some k:=by
 refine⟨fun q d hq =>?_,fun q k =>?_⟩
 .by_cases bv:q=g
  .subst bv;rw[xC]at hq;cases hq;exact hb
  .rw[upd_ne _ _ bv]at hq;exact h.hblk q d hq
 .by_cases bv:q=g
  .subst bv
   rw[xC]
   obtain⟨o,j,h1,_⟩:=yj hb
   rw[yN h1]
   simp
  .rw[upd_ne _ _ bv];exact h.hrun q k
theorem HI.held_none(h:HI n t A held S mp vr rem bag pl){g c:Nat}(hg:held g=some (.blk c)):(∀q d,upd held g none q=some (.blk d)->isBlk S q d)/\ ∀q k,upd held g none q=some (.run k)↔q%8=0/\runAt S (q / 8)=some k:=by
 refine⟨fun q d hq =>?_,fun q k =>?_⟩
 .by_cases bv:q=g
  .subst bv;rw[xC]at hq;cases hq
  .rw[upd_ne _ _ bv]at hq;exact h.hblk q d hq
 .by_cases bv:q=g
  .subst bv
   rw[xC]
   obtain⟨o,j,h1,_⟩:=yj (h.hblk q c hg)
   rw[yN h1]
   simp
  .rw[upd_ne _ _ bv];exact h.hrun q k
theorem HI.places(h:HI n t A held S mp vr rem bag pl){g c:Nat}(hb:isBlk S g c) : ∃p o j,slabAt S p=some (c,o)/\j<blc c/\g=8*p+j*(c+1)/\
  b2n ((mp p).testBit j)+cntR (A.w 12) (8*t) ((g+1:Nat):Int)+cntR (A.w 18) (8*nodesN n t) ((g+1:Nat):Int)+(rem p).count g+(if(held g).isSome then 1 else 0)=1:=by
 obtain⟨p,o,j,h1,h2,rfl⟩:=hb
 exact⟨p,o,j,h1,h2,rfl,h.tok p c o j h1 h2⟩
theorem isSome_none{x:Option HK}(h:(if x.isSome then 1 else 0)=0):x=none:=by cases x<;>simp at h |-
theorem HI.uncache(h:HI n t A held S mp vr rem bag pl){i g:Nat}(hi:i<8*t)(hw:A.w 12 i=((g+1:Nat):Int)):held g=none/\isBlk S g (i / 2%4)/\HI n t (A.set 12 i 0) (upd held g (some (.blk (i / 2%4)))) S mp vr rem bag pl:=by
 have hb:isBlk S g (i / 2%4):=by
  rcases h.cach i hi with h0|⟨g',h1,h2⟩
  .rw[hw]at h0;omega
  .rw[hw]at h1;obtain rfl:g=g':=by omega
   exact h2
 have hn:held g=none:=by
  obtain⟨p,o,j,h1,h2,h3,h4⟩:=h.places hb
  have:=xbw hi hw
  exact isSome_none (by omega)
 obtain⟨k1,k2⟩:=h.held_some hb
 refine⟨hn,hb,⟨h.laid.of (fun _=>rfl) (fun _=>rfl),h.norm,h.nodf,h.ep,h.ver,h.bitS,h.bitN,h.remw,h.remb,fun q hq =>?_,h.bagw,h.bagn,h.bagd,h.item,h.polw,h.poln,k1,k2,fun p c o j hs hj =>?_,h.gon⟩⟩
 .rw[yt]
  by_cases ti:q=i
  .left;simp[ti]
  .simp only[dA ti];exact h.cach q hq
 .have h1:=h.tok p c o j hs hj
  rw[yt,xV A i 0 (show 18≠12 by decide)]
  have h2:=Ym (A.w 12) i 0 (8*t) ((8*p+j*(c+1)+1:Nat):Int) hi
  rw[dA (show ¬ (0:Int)=((8*p+j*(c+1)+1:Nat):Int)by omega)]at h2
  by_cases hg:8*p+j*(c+1)=g
  .rw[dB (by rw[hw,hg])]at h2
   rw[hg]at h1 h2 |-
   rw[hn]at h1
   rw[xC]
   simp only[Option.isSome_none,Option.isSome_some,Bool.false_eq_true,if_false,if_true]at h1 |-
   omega
  .rw[dA (by rw[hw];omega)]at h2
   rw[upd_ne _ _ hg]
   omega
theorem HI.cache(h:HI n t A held S mp vr rem bag pl){i g:Nat}(hi:i<8*t)(hw:A.w 12 i=0)(hg:held g=some (.blk (i / 2%4))):HI n t (A.set 12 i ((g+1:Nat):Int)) (upd held g none) S mp vr rem bag pl:=by
 obtain⟨k1,k2⟩:=h.held_none hg
 refine⟨h.laid.of (fun _=>rfl) (fun _=>rfl),h.norm,h.nodf,h.ep,h.ver,h.bitS,h.bitN,h.remw,h.remb,fun q hq =>?_,h.bagw,h.bagn,h.bagd,h.item,h.polw,h.poln,k1,k2,fun p c o j hs hj =>?_,h.gon⟩
 .rw[yt]
  by_cases ti:q=i
  .right;exact⟨g,by simp[ti],by rw[ti];exact h.hblk g _ hg⟩
  .simp only[dA ti];exact h.cach q hq
 .have h1:=h.tok p c o j hs hj
  rw[yt,xV A i _ (show 18≠12 by decide)]
  have h2:=Ym (A.w 12) i ((g+1:Nat):Int) (8*t) ((8*p+j*(c+1)+1:Nat):Int) hi
  rw[dA (show ¬A.w 12 i=((8*p+j*(c+1)+1:Nat):Int)by rw[hw];omega)]at h2
  by_cases gf:8*p+j*(c+1)=g
  .rw[dB (by rw[gf])]at h2
   rw[gf]at h1 h2 |-
   rw[hg]at h1
   rw[xC]
   simp only[Option.isSome_none,Option.isSome_some,Bool.false_eq_true,if_false,if_true]at h1 |-
   omega
  .rw[dA (by omega)]at h2
   rw[upd_ne _ _ gf]
   omega
theorem HI.unitem(h:HI n t A held S mp vr rem bag pl){m k g:Nat}(hm:1<=m)(br:m<=nodesN n t)(hk:k<8)(hw:A.w 18 ((m-1)*8+k)=((g+1:Nat):Int)){x:Nat}(hx:x<4*t)(mh:m∈bag x) :
  held g=none/\isBlk S g (x%4)/\HI n t (A.set 18 ((m-1)*8+k) 0) (upd held g (some (.blk (x%4)))) S mp vr rem bag pl:=by
 have hi:(m-1)*8+k<8*nodesN n t:=by omega
 have hb:isBlk S g (x%4):=by
  rcases h.item m k hm br hk with h0|⟨y,g',hy,M8,h1,h2⟩
  .rw[hw]at h0;omega
  .rw[hw]at h1;obtain rfl:g=g':=by omega
   rw[h.bagd x y m hx hy mh M8];exact h2
 have hn:held g=none:=by
  obtain⟨p,o,j,h1,h2,h3,h4⟩:=h.places hb
  have:=xbw hi hw
  exact isSome_none (by omega)
 obtain⟨k1,k2⟩:=h.held_some hb
 refine⟨hn,hb,⟨h.laid.of (fun _=>rfl) (fun _=>rfl),h.norm,h.nodf,h.ep,h.ver,h.bitS,h.bitN,h.remw,h.remb,h.cach,h.bagw,h.bagn,h.bagd,fun m' k' h1 h2 h3 =>?_,h.polw,h.poln,k1,k2,fun p c o j hs hj =>?_,h.gon⟩⟩
 .rw[yt]
  by_cases ti:(m'-1)*8+k'=(m-1)*8+k
  .left;simp[ti]
  .simp only[dA ti];exact h.item m' k' h1 h2 h3
 .have h1:=h.tok p c o j hs hj
  rw[yt,xV A _ 0 (show 12≠18 by decide)]
  have h2:=Ym (A.w 18) ((m-1)*8+k) 0 (8*nodesN n t) ((8*p+j*(c+1)+1:Nat):Int) hi
  rw[dA (show ¬ (0:Int)=((8*p+j*(c+1)+1:Nat):Int)by omega)]at h2
  by_cases hg:8*p+j*(c+1)=g
  .rw[dB (by rw[hw,hg])]at h2
   rw[hg]at h1 h2 |-
   rw[hn]at h1
   rw[xC]
   simp only[Option.isSome_none,Option.isSome_some,Bool.false_eq_true,if_false,if_true]at h1 |-
   omega
  .rw[dA (by rw[hw];omega)]at h2
   rw[upd_ne _ _ hg]
   omega
theorem HI.additem(h:HI n t A held S mp vr rem bag pl){m k g:Nat}(hm:1<=m)(br:m<=nodesN n t)(hk:k<8)(hw:A.w 18 ((m-1)*8+k)=0){x:Nat}(hx:x<4*t)(mh:m∈bag x)(hg:held g=some (.blk (x%4))) :
  HI n t (A.set 18 ((m-1)*8+k) ((g+1:Nat):Int)) (upd held g none) S mp vr rem bag pl:=by
 have hi:(m-1)*8+k<8*nodesN n t:=by omega
 obtain⟨k1,k2⟩:=h.held_none hg
 refine⟨h.laid.of (fun _=>rfl) (fun _=>rfl),h.norm,h.nodf,h.ep,h.ver,h.bitS,h.bitN,h.remw,h.remb,h.cach,h.bagw,h.bagn,h.bagd,fun m' k' h1 h2 h3 =>?_,h.polw,h.poln,k1,k2,fun p c o j hs hj =>?_,h.gon⟩
 .rw[yt]
  by_cases ti:(m'-1)*8+k'=(m-1)*8+k
  .right
   obtain rfl:m'=m:=by omega
   exact⟨x,g,hx,mh,by simp[ti],h.hblk g _ hg⟩
  .simp only[dA ti];exact h.item m' k' h1 h2 h3
 .have h1:=h.tok p c o j hs hj
  rw[yt,xV A _ _ (show 12≠18 by decide)]
  have h2:=Ym (A.w 18) ((m-1)*8+k) ((g+1:Nat):Int) (8*nodesN n t) ((8*p+j*(c+1)+1:Nat):Int) hi
  rw[dA (show ¬A.w 18 ((m-1)*8+k)=((8*p+j*(c+1)+1:Nat):Int)by rw[hw];omega)]at h2
  by_cases gf:8*p+j*(c+1)=g
  .rw[dB (by rw[gf])]at h2
   rw[gf]at h1 h2 |-
   rw[hg]at h1
   rw[xC]
   simp only[Option.isSome_none,Option.isSome_some,Bool.false_eq_true,if_false,if_true]at h1 |-
   omega
  .rw[dA (by omega)]at h2
   rw[upd_ne _ _ gf]
   omega
def updN(f:Nat->Nat)(p x:Nat):Nat->Nat:=fun q=>if q=p then x else f q
theorem HI.unhome(h:HI n t A held S mp vr rem bag pl){p c o j m':Nat}(hs:slabAt S p=some (c,o))(hj:j<blc c)(pi:(mp p).testBit j=true)(hm:m'<2 ^ blc c)(ib : ∀i,m'.testBit i=((mp p).testBit i&&decide (i≠j))) :
  held (8*p+j*(c+1))=none/\HI n t (A.set 8 p (btw m' c (vr p))) (upd held (8*p+j*(c+1)) (some (.blk c))) S (updN mp p m') vr rem bag pl:=by
 have hb:isBlk S (8*p+j*(c+1)) c:=⟨p,o,j,hs,hj,rfl⟩
 have hn:held (8*p+j*(c+1))=none:=by
  have h4:=h.tok p c o j hs hj
  rw[pi,show b2n true=1 from rfl]at h4
  exact isSome_none (by omega)
 obtain⟨k1,k2⟩:=h.held_some hb
 refine⟨hn,⟨h.laid.of (fun _=>rfl) (fun _=>rfl),h.norm,h.nodf,h.ep,h.ver,fun q d o' hq =>?_,fun q hq fo =>?_,h.remw,h.remb,h.cach,h.bagw,h.bagn,h.bagd,h.item,h.polw,h.poln,k1,k2,fun q d o' i hq hi =>?_,h.gon⟩⟩
 .rw[yt]
  by_cases bf:q=p
  .subst bf
   rw[hs]at hq;cases hq
   simp only[updN,if_true]
   exact⟨hm,trivial⟩
  .simp only[updN,dA bf];exact h.bitS q d o' hq
 .rw[yt]
  have bf:q≠p:=fun hh=>by rw[hh,hs]at fo;cases fo
  simp only[dA bf];exact h.bitN q hq fo
 .have h1:=h.tok q d o' i hq hi
  rw[xV A _ _ (show 12≠8 by decide),xV A _ _ (show 18≠8 by decide)]
  by_cases bf:q=p
  .subst bf
   rw[hs]at hq;cases hq
   simp only[updN,if_true]
   rw[ib]
   by_cases dx:i=j
   .subst dx
    rw[hn,pi,show b2n true=1 from rfl]at h1
    rw[xC,pi]
    simp only[Option.isSome_none,Option.isSome_some,Bool.false_eq_true,if_false,if_true,ne_eq,not_true_eq_false,decide_false,Bool.and_false,show b2n false=0 from rfl]at h1 |-
    omega
   .rw[upd_ne _ _ (fun hh=>dx (xsl hh))]
    simp only[ne_eq,dx,not_false_eq_true,decide_true,Bool.and_true]
    exact h1
  .simp only[updN,dA bf]
   rw[upd_ne _ _ (fun hh=>bf (xxl hi hj hh))]
   exact h1
theorem HI.home(h:HI n t A held S mp vr rem bag pl){p c o j m':Nat}(hs:slabAt S p=some (c,o))(hj:j<blc c)(hg:held (8*p+j*(c+1))=some (.blk c))(hm:m'<2 ^ blc c)(ib : ∀i,m'.testBit i=((mp p).testBit i||decide (i=j))) :
  (mp p).testBit j=false/\HI n t (A.set 8 p (btw m' c (vr p))) (upd held (8*p+j*(c+1)) none) S (updN mp p m') vr rem bag pl:=by
 have pi:(mp p).testBit j=false:=by
  have h4:=h.tok p c o j hs hj
  rw[hg]at h4
  cases hh:(mp p).testBit j with
  | false=>rfl
  | true=>rw[hh,show b2n true=1 from rfl]at h4;simp at h4
 obtain⟨k1,k2⟩:=h.held_none hg
 refine⟨pi,⟨h.laid.of (fun _=>rfl) (fun _=>rfl),h.norm,h.nodf,h.ep,h.ver,fun q d o' hq =>?_,fun q hq fo =>?_,h.remw,h.remb,h.cach,h.bagw,h.bagn,h.bagd,h.item,h.polw,h.poln,k1,k2,fun q d o' i hq hi =>?_,h.gon⟩⟩
 .rw[yt]
  by_cases bf:q=p
  .subst bf
   rw[hs]at hq;cases hq
   simp only[updN,if_true]
   exact⟨hm,trivial⟩
  .simp only[updN,dA bf];exact h.bitS q d o' hq
 .rw[yt]
  have bf:q≠p:=fun hh=>by rw[hh,hs]at fo;cases fo
  simp only[dA bf];exact h.bitN q hq fo
 .have h1:=h.tok q d o' i hq hi
  rw[xV A _ _ (show 12≠8 by decide),xV A _ _ (show 18≠8 by decide)]
  by_cases bf:q=p
  .subst bf
   rw[hs]at hq;cases hq
   simp only[updN,if_true]
   rw[ib]
   by_cases dx:i=j
   .subst dx
    rw[hg,pi,show b2n false=0 from rfl]at h1
    rw[xC,pi]
    simp only[Option.isSome_none,Option.isSome_some,Bool.false_eq_true,if_false,if_true,decide_true,Bool.false_or,show b2n true=1 from rfl]at h1 |-
    omega
   .rw[upd_ne _ _ (fun hh=>dx (xsl hh))]
    simp only[dx,decide_false,Bool.or_false]
    exact h1
  .simp only[updN,dA bf]
   rw[upd_ne _ _ (fun hh=>bf (xxl hi hj hh))]
   exact h1
def updL(f:Nat->List Nat)(p:Nat)(x:List Nat):Nat->List Nat:=fun q=>if q=p then x else f q
theorem Ks{f:Nat->Int}{i:Nat}{v:Int} : ∀ {l:List Nat},i∉l->linked f l->linked (fun q=>if q=i then v else f q) l
 | [],_,_=>trivial
 | g::l,hi,h=>⟨by show(if g=i then v else f g)=hdw l;rw[dA (fun hh=>hi (by simp[hh]))];exact h.1,Ks (fun hh=>hi (by simp[hh])) h.2⟩
theorem HI.push(h:HI n t A held S mp vr rem bag pl){g c:Nat}(hg:held g=some (.blk c))(hp:g / 8<n):HI n t ((A.set 10 g (hdw (rem (g / 8)))).tick.set 9 (g / 8) ((g+1:Nat):Int)) (upd held g none) S mp vr (updL rem (g / 8) (g::rem (g / 8))) bag pl:=by
 have hb:=h.hblk g c hg
 obtain⟨k1,k2⟩:=h.held_none hg
 have Fp : ∀q,q<n->g∉rem q:=by
  intro q hq hm
  obtain⟨e,_⟩:=h.remb q hq g hm
  obtain⟨p,o,j,h1,h2,h3,h4⟩:=h.places hb
  have:=yi h2
  obtain rfl:p=q:=by omega
  have:=List.count_pos_iff.2 hm
  rw[hg]at h4
  simp only[Option.isSome_some,if_true]at h4
  omega
 refine⟨h.laid.of (fun _=>rfl) (fun _=>rfl),h.norm,h.nodf,h.ep,h.ver,h.bitS,h.bitN,fun q hq =>?_,fun q hq x hx =>?_,h.cach,h.bagw,h.bagn,h.bagd,h.item,h.polw,h.poln,k1,k2,fun q d o' i hq hi =>?_,h.gon⟩
 .rw[yt,xV _ _ _ (show 10≠9 by decide),AS.tick_w,yt,xV A _ _ (show 9≠10 by decide)]
  obtain⟨h1,h2⟩:=h.remw q hq
  by_cases bf:q=g / 8
  .subst bf
   simp only[updL,if_true]
   exact⟨rfl,by simp,Ks (Fp _ hq) h2⟩
  .simp only[updL,dA bf]
   exact⟨h1,Ks (Fp _ hq) h2⟩
 .by_cases bf:q=g / 8
  .subst bf
   simp only[updL,if_true,List.mem_cons]at hx
   rcases hx with rfl|hx
   .exact⟨rfl,c,hb⟩
   .exact h.remb _ hq x hx
  .simp only[updL,dA bf]at hx
   exact h.remb q hq x hx
 .have h1:=h.tok q d o' i hq hi
  have oa:=yi hi
  rw[xV _ _ _ (show 12≠9 by decide),xV _ _ _ (show 18≠9 by decide),AS.tick_w,xV A _ _ (show 12≠10 by decide),xV A _ _ (show 18≠10 by decide)]
  by_cases bf:q=g / 8
  .simp only[updL,dB bf]
   subst bf
   by_cases gf:8*(g / 8)+i*(d+1)=g
   .rw[gf]at h1 |-
    rw[hg]at h1
    rw[xC,List.count_cons_self]
    simp only[Option.isSome_none,Option.isSome_some,Bool.false_eq_true,if_false,if_true]at h1 |-
    omega
   .rw[upd_ne _ _ gf,List.count_cons_of_ne (fun hh=>gf hh.symm)]
    exact h1
  .simp only[updL,dA bf]
   rw[upd_ne _ _ (fun hh=>bf (by omega))]
   exact h1
theorem HI.drain(h:HI n t A held S mp vr rem bag pl){p c o:Nat}(hs:slabAt S p=some (c,o))(hp:p<n):(∀g∈rem p,held g=none)/\(rem p).Nodup/\
  HI n t (A.set 9 p 0) (fun g=>if g∈rem p then some (.blk c)else held g) S mp vr (updL rem p []) bag pl:=by
 have fu : ∀g∈rem p,isBlk S g c:=by
  intro g hg
  obtain⟨e,d,hb⟩:=h.remb p hp g hg
  obtain⟨o',j,h1,h2,h3⟩:=yj hb
  rw[e,hs]at h1;cases h1;exact hb
 have Dx : ∀g∈rem p,(rem p).count g=1/\held g=none:=by
  intro g hg
  obtain⟨q,o',j,h1,h2,h3,h4⟩:=h.places (fu g hg)
  obtain⟨e,_⟩:=h.remb p hp g hg
  have:=yi h2
  obtain rfl:q=p:=by omega
  have:=List.count_pos_iff.2 hg
  exact⟨by omega,isSome_none (by omega)⟩
 refine⟨fun g hg=>(Dx g hg).2,List.nodup_iff_count.2 fun g =>?_,⟨h.laid.of (fun _=>rfl) (fun _=>rfl),h.norm,h.nodf,h.ep,h.ver,h.bitS,h.bitN,fun q hq =>?_,fun q hq x hx =>?_,h.cach,h.bagw,h.bagn,h.bagd,h.item,h.polw,h.poln,fun g d hg =>?_,fun g k =>?_,fun q d o' i hq hi =>?_,h.gon⟩⟩
 .by_cases hg:g∈rem p
  .rw[(Dx g hg).1];exact dI _
  .rw[List.count_eq_zero.2 hg];omega
 .rw[yt,xV A _ _ (show 10≠9 by decide)]
  obtain⟨h1,h2⟩:=h.remw q hq
  by_cases bf:q=p
  .simp only[updL,dB bf];exact⟨rfl,trivial⟩
  .simp only[updL,dA bf];exact⟨h1,h2⟩
 .by_cases bf:q=p
  .simp only[updL,dB bf]at hx;cases hx
  .simp only[updL,dA bf]at hx;exact h.remb q hq x hx
 .by_cases hm:g∈rem p
  .rw[dB hm]at hg;cases hg;exact fu g hm
  .rw[dA hm]at hg;exact h.hblk g d hg
 .by_cases hm:g∈rem p
  .rw[dB hm]
   obtain⟨o',j,h1,_⟩:=yj (fu g hm)
   rw[yN h1];simp
  .rw[dA hm];exact h.hrun g k
 .have h1:=h.tok q d o' i hq hi
  rw[xV A _ _ (show 12≠9 by decide),xV A _ _ (show 18≠9 by decide)]
  by_cases hm:8*q+i*(d+1)∈rem p
  .obtain⟨e,_⟩:=h.remb p hp _ hm
   have:=yi hi
   obtain rfl:q=p:=by omega
   obtain⟨g1,g2⟩:=Dx _ hm
   rw[g1,g2]at h1
   simp only[updL,if_true,dB hm,List.count_nil]
   simp only[Option.isSome_none,Option.isSome_some,Bool.false_eq_true,if_false,if_true]at h1 |-
   omega
  .by_cases bf:q=p
   .subst bf
    simp only[updL,if_true,dA hm,List.count_nil]
    rw[List.count_eq_zero.2 hm]at h1
    exact h1
   .simp only[updL,dA bf,dA hm];exact h1
end
end
section
open Go Go.RowKit Lx
section
variable{n t:Nat}(hf:Few n t){A:AS}{held:Nat->Option HK}{S:List Sg}{mp vr:Nat->Nat}{rem bag:Nat->List Nat}{pl:List Nat}
include hf
theorem at0:atF (xd n t) 0 0=((Br n t 0+0:Nat):Int):=wx hf (r:=0) (i:=0) (by omega) (by simp[Zr])
theorem at1:atF (xd n t) 1 0=((Br n t 1+0:Nat):Int):=wx hf (r:=1) (i:=0) (by omega) (by simp[Zr])
theorem at4:atF (xd n t) 4 0=((Br n t 4+0:Nat):Int):=wx hf (r:=4) (i:=0) (by omega) (by simp[Zr])
theorem at5{c:Nat}(hc:c<4):atF (xd n t) 5 (c:Int)=((Br n t 5+c:Nat):Int):=wx hf (r:=5) (by omega) (by simpa[Zr]using hc)
theorem at8{p:Nat}(hp:p<n):atF (xd n t) 8 (p:Int)=((Br n t 8+p:Nat):Int):=wx hf (by omega) hp
theorem at9{p:Nat}(hp:p<n):atF (xd n t) 9 (p:Int)=((Br n t 9+p:Nat):Int):=wx hf (by omega) hp
theorem at10{g:Nat}(hg:g<n*8):atF (xd n t) 10 (g:Int)=((Br n t 10+g:Nat):Int):=wx hf (by omega) hg
theorem at11{g:Nat}(hg:g<n*8):atF (xd n t) 11 (g:Int)=((Br n t 11+g:Nat):Int):=wx hf (by omega) hg
theorem at12{th c s:Nat}(ht:th<t)(hc:c<4)(hs:s<2):atF (xd n t) 12 (inF (inF (th:Int) (c:Int) 4) (s:Int) 2)=((Br n t 12+((th*4+c)*2+s):Nat):Int):=by
 have:=hf.t2
 have e1:=xic (a:=th) (k:=c) (m:=4) (by omega) hc (by omega)
 have e2:=xic (a:=th*4+c) (k:=s) (m:=2) (by omega) hs (by omega)
 rw[show((4:Int))=((4:Nat):Int)from rfl,e1,show((2:Int))=((2:Nat):Int)from rfl,e2]
 exact wx hf (by omega) (by show _<t*4*2;omega)
theorem at13{th c:Nat}(ht:th<t)(hc:c<4):atF (xd n t) 13 (inF (th:Int) (c:Int) 4)=((Br n t 13+(th*4+c):Nat):Int):=by
 have:=hf.t2
 rw[show((4:Int))=((4:Nat):Int)from rfl,xic (a:=th) (k:=c) (m:=4) (by omega) hc (by omega)]
 exact wx hf (by omega) (by show _<t*4;omega)
theorem at14{th s:Nat}(ht:th<t)(hs:s<2):atF (xd n t) 14 (inF (th:Int) (s:Int) 2)=((Br n t 14+(th*2+s):Nat):Int):=by
 have:=hf.t2
 rw[show((2:Int))=((2:Nat):Int)from rfl,xic (a:=th) (k:=s) (m:=2) (by omega) hs (by omega)]
 exact wx hf (by omega) (by show _<t*2;omega)
theorem at15{th:Nat}(ht:th<t):atF (xd n t) 15 (th:Int)=((Br n t 15+th:Nat):Int):=wx hf (by omega) ht
theorem at17{m:Nat}(hm:1<=m)(br:m<=nodesN n t):atF (xd n t) 17 (inF (i64.wrap ((m:Int)-1)) 0 1)=((Br n t 17+(m-1):Nat):Int):=by
 have hn:=xbr hf.n2 hf.t2
 have e:i64.wrap ((m:Int)-1)=((m-1:Nat):Int):=by rw[w64 (by omega) (by omega)];omega
 have e1:=xic (a:=m-1) (k:=0) (m:=1) (by omega) (by omega) (by omega)
 rw[e]
 rw[show((1:Int))=((1:Nat):Int)from rfl,show((0:Int))=((0:Nat):Int)from rfl,e1,Nat.mul_one,Nat.add_zero]
 exact wx hf (by omega) (by show _<nodesN n t;omega)
theorem at18{m k:Nat}(hm:1<=m)(br:m<=nodesN n t)(hk:k<8):atF (xd n t) 18 (inF (i64.wrap ((m:Int)-1)) (k:Int) 8)=((Br n t 18+((m-1)*8+k):Nat):Int):=by
 have hn:=xbr hf.n2 hf.t2
 have e:i64.wrap ((m:Int)-1)=((m-1:Nat):Int):=by rw[w64 (by omega) (by omega)];omega
 have e1:=xic (a:=m-1) (k:=k) (m:=8) (by omega) hk (by omega)
 rw[e,show((8:Int))=((8:Nat):Int)from rfl,e1]
 exact wx hf (by omega) (by show _<nodesN n t*8;omega)
theorem xc6(h:HI n t A held S mp vr rem bag pl){th c:Nat}(ht:th<t)(hc:c<4):Rn n t (Zv (xd n t) (th:Int) (c:Int)) A fun r A'=>
  (∃g,r=(((g+1:Nat):Int),true)/\held g=none/\isBlk S g c/\HI n t A' (upd held g (some (.blk c))) S mp vr rem bag pl/\Fr [12] 4 A A'/\LessB 12 ((th*4+c)*2) 2 A A')\/
  (r=(0,false)/\Fr [] 2 A A'/\A.w 12 ((th*4+c)*2)=0/\A.w 12 ((th*4+c)*2+1)=0):=by
 have a0:=at12 hf (s:=0) ht hc (by omega)
 have a1:=at12 hf (s:=1) ht hc (by omega)
 rw[show(((0:Nat)):Int)=0 from rfl]at a0
 rw[show(((1:Nat)):Int)=1 from rfl]at a1
 have got : ∀s,s<2 ->∀B:AS,B.w=A.w->A.w 12 ((th*4+c)*2+s)≠0 ->∀d,Fr [] d A B->d<=2 ->∃g,(A.w 12 ((th*4+c)*2+s),true)=(((g+1:Nat):Int),true)/\held g=none/\isBlk S g c/\HI n t (B.set 12 ((th*4+c)*2+s) 0).tick (upd held g (some (.blk c))) S mp vr rem bag pl/\Fr [12] 4 A (B.set 12 ((th*4+c)*2+s) 0).tick/\LessB 12 ((th*4+c)*2) 2 A (B.set 12 ((th*4+c)*2+s) 0).tick:=by
  intro s hs B hB aq d ao hd
  have hi:(th*4+c)*2+s<8*t:=by omega
  rcases h.cach _ hi with h0|⟨g,h1,h2⟩
  .exact absurd h0 aq
  .have hB':HI n t B held S mp vr rem bag pl:=h.same fun r i _=>by rw[hB]
   obtain⟨k1,k2,k3⟩:=hB'.uncache hi (by rw[hB];exact h1)
   have e:((th*4+c)*2+s) / 2%4=c:=by omega
   rw[e]at k2 k3
   exact⟨g,by rw[h1],k1,k2,k3.same fun r i _=>rfl,ao.trans (Fr.sett (R :=[12]) _ _ (by simp)),s,hs,aq,fun q=>by simp[hB]⟩
 have co:(th*4+c)*2+1<Zr n t 12:=by show _<t*4*2;omega
 have Bo:(th*4+c)*2+0<Zr n t 12:=by show _<t*4*2;omega
 unfold Zv xeh xlo
 refine Rn.no (by rw[dF,a0];omega) ?_
 refine Rn.load a0 (by omega) Bo ?_
 refine Rn.cond (fun hx =>?_) (fun hx =>?_)
 .refine Rn.cas a0 (by omega) Bo rfl ?_
  refine Rn.yes rfl (Rn.ret (.inl ?_))
  exact got 0 (by omega) A.tick rfl (by simpa using hx) 1 (Fr.tick [] A) (by omega)
 .refine Rn.no (by rw[dF,a1];omega) ?_
  refine Rn.load a1 (by omega) co ?_
  refine Rn.cond (fun hy =>?_) (fun hy =>?_)
  .refine Rn.cas a1 (by omega) co rfl ?_
   refine Rn.yes rfl (Rn.ret (.inl ?_))
   exact got 1 (by omega) A.tick.tick rfl (by simpa using hy) 2 ((Fr.tick [] A).trans (Fr.tick [] _)) (by omega)
  .exact Rn.ret (.inr ⟨rfl,(Fr.tick [] A).trans (Fr.tick [] _),by simpa using hx,by simpa using hy⟩)
theorem xv0(h:HI n t A held S mp vr rem bag pl){th c:Nat}(hs:A.self=(th:Int))(ht:th<t)(hc:c<4)(o:Int)(hn:n*8<=2048)(hS:plen S=n):Rn n t (YQ (xd n t) o (c:Int)) A fun r A'=>
  (∃g:Nat,r=(⟨(g:Int),true,0⟩,o)/\held g=none/\isBlk S g c/\HI n t A' (upd held g (some (.blk c))) S mp vr rem bag pl/\Fr [12] 4 A A')\/
  (r.1.ok=false/\r.1.e=0/\r.2=o/\Fr [] 2 A A'):=by
 unfold YQ xai qz KS
 simp only[T.bind]
 refine Rn.self ?_
 rw[hs,T.bind_assoc]
 refine Rn.bind (xc6 hf h ht hc) ?_
 rintro r A1 (⟨g,rfl,h1,h2,h3,h4,_⟩|⟨rfl,h1,_,_⟩)
 .refine Rn.ret (.inl ⟨g,?_,h1,h2,h3,h4⟩)
  obtain⟨p,o',j,q1,q2,rfl⟩:=h2
  have:=yi q2
  have:=WV q1
  have e:i64.wrap (i64.wrap ((8*p+j*(c+1)+1:Nat):Int)-1)=((8*p+j*(c+1):Nat):Int):=by
   generalize j*(c+1)=x at *
   rw[wN _ (by omega),w64 (by omega) (by omega)];omega
  simp only[e]
 .exact Rn.ret (.inr ⟨rfl,rfl,rfl,h1⟩)
theorem xBY(h:HI n t A held S mp vr rem bag pl){th c g:Nat}(hs:A.self=(th:Int))(ht:th<t)(hc:c<4)(hg:held g=some (.blk c)):Rn n t (xjF (xd n t) (c:Int) ((g+1:Nat):Int)) A fun r A'=>
  (r=true/\HI n t A' (upd held g none) S mp vr rem bag pl/\Fr [12] 2 A A')\/(r=false/\Fr [] 2 A A'):=by
 have a0:=at12 hf (s:=0) ht hc (by omega)
 have a1:=at12 hf (s:=1) ht hc (by omega)
 rw[show(((0:Nat)):Int)=0 from rfl]at a0
 rw[show(((1:Nat)):Int)=1 from rfl]at a1
 have co:(th*4+c)*2+1<Zr n t 12:=by show _<t*4*2;omega
 have Bo:(th*4+c)*2+0<Zr n t 12:=by show _<t*4*2;omega
 have put : ∀s,s<2 ->∀B:AS,B.w=A.w->A.w 12 ((th*4+c)*2+s)=0->HI n t (B.set 12 ((th*4+c)*2+s) ((g+1:Nat):Int)).tick (upd held g none) S mp vr rem bag pl:=by
  intro s hs B hB hz
  have hi:(th*4+c)*2+s<8*t:=by omega
  have hB':HI n t B held S mp vr rem bag pl:=h.same fun r i _=>by rw[hB]
  have e:((th*4+c)*2+s) / 2%4=c:=by omega
  exact(hB'.cache hi (by rw[hB];exact hz) (by rw[e];exact hg)).same fun r i _=>rfl
 unfold xjF xln
 refine Rn.self ?_
 rw[hs]
 refine Rn.no (by simp;omega) ?_
 refine Rn.no (by rw[dF,a0];omega) ?_
 by_cases hz:A.w 12 ((th*4+c)*2+0)=0
 .refine Rn.cas a0 (by omega) Bo hz ?_
  exact Rn.yes rfl (Rn.ret (.inl ⟨rfl,put 0 (by omega) A rfl hz,(Fr.sett (R :=[12]) _ _ (by simp)).mono⟩))
 .refine Rn.cas_not a0 (by omega) Bo hz (Rn.no rfl ?_)
  refine Rn.self ?_
  rw[AS.tick_self,hs]
  refine Rn.no (by simp;omega) ?_
  refine Rn.no (by rw[dF,a1];omega) ?_
  by_cases tf:A.w 12 ((th*4+c)*2+1)=0
  .refine Rn.cas a1 (by omega) co tf ?_
   exact Rn.yes rfl (Rn.ret (.inl ⟨rfl,put 1 (by omega) A.tick rfl tf,(Fr.tick [] A).trans (Fr.sett (R :=[12]) _ _ (by simp))⟩))
  .exact Rn.cas_not a1 (by omega) co tf (Rn.no rfl (Rn.ret (.inr ⟨rfl,(Fr.tick [] A).trans (Fr.tick [] _)⟩)))
end
end
section
open Go Go.RowKit Lx
theorem Zj : ∀ (N:Nat) (l:List Nat),l.Nodup->(∀x∈l,1<=x/\x<=N)->l.length<=N
 | 0,l,h,hl=>by
  cases l with
  | nil=>simp
  | cons x l=>have:=hl x (by simp);omega
 | N+1,l,h,hl=>by
  by_cases hm:N+1∈l
  .have h1:=Zj N (l.erase (N+1)) (h.erase _) fun x hx=>by
    have tg:=(h.mem_erase_iff).1 hx
    have:=hl x tg.2
    have:=tg.1
    omega
   rw[List.length_erase_of_mem hm]at h1
   omega
  .have:=Zj N l h fun x hx=>by
    have:=hl x hx
    have:x≠N+1:=fun hh=>hm (hh▸hx)
    omega
   omega
theorem jh{x:Nat}(h:x<16777216):xkC (x:Int)=⟨(x:Int),false,0⟩:=by
 rw[xkL x (by omega)]
 have e1:x%16777216=x:=Nat.mod_eq_of_lt h
 have e2:x / 16777216%2=0:=by omega
 have e3:x / 4294967296%4294967296=0:=by omega
 rw[e1,e2,e3];rfl
theorem Xk{N:Nat}{l:List Nat}(h : ∀m∈l,1<=m/\m<=N):hdn l<=N:=by
 cases l with
 | nil=>exact Nat.zero_le _
 | cons m l=>exact(h m (by simp)).2
structure Small(n t:Nat):Prop extends Few n t where
 nodes:nodesN n t<4000
section
variable{n t:Nat}(hf:Small n t){A:AS}{held:Nat->Option HK}{S:List Sg}{mp vr:Nat->Nat}{rem bag:Nat->List Nat}{pl:List Nat}
include hf
theorem Xl{A:AS}{k:Nat}:(kO (xd n t) (k:Int)).run (xo n t) A=some (false,A):=by
 have:=hf.n1
 unfold kO xam xgh xew
 rw[show((xd n t).pages==0)=false by show(((n:Nat):Int)==0)=false;simp;omega]
 have e:((-1:Int)==(k:Int))=false:=dO.2 (by omega)
 simp only[cond_false]
 unfold XD YN
 first
  | (simp only[e,cond_false,T.bind,T.run];rfl)
  | rfl
theorem xsm{r i a:Nat}(hr:r<19)(Jz:r≠14)(hi:i<Zr n t r)(ha:a=Br n t r+i){th s:Nat}(hs:s<2)(ht:th<t)(aa:A.self=(th:Int)):Rn n t (xds (xd n t) (s:Int) (a:Int)) A fun x A'=>x=xkC (A.w r i)/\Fr [14] 3 A A':=by
 subst ha
 have hb:=kU n t (show r+1<=19 by omega)
 have cm:Br n t (r+1)=Br n t r+Zr n t r:=rfl
 unfold xds xmN
 refine Rn.self ?_
 rw[aa,at14 hf.toFew ht hs]
 refine Rn.run (Xl hf) (Rn.no rfl ?_)
 refine Rn.no (by rw[dF];omega) ?_
 refine Rn.no (by rw[dF];show ¬ (((Br n t r+i:Nat):Int)>=((Br n t 19:Nat):Int));omega) ?_
 refine Rn.load rfl hr hi ?_
 unfold jA
 rw[show xa=4095+1 from rfl,xu]
 unfold xgH
 refine Rn.self ?_
 rw[AS.tick_self,aa]
 refine Rn.store (at14 hf.toFew ht hs) (by omega) (by show _<t*2;omega) ?_
 refine Rn.load rfl hr hi ?_
 have e:((A.tick.set 14 (th*2+s) (u64.wrap (ofW i64 (A.w r i) 0 24))).tick).w r i=A.w r i:=by
  rw[AS.tick_w,xV _ _ _ Jz];rfl
 rw[e]
 refine Rn.yes (by simp) (Rn.ret ⟨rfl,?_⟩)
 exact((Fr.tick [] A).trans (Fr.sett (R :=[14]) _ _ (by simp)) (S :=[14]) (e:=2)).trans (Fr.tick [] _)
theorem xil{th:Nat}(ht:th<t)(aa:A.self=(th:Int)):Rn n t (ZJ (xd n t)) A fun _ A'=>Fr [14] 2 A A':=by
 have one : ∀ (B:AS) (s:Nat),B.self=(th:Int)->s<2->(VK (xd n t) (s:Int)).run (xo n t) B=some ((),(B.set 14 (th*2+s) 0).tick):=by
  intro B s hB hs
  unfold VK xeL
  simp only[T.run,xo,hB,at14 hf.toFew ht hs,T.run_bind,Xl hf,Bool.not_false,cond_true]
  rw[xK (show th*2+s<Zr n t 14 by show _<t*2;omega) 19 (by omega)]
 unfold ZJ xaH
 refine Rn.run (one A 0 aa (by omega)) (Rn.run (one _ 1 (by simpa using aa) (by omega)) (Rn.ret ?_))
 exact(Fr.sett (R :=[14]) _ _ (by simp)).trans (Fr.sett (R :=[14]) _ _ (by simp))
def Yn(A:AS)(m:Nat):Prop :=∀k,k<8->A.w 18 ((m-1)*8+k)=0
theorem xsn(h:HI n t A held S mp vr rem bag pl){m x:Nat}(hm:1<=m)(br:m<=nodesN n t)(hx:x<4*t)(mh:m∈bag x):Rn n t (jt (xd n t) (m:Int)) A fun r A'=>
  (∃g:Nat,r=(((g+1:Nat):Int),true)/\held g=none/\isBlk S g (x%4)/\HI n t A' (upd held g (some (.blk (x%4)))) S mp vr rem bag pl/\Fr [18] 10 A A'/\LessB 18 0 (8*nodesN n t) A A')\/(r=(0,false)/\Fr [] 8 A A'/\Yn A m):=by
 unfold jt YE wh
 refine Rn.loop (fun r i A' =>∃k:Nat,i=(k:Int)/\k<=8/\r=8-k/\Fr [] k A A'/\ ∀j,j<k->A.w 18 ((m-1)*8+j)=0) ?_ xa 8 0 A (by unfold xa;omega) ⟨0,rfl,by omega,rfl,Fr.refl _ _,fun j hj=>by omega⟩
 rintro r i A1 κ ⟨k,rfl,hk,rfl,ao,hz⟩ hκ
 unfold qd
 by_cases K7:k<8
 .refine Rn.yes (by rw[dT];omega) ?_
  have ha:=at18 hf.toFew hm br K7
  have hi:(m-1)*8+k<Zr n t 18:=by show _<nodesN n t*8;omega
  refine Rn.load ha (by omega) hi ?_
  have hw:A1.w 18 ((m-1)*8+k)=A.w 18 ((m-1)*8+k):=ao.w 18 (by simp) _
  rw[hw]
  refine Rn.cond (fun nf =>?_) (fun nf =>?_)
  .refine Rn.cas ha (by omega) hi (by rw[AS.tick_w];exact hw) ?_
   refine Rn.yes rfl (Rn.ret (.inl ?_))
   have aq:A.w 18 ((m-1)*8+k)≠0:=by simpa using nf
   rcases h.item m k hm br K7 with h0|⟨y,g,hy,M8,h1,h2⟩
   .exact absurd h0 aq
   .have hB:HI n t A1.tick held S mp vr rem bag pl:=h.same fun r i _=>by rw[AS.tick_w];exact ao.w r (by simp) i
    obtain⟨k1,k2,k3⟩:=hB.unitem hm br K7 (by rw[AS.tick_w,hw];exact h1) hx mh
    exact⟨g,by rw[h1],k1,k2,k3.same fun r i _=>rfl,(ao.trans (Fr.tick [] _) (S :=[]) (e:=k+1)).trans (Fr.sett (R :=[18]) _ _ (by simp)),(m-1)*8+k,by omega,by rw[Nat.zero_add];exact aq,fun q=>by simp only[AS.tick_w,AS.set_w,true_and,Nat.zero_add];rw[ao.w 18 (by simp)]⟩
  .rw[xL hf.toFew (x:=k) (by omega)]
   refine hκ (8-(k+1)) _ _ (by omega) ⟨k+1,rfl,by omega,rfl,ao.trans (Fr.tick [] _),fun j hj =>?_⟩
   by_cases Dn:j=k
   .subst Dn;simpa using nf
   .exact hz j (by omega)
 .refine Rn.no (by rw[dF];omega) (Rn.ret (.inr ⟨rfl,ao.mono,fun j hj=>hz j (by omega)⟩))
theorem xBZ(h:HI n t A held S mp vr rem bag pl){th c me:Nat}(ht:th<t)(hc:c<4)(ah:me<t)(aa:A.self=(me:Int)):Rn n t (xj2 (xd n t) (c:Int) (th:Int)) A fun r A'=>
  (∃g:Nat,r=(((g+1:Nat):Int),true)/\held g=none/\isBlk S g c/\HI n t A' (upd held g (some (.blk c))) S mp vr rem bag pl/\Fr [14,18] 60000 A A'/\LessB 18 0 (8*nodesN n t) A A')\/(r=(0,false)/\Fr [14] 60000 A A'/\ ∀m∈bag (th*4+c),Yn A m):=by
 have hx:th*4+c<4*t:=by omega
 have Aa:(th*4+c)%4=c:=by omega
 have hN:=hf.nodes
 obtain⟨C0,nv⟩:=h.bagw _ hx
 obtain⟨cf,d9⟩:=h.bagn _ hx
 have af:=Zj _ _ cf d9
 unfold xj2 xm9 jG
 rw[show xa=4095+1 from rfl,xu]
 unfold xg1
 rw[at13 hf.toFew ht hc]
 refine Rn.bind (xsm hf (r:=13) (i:=th*4+c) (s:=0) (by omega) (by omega) (by show _<t*4;omega) rfl (by omega) ah aa) ?_
 rintro x A1 ⟨rfl,ao⟩
 rw[C0,jh (by have:=Xk d9;omega)]
 unfold jE
 refine Rn.loop (fun r i A' =>∃L1 L2 s,bag (th*4+c)=L1++L2/\r=L2.length/\s<2/\i.1=((s:Nat):Int)/\i.2.1=(hdn L2:Int)/\linkedN (A.w 17) L2/\Fr [14] (3+11*L1.length) A A'/\ ∀m∈L1,Yn A m) ?_ (4095+1) (bag (th*4+c)).length _ A1 (by omega) ⟨[],bag (th*4+c),0,rfl,rfl,by omega,rfl,rfl,nv,ao.mono (by simp) (by simp),fun m hm=>by cases hm⟩
 rintro r ⟨i1,i2,i3,i4⟩ A2 κ ⟨L1,L2,s,hL,rfl,hs,co,dy,u7,ae,hz⟩ hκ
 simp only at co dy
 subst co dy
 have hL1:L1.length<=4000:=by rw[hL]at af;simp at af;omega
 unfold xg0
 simp only
 cases L2 with
 | nil=>
  refine Rn.no (by simp[hdn]) (Rn.ret (.inr ⟨rfl,ae.mono,fun m hm=>hz m (by rw[hL,List.append_nil]at hm;exact hm)⟩))
 | cons m L2=>
  have bi:m∈bag (th*4+c):=by rw[hL];simp
  obtain⟨nu,br⟩:=d9 m bi
  have h2:HI n t A2 held S mp vr rem bag pl:=h.fr ae (by simp)
  refine Rn.yes (by simp[hdn];omega) ?_
  show Rn n t ((jt (xd n t) (m:Int)).bind _) _ _
  refine Rn.bind (xsn hf h2 nu br hx bi) ?_
  rintro r A3 (⟨g,rfl,k1,k2,k3,k4,k5⟩|⟨rfl,k1,k2⟩)
  .rw[Aa]at k2 k3
   exact Rn.yes rfl (Rn.ret (.inl ⟨g,rfl,k1,k2,k3,ae.trans k4,k5.of (ae.w 18 (by simp)) (fun _=>rfl)⟩))
  .refine Rn.no rfl ?_
   have e1:i64.wrap (1-(s:Int))=((1-s:Nat):Int):=by rw[w64 (by omega) (by omega)];omega
   have mo:A3.self=(me:Int):=by rw[k1.self,ae.self,aa]
   show Rn n t ((xds (xd n t) (i64.wrap (1-(s:Int))) (atF (xd n t) 17 (inF (i64.wrap ((m:Int)-1)) 0 1))).bind _) _ _
   rw[e1,at17 hf.toFew nu br]
   refine Rn.bind (xsm hf (r:=17) (i:=m-1) (s:=1-s) (by omega) (by omega) (by show _<nodesN n t;omega) rfl (by omega) ah mo) ?_
   rintro x A4 ⟨rfl,cr⟩
   have e2:A3.w 17 (m-1)=(hdn L2:Int):=by rw[k1.w 17 (by simp),ae.w 17 (by simp)];exact u7.1
   have dv : ∀y∈L2,1<=y/\y<=nodesN n t:=fun y hy=>d9 y (by rw[hL];simp[hy])
   rw[e2,jh (by have:=Xk dv;omega)]
   refine Rn.no rfl ?_
   refine hκ L2.length _ _ (by simp) ⟨L1 ++ [m],L2,1-s,by rw[hL];simp,rfl,by omega,rfl,rfl,u7.2,(ae.trans k1 (S :=[14]) (e:=3+11*L1.length+8)).trans cr (by simp) (by simp) (by simp;omega),fun y hy =>?_⟩
   rcases List.mem_append.1 hy with hy|hy
   .exact hz y hy
   .simp only[List.mem_singleton]at hy
    subst hy
    exact fun k hk=>by rw[<- ae.w 18 (by simp)];exact k2 k hk
end
end
section
open Go Go.RowKit Lx
theorem yy{f:Nat->Int}{i:Nat}{v:Int} : ∀ {l:List Nat},(∀m∈l,m-1≠i)->linkedN f l->linkedN (fun q=>if q=i then v else f q) l
 | [],_,_=>trivial
 | m::l,hi,h=>⟨by show(if m-1=i then v else f (m-1))=_;rw[dA (hi m (by simp))];exact h.1,yy (fun x hx=>hi x (by simp[hx])) h.2⟩
section
variable{n t:Nat}(hf:Small n t){A:AS}{held:Nat->Option HK}{S:List Sg}{mp vr:Nat->Nat}{rem bag:Nat->List Nat}{pl:List Nat}
include hf
theorem xc7{me c:Nat}(ah:me<t)(hc:c<4)(aa:A.self=(me:Int)):(XA (xd n t) (c:Int)).run (xo n t) A=some (false,A):=by
 unfold XA xek
 simp only[T.run,xo,aa,at13 hf.toFew ah hc]
 rw[show(((Br n t 13+(me*4+c):Nat):Int) == -1)=false from dO.2 (by omega)]
theorem xkP(h:HI n t A held S mp vr rem bag pl){me c:Nat}(hc:c<4)(ah:me<t)(aa:A.self=(me:Int)):Rn n t (ZK (xd n t) (c:Int)) A fun r A'=>
  (∃g:Nat,r=(((g+1:Nat):Int),true)/\held g=none/\isBlk S g c/\HI n t A' (upd held g (some (.blk c))) S mp vr rem bag pl/\Fr [14,18] 5000000 A A'/\LessB 18 0 (8*nodesN n t) A A')\/(r=(0,false)/\Fr [14] 5000000 A A'/\ ∀x,x<4*t->x%4=c ->∀m∈bag x,Yn A m):=by
 have zj:=hf.t2
 unfold ZK xeT
 refine Rn.run (xc7 hf ah hc aa) (Rn.no rfl ?_)
 unfold wT
 rw[show xa=4095+1 from rfl,xu]
 unfold xcG
 refine Rn.load (at5 hf.toFew hc) (by omega) (by simpa[Zr]using hc) ?_
 unfold wS
 refine Rn.loop (fun r i A' =>∃k:Nat,i=(k:Int)/\k<=t/\r=t-k/\Fr [14] (1+60000*k) A A'/\ ∀j,j<k ->∀m∈bag ((me+j)%t*4+c),Yn A m) ?_ (4095+1) t _ A.tick (by omega) ⟨0,rfl,by omega,rfl,(Fr.tick [] A).mono,fun j hj=>by omega⟩
 rintro r i A1 κ ⟨k,rfl,hk,rfl,ao,hz⟩ hκ
 unfold xcF
 by_cases hkt:k<t
 .refine Rn.yes (by rw[dT];show((k:Nat):Int)<((t:Nat):Int);omega) ?_
  have f9:A1.self=(me:Int):=by rw[ao.self,aa]
  refine Rn.self ?_
  rw[f9]
  refine Rn.yes (by show(bif (((t:Nat):Int)==0)then false else true)=true;rw[dO.2 (by omega)];rfl) ?_
  have e:Int.tmod (i64.wrap ((me:Int)+(k:Int))) (xd n t).threads=(((me+k)%t:Nat):Int):=by
   rw[wrap_add hf.toFew (by omega),dR (by omega)];rfl
  rw[e]
  have h1:HI n t A1 held S mp vr rem bag pl:=h.fr ao (by simp)
  refine Rn.bind (xBZ hf h1 (th:=(me+k)%t) (Nat.mod_lt _ (by omega)) hc ah f9) ?_
  rintro r A2 (⟨g,rfl,k1,k2,k3,k4,k6⟩|⟨rfl,k1,k2⟩)
  .refine Rn.yes rfl ?_
   have i7:A2.self=(me:Int):=by rw[k4.self,f9]
   refine Rn.bind (xil hf ah i7) ?_
   rintro _ A3 k5
   exact Rn.ret (.inl ⟨g,rfl,k1,k2,k3.fr k5 (by simp),(ao.trans k4 (S :=[14,18]) (e:=1+60000*k+60000)).trans k5,k6.of (ao.w 18 (by simp)) (k5.w 18 (by simp))⟩)
  .refine Rn.no rfl ?_
   rw[xL hf.toFew (x:=k) (by omega)]
   refine hκ (t-(k+1)) _ _ (by omega) ⟨k+1,rfl,by omega,rfl,ao.trans k1,fun j hj =>?_⟩
   by_cases Dn:j=k
   .subst Dn;exact fun m hm i hi=>by rw[<- ao.w 18 (by simp)];exact k2 m hm i hi
   .exact hz j (by omega)
 .refine Rn.no (by rw[dF];show ¬ ((k:Nat):Int)<((t:Nat):Int);omega) ?_
  refine Rn.load (at5 hf.toFew hc) (by omega) (by simpa[Zr]using hc) ?_
  refine Rn.yes (by rw[ao.w 5 (by simp)];simp) ?_
  have f9:A1.tick.self=(me:Int):=by rw[AS.tick_self,ao.self,aa]
  refine Rn.bind (xil hf ah f9) ?_
  rintro _ A3 k5
  refine Rn.ret (.inr ⟨rfl,(ao.trans (Fr.tick [] A1) (S :=[14]) (e:=1+60000*k+1)).trans k5,fun x hx Aa m hm =>?_⟩)
  have hq:x / 4<t:=by omega
  by_cases ff:me<=x / 4
  .refine hz (x / 4-me) (by omega) m ?_
   rw[show me+(x / 4-me)=x / 4 by omega,Nat.mod_eq_of_lt hq,show x / 4*4+c=x by omega];exact hm
  .refine hz (x / 4+t-me) (by omega) m ?_
   rw[show me+(x / 4+t-me)=x / 4+t by omega,Nat.add_mod_right,Nat.mod_eq_of_lt hq,show x / 4*4+c=x by omega];exact hm
theorem xzD(h:HI n t A held S mp vr rem bag pl){m x g:Nat}(hm:1<=m)(br:m<=nodesN n t)(hx:x<4*t)(mh:m∈bag x)(hg:held g=some (.blk (x%4))):Rn n t (Vs (xd n t) (m:Int) ((g+1:Nat):Int)) A fun r A'=>
  (r=true/\HI n t A' (upd held g none) S mp vr rem bag pl/\Fr [18] 10 A A')\/(r=false/\Fr [] 8 A A'):=by
 have step : ∀ (k:Nat),k<8 ->∀ (B:AS),Fr [] k A B ->∀ (X:T Bool),(∀B',Fr [] (k+1) A B'->Rn n t X B' fun r A'=>(r=true/\HI n t A' (upd held g none) S mp vr rem bag pl/\Fr [18] 10 A A')\/(r=false/\Fr [] 8 A A'))->
   Rn n t (.op (.load (atF (xd n t) 18 (inF (i64.wrap ((m:Int)-1)) (k:Int) 8))) fun x0=>bif x0==0 then(.op (.store (atF (xd n t) 18 (inF (i64.wrap ((m:Int)-1)) (k:Int) 8)) ((g+1:Nat):Int)) fun _ =>.ret true)else X) B fun r A'=>(r=true/\HI n t A' (upd held g none) S mp vr rem bag pl/\Fr [18] 10 A A')\/(r=false/\Fr [] 8 A A'):=by
  intro k hk B hB X hX
  have ha:=at18 hf.toFew hm br hk
  have hi:(m-1)*8+k<Zr n t 18:=by show _<nodesN n t*8;omega
  refine Rn.load ha (by omega) hi ?_
  have hw:B.w 18 ((m-1)*8+k)=A.w 18 ((m-1)*8+k):=hB.w 18 (by simp) _
  refine Rn.cond (fun h0 =>?_) (fun h0=>hX _ (hB.trans (Fr.tick [] B)))
  refine Rn.store ha (by omega) hi (Rn.ret (.inl ⟨rfl,?_,(hB.trans (Fr.tick [] B) (S :=[]) (e:=k+1)).trans (Fr.sett (R :=[18]) _ _ (by simp))⟩))
  have hBt:HI n t B.tick held S mp vr rem bag pl:=h.same fun r i _=>by rw[AS.tick_w];exact hB.w r (by simp) i
  exact(hBt.additem hm br hk (by rw[AS.tick_w];simpa using h0) hx mh hg).same fun r i _=>rfl
 unfold Vs xel
 refine step 0 (by omega) A (Fr.refl _ _) _ fun B1 f1 =>?_
 refine step 1 (by omega) B1 f1 _ fun B2 f2 =>?_
 refine step 2 (by omega) B2 f2 _ fun B3 f3 =>?_
 refine step 3 (by omega) B3 f3 _ fun B4 f4 =>?_
 refine step 4 (by omega) B4 f4 _ fun B5 f5 =>?_
 refine step 5 (by omega) B5 f5 _ fun B6 f6 =>?_
 refine step 6 (by omega) B6 f6 _ fun B7 f7 =>?_
 refine step 7 (by omega) B7 f7 _ fun B8 f8 =>?_
 exact Rn.ret (.inr ⟨rfl,f8⟩)
theorem run_acq(h:HI n t A held S mp vr rem bag pl):Rn n t (acqT (xd n t)) A fun r A'=>
  (r=0/\Fr [] 3 A A')\/(∃ (m:Nat) (da:List Nat),r=(m:Int)/\pl=m::da/\1<=m/\m<=nodesN n t/\(∀i,i<4*t->m∉bag i)/\m∉da/\HI n t A' held S mp vr rem bag da/\Gon n t A' bag (m::da)/\Fr [4] 3 A A'):=by
 have hN:=hf.nodes
 obtain⟨v,hv,uj,nv⟩:=h.polw
 obtain⟨cf,bw⟩:=h.poln
 have Lc:=Xk (N:=nodesN n t) (l:=pl) fun m hm=>⟨(bw m hm).1,(bw m hm).2.1⟩
 have hr:=xib (hdn pl) v (by omega) hv
 rw[<- uj]at hr
 have dk:ofW i64 (A.w 4 0) 0 24=(hdn pl:Int):=congrArg Ref.idx hr
 have C6:ofW u32 (A.w 4 0) 32 32=(v:Int):=congrArg Ref.ver hr
 have Fh:(kN (xd n t)).run (xo n t) A=some (false,A):=by
  have:=hf.n1
  unfold kN XG
  rw[show((xd n t).pages==0)=false from dO.2 (by show((n:Nat):Int)≠0;omega)]
  rfl
 unfold acqT xwJ
 refine Rn.run Fh (Rn.no rfl ?_)
 unfold ZB
 rw[show xa=4095+1 from rfl,xu]
 unfold xmK
 refine Rn.load (at4 hf.toFew) (by omega) (by simp[Zr]) ?_
 rw[dk]
 cases pl with
 | nil=>exact Rn.yes (by simp[hdn]) (Rn.ret (.inl ⟨rfl,(Fr.tick [] A).mono⟩))
 | cons m da=>
  obtain⟨nu,br,Pt⟩:=bw m (by simp)
  rw[List.nodup_cons]at cf
  refine Rn.no (dO.2 (by simp only[hdn];omega)) ?_
  refine Rn.load (at17 hf.toFew nu br) (by omega) (by show _<nodesN n t;omega) ?_
  have P2:=Xk (N:=nodesN n t) (l:=da) fun m hm=>⟨(bw m (by simp[hm])).1,(bw m (by simp[hm])).2.1⟩
  have Mn:ofW i64 (A.tick.w 17 (m-1)) 0 24=(hdn da:Int):=by
   rw[AS.tick_w,nv.1]
   exact congrArg Ref.idx (jh (x:=hdn da) (by omega))
  refine Rn.cas (at4 hf.toFew) (by omega) (by simp[Zr]) rfl ?_
  refine Rn.yes rfl (Rn.ret (.inr ⟨m,da,rfl,rfl,nu,br,Pt,cf.1,?_,h.gon.of (fun _=>rfl) (fun _=>rfl),?_⟩))
  .rw[show hdn (m::da)=m from rfl,Mn,C6]
   have e:u32.wrap ((v:Int)+1)=(((v+1)%4294967296:Nat):Int):=by
    rw[IntKind.wrap_u32];omega
   rw[e]
   refine⟨h.laid.of (fun _=>rfl) (fun _=>rfl),h.norm,h.nodf,h.ep,h.ver,h.bitS,h.bitN,h.remw,h.remb,h.cach,h.bagw,h.bagn,h.bagd,h.item,⟨(v+1)%4294967296,Nat.mod_lt _ (by omega),rfl,nv.2⟩,⟨cf.2,fun x hx=>bw x (by simp[hx])⟩,h.hblk,h.hrun,h.tok,h.gon.sub (fun _=>rfl) (fun _=>rfl) (fun x hx=>by rcases hx with hx|hx;exact .inl (by simp[hx]);exact .inr hx)⟩
  .exact((Fr.tick [] A).trans (Fr.tick [] _) (S :=[]) (e:=2)).trans (Fr.sett (R :=[4]) _ _ (by simp))
theorem HI.link(h:HI n t A held S mp vr rem bag pl){m x:Nat}(hm:1<=m)(br:m<=nodesN n t)(bg : ∀i,i<4*t->m∉bag i)(u0:m∉pl)(hx:x<4*t)(dc:Gon n t A bag (m::pl)) :
    HI n t ((A.set 17 (m-1) (hdn (bag x):Int)).set 13 x (m:Int)) held S mp vr rem (updL bag x (m::bag x)) pl:=by
  have aq : ∀i,i<4*t ->∀y∈bag i,y-1≠m-1:=fun i hi y hy hh=>by
    have:=((h.bagn i hi).2 y hy).1
    obtain rfl:y=m:=by omega
    exact bg i hi hy
  refine⟨h.laid.of (fun _=>rfl) (fun _=>rfl),h.norm,h.nodf,h.ep,h.ver,h.bitS,h.bitN,h.remw,h.remb,h.cach,fun i hi =>?_,fun i hi =>?_,fun i j y hi hj hy zz =>?_,fun y k h1 h2 h3 =>?_,?_,?_,h.hblk,h.hrun,h.tok,dc.sub (fun _=>rfl) (fun _=>rfl) (fun y hy =>?_)⟩
  . rw[yt,xV _ _ _ (show 17≠13 by decide),yt,xV A _ _ (show 13≠17 by decide)]
    obtain⟨h1,h2⟩:=h.bagw i hi
    by_cases dj:i=x
    . subst dj
      simp only[updL,if_true]
      exact⟨rfl,by simp,yy (aq i hi) h2⟩
    . simp only[updL,dA dj]
      exact⟨h1,yy (aq i hi) h2⟩
  . obtain⟨h1,h2⟩:=h.bagn i hi
    by_cases dj:i=x
    . subst dj
      simp only[updL,if_true,List.nodup_cons,List.mem_cons]
      exact⟨⟨bg i hi,h1⟩,fun y hy=>by rcases hy with rfl|hy;exact⟨hm,br⟩;exact h2 y hy⟩
    . simp only[updL,dA dj];exact⟨h1,h2⟩
  . have key : ∀i,i<4*t->y∈updL bag x (m::bag x) i->(y=m/\i=x)\/y∈bag i:=by
      intro i hi hy
      by_cases dj:i=x
      . simp only[updL,dB dj,List.mem_cons]at hy
        rcases hy with hy|hy
        . exact .inl ⟨hy,dj⟩
        . exact .inr (dj▸hy)
      . simp only[updL,dA dj]at hy;exact .inr hy
    rcases key i hi hy with⟨h1,h2⟩|h1<;>rcases key j hj zz with⟨h3,h4⟩|h3
    . omega
    . exact absurd (h1▸h3) (bg j hj)
    . exact absurd (h3▸h1) (bg i hi)
    . exact h.bagd i j y hi hj h1 h3
  . rw[xV _ _ _ (show 18≠13 by decide),xV A _ _ (show 18≠17 by decide)]
    rcases h.item y k h1 h2 h3 with h0|⟨i,g,hi,hy,h4,h5⟩
    . exact .inl h0
    . refine .inr ⟨i,g,hi,?_,h4,h5⟩
      by_cases dj:i=x
      . simp only[updL,dB dj,List.mem_cons];exact .inr (dj▸hy)
      . simp only[updL,dA dj];exact hy
  . obtain⟨v,hv,hw,hl⟩:=h.polw
    refine⟨v,hv,hw,?_⟩
    rw[xV _ _ _ (show 17≠13 by decide),yt]
    exact yy (fun y hy hh=>by
                                         have:=(h.poln.2 y hy).1;obtain rfl:y=m:=by omega
                                         exact u0 hy) hl
  . refine⟨h.poln.1,fun y hy=>⟨(h.poln.2 y hy).1,(h.poln.2 y hy).2.1,fun i hi Be =>?_⟩⟩
    by_cases dj:i=x
    . simp only[updL,dB dj,List.mem_cons]at Be
      rcases Be with rfl|Be
      . exact u0 hy
      . exact(h.poln.2 y hy).2.2 i hi (dj▸Be)
    . simp only[updL,dA dj]at Be
      exact(h.poln.2 y hy).2.2 i hi Be
  . rcases hy with hy|⟨i,hi,hy⟩
    . exact .inl (by simp[hy])
    . by_cases dj:i=x
      . simp only[updL,dB dj,List.mem_cons]at hy
        rcases hy with rfl|hy
        . exact .inl (by simp)
        . exact .inr ⟨x,hx,hy⟩
      . simp only[updL,dA dj]at hy
        exact .inr ⟨i,hi,hy⟩
theorem xzE(h:HI n t A held S mp vr rem bag pl){m:Nat}(hm:1<=m)(br:m<=nodesN n t)(bg : ∀i,i<4*t->m∉bag i):Yn A m:=by
 intro k hk
 rcases h.item m k hm br hk with h0|⟨i,g,hi,hy,_⟩
 .exact h0
 .exact absurd hy (bg i hi)
theorem xzF(h:HI n t A held S mp vr rem bag pl){me c g:Nat}(hc:c<4)(ah:me<t)(aa:A.self=(me:Int))(hg:held g=some (.blk c)):Rn n t (xcD (xd n t) (c:Int) ((g+1:Nat):Int) (hdn (bag (me*4+c)):Int)) A fun r A'=>
  (r=true/\ ∃dp da,HI n t A' (upd held g none) S mp vr rem dp da/\Fr [4,13,17,18] 20 A A')\/(r=false/\Fr [] 3 A A'):=by
 have hx:me*4+c<4*t:=by omega
 have Aa:(me*4+c)%4=c:=by omega
 unfold xcD xeQ
 refine Rn.bind (run_acq hf h) ?_
 rintro r A1 (⟨rfl,ao⟩|⟨m,da,rfl,rfl,hm,br,bg,u0,h1,Le,ao⟩)
 .exact Rn.yes rfl (Rn.ret (.inr ⟨rfl,ao⟩))
 .refine Rn.no (dO.2 (by omega)) ?_
  have ce : ∀k,k<8->(m-1)*8+k<Zr n t 18:=fun k hk=>by show _<nodesN n t*8;omega
  refine Rn.store (at18 hf.toFew hm br (show 0<8 by omega)) (by omega) (ce 0 (by omega)) ?_
  refine Rn.store (at18 hf.toFew hm br (show 1<8 by omega)) (by omega) (ce 1 (by omega)) ?_
  refine Rn.store (at18 hf.toFew hm br (show 2<8 by omega)) (by omega) (ce 2 (by omega)) ?_
  refine Rn.store (at18 hf.toFew hm br (show 3<8 by omega)) (by omega) (ce 3 (by omega)) ?_
  refine Rn.store (at18 hf.toFew hm br (show 4<8 by omega)) (by omega) (ce 4 (by omega)) ?_
  refine Rn.store (at18 hf.toFew hm br (show 5<8 by omega)) (by omega) (ce 5 (by omega)) ?_
  refine Rn.store (at18 hf.toFew hm br (show 6<8 by omega)) (by omega) (ce 6 (by omega)) ?_
  refine Rn.store (at18 hf.toFew hm br (show 7<8 by omega)) (by omega) (ce 7 (by omega)) ?_
  refine Rn.store (at17 hf.toFew hm br) (by omega) (by show _<nodesN n t;omega) ?_
  refine Rn.self ?_
  have et : ∀B:AS,B.self=A1.self->B.self=(me:Int):=fun B hB=>by rw[hB,ao.self,aa]
  simp only[AS.tick_self,AS.set_self]
  rw[et A1 rfl]
  refine Rn.store (at13 hf.toFew ah hc) (by omega) (by show _<t*4;omega) (Rn.ret (.inl ⟨rfl,updL bag (me*4+c) (m::bag (me*4+c)),da,?_,?_⟩))
  .have hN:=hf.nodes
   have ig:=xzE hf h1 hm br bg
   have F2:=h1.link hf hm br bg u0 hx Le
   have Lq:=F2.additem (m:=m) (k:=0) (x:=me*4+c) (g:=g) hm br (by omega) (by rw[xV _ _ _ (show 18≠13 by decide),xV A1 _ _ (show 18≠17 by decide)];exact ig 0 (by omega)) hx (by simp[updL]) (by rw[Aa];exact hg)
   have hb:=h.bagn _ hx
   have Lc:=Xk hb.2
   have e1:Ref.word ⟨(hdn (bag (me*4+c)):Int),false,0⟩=(hdn (bag (me*4+c)):Int):=by
    have:=jV (hdn (bag (me*4+c))) 0 (by omega) (by omega)
    simpa using this
   have e2:Ref.word ⟨(m:Int),false,0⟩=(m:Int):=by
    have:=jV m 0 (by omega) (by omega)
    simpa using this
   rw[e1,e2]
   refine Lq.same fun r i _ =>?_
   simp only[AS.tick_w,AS.set_w,Nat.add_zero]
   by_cases h13:r=13/\i=me*4+c
   .obtain⟨rfl,rfl⟩:=h13;simp
   .by_cases Lu:r=17/\i=m-1
    .obtain⟨rfl,rfl⟩:=Lu;simp
    .rw[dA h13,dA Lu,dA h13,dA Lu]
     by_cases No:r=18
     .subst No
      simp only[true_and]
      by_cases k0:i=(m-1)*8
      .rw[dA (by omega),dA (by omega),dA (by omega),dA (by omega),dA (by omega),dA (by omega),dA (by omega)]
      .rw[dA (show ¬i=(m-1)*8 from k0)]
       have hz : ∀k,k<8->i=(m-1)*8+k->A1.w 18 i=0:=fun k hk he=>by rw[he];exact ig k hk
       by_cases k7:i=(m-1)*8+7
       .rw[dB k7,hz 7 (by omega) k7]
       .rw[dA k7]
        by_cases k6:i=(m-1)*8+6
        .rw[dB k6,hz 6 (by omega) k6]
        .rw[dA k6]
         by_cases k5:i=(m-1)*8+5
         .rw[dB k5,hz 5 (by omega) k5]
         .rw[dA k5]
          by_cases k4:i=(m-1)*8+4
          .rw[dB k4,hz 4 (by omega) k4]
          .rw[dA k4]
           by_cases k3:i=(m-1)*8+3
           .rw[dB k3,hz 3 (by omega) k3]
           .rw[dA k3]
            by_cases k2:i=(m-1)*8+2
            .rw[dB k2,hz 2 (by omega) k2]
            .rw[dA k2]
             by_cases k1:i=(m-1)*8+1
             .rw[dB k1,hz 1 (by omega) k1]
             .rw[dA k1]
     .simp only[No,false_and,if_false]
  .refine⟨fun r hr i =>?_,ao.b,ao.self,ao.told,?_,?_⟩
   .simp only[List.mem_cons,List.not_mem_nil,or_false,not_or]at hr
    simp only[AS.tick_w,AS.set_w,hr.2.1,hr.2.2.1,hr.2.2.2,false_and,if_false]
    exact ao.w r (by simp[hr.1]) i
   .have:=ao.lo;simp only[AS.tick_steps,AS.set_steps];omega
   .have:=ao.hi;simp only[AS.tick_steps,AS.set_steps];omega
theorem xB0(h:HI n t A held S mp vr rem bag pl){me c g:Nat}(hc:c<4)(ah:me<t)(aa:A.self=(me:Int))(hg:held g=some (.blk c)):Rn n t (xj6 (xd n t) (c:Int) ((g+1:Nat):Int)) A fun r A'=>
  (r=true/\ ∃dp da,HI n t A' (upd held g none) S mp vr rem dp da/\Fr [4,5,13,17,18] 60000 A A')\/(r=false/\Fr [] 60000 A A'):=by
 have hx:me*4+c<4*t:=by omega
 have Aa:(me*4+c)%4=c:=by omega
 have hN:=hf.nodes
 obtain⟨C0,nv⟩:=h.bagw _ hx
 obtain⟨cf,d9⟩:=h.bagn _ hx
 have af:=Zj _ _ cf d9
 have Lc:=Xk d9
 have Gu : ∀ (B:AS) (Q:Bool->AS->Prop),Q true (B.set 5 c (u64.wrap (B.w 5 c+1))).tick->Rn n t (.op (.add (atF (xd n t) 5 (c:Int)) 1) fun x5 =>.ret true) B Q:=by
  intro B Q hQ
  exact Rn.add (at5 hf.toFew hc) (by omega) (by simpa[Zr]using hc) (Rn.ret hQ)
 unfold xj6 xnf
 refine Rn.run (xc7 hf ah hc aa) (Rn.no rfl ?_)
 refine Rn.no (dO.2 (by omega)) ?_
 have Fe:Rn n t (xj5 (xd n t) (c:Int) ((g+1:Nat):Int)) A fun r A'=>(r=true/\ ∃dp da,HI n t A' (upd held g none) S mp vr rem dp da/\Fr [4,13,17,18] 50000 A A')\/(r=false/\Fr [] 50000 A A'):=by
  unfold xj5 xnc
  refine Rn.self ?_
  rw[aa]
  refine Rn.load (at13 hf.toFew ah hc) (by omega) (by show _<t*4;omega) ?_
  rw[C0]
  have dk:ofW i64 (hdn (bag (me*4+c)):Int) 0 24=(hdn (bag (me*4+c)):Int):=congrArg Ref.idx (jh (x:=hdn (bag (me*4+c))) (by omega))
  rw[dk]
  unfold jH
  refine Rn.loop (fun r i A' =>∃L1 L2,bag (me*4+c)=L1++L2/\r=L2.length/\i=(hdn L2:Int)/\linkedN (A.w 17) L2/\Fr [] (1+10*L1.length) A A') ?_ xa (bag (me*4+c)).length _ A.tick (by unfold xa;omega) ⟨[],bag (me*4+c),rfl,rfl,rfl,nv,(Fr.tick [] A).mono (by simp) (by simp)⟩
  rintro r i A2 κ ⟨L1,L2,hL,rfl,rfl,u7,ae⟩ hκ
  have hL1:L1.length<=4000:=by rw[hL]at af;simp at af;omega
  have h2:HI n t A2 held S mp vr rem bag pl:=h.fr ae (by simp)
  unfold xg6
  cases L2 with
  | nil=>
   refine Rn.no (by simp[hdn]) ?_
   refine Rn.bind (xzF hf h2 hc ah (by rw[ae.self,aa]) hg) ?_
   rintro r A3 (⟨rfl,dp,da,k1,k2⟩|⟨rfl,k1⟩)
   .exact Rn.ret (.inl ⟨rfl,dp,da,k1,ae.trans k2⟩)
   .exact Rn.ret (.inr ⟨rfl,ae.trans k1⟩)
  | cons m L2=>
   have bi:m∈bag (me*4+c):=by rw[hL];simp
   obtain⟨nu,br⟩:=d9 m bi
   rw[show hdn (m::L2)=m from rfl]
   refine Rn.yes (bne_iff_ne.2 (by omega)) ?_
   show Rn n t ((Vs (xd n t) (m:Int) ((g+1:Nat):Int)).bind _) _ _
   refine Rn.bind (xzD hf h2 nu br hx bi (by rw[Aa];exact hg)) ?_
   rintro r A3 (⟨rfl,k1,k2⟩|⟨rfl,k1⟩)
   .exact Rn.yes rfl (Rn.ret (.inl ⟨rfl,bag,pl,k1,ae.trans k2⟩))
   .refine Rn.no rfl ?_
    refine Rn.load (at17 hf.toFew nu br) (by omega) (by show _<nodesN n t;omega) ?_
    have e2:A3.w 17 (m-1)=(hdn L2:Int):=by rw[k1.w 17 (by simp),ae.w 17 (by simp)];exact u7.1
    have dv : ∀y∈L2,1<=y/\y<=nodesN n t:=fun y hy=>d9 y (by rw[hL];simp[hy])
    have P1:=Xk dv
    rw[e2,show ofW i64 (hdn L2:Int) 0 24=(hdn L2:Int)from congrArg Ref.idx (jh (x:=hdn L2) (by omega))]
    exact hκ L2.length _ _ (by simp) ⟨L1 ++ [m],L2,by rw[hL];simp,rfl,rfl,u7.2,(ae.trans k1 (S :=[]) (e:=1+10*L1.length+8)).trans (Fr.tick [] _) (by simp) (by simp) (by simp;omega)⟩
 refine Rn.bind Fe ?_
 rintro r A1 (⟨rfl,dp,da,k1,k2⟩|⟨rfl,k1⟩)
 .refine Rn.no rfl (Gu A1 _ (.inl ⟨rfl,dp,da,?_,k2.trans (Fr.sett (R :=[5]) _ _ (by simp))⟩))
  exact k1.fr (Fr.sett (R :=[5]) _ _ (by simp)) (by simp)
 .exact Rn.yes rfl (Rn.ret (.inr ⟨rfl,k1.mono⟩))
end
end
section
open Go Go.RowKit Lx
/-! ### bits -/
theorem tz_ok : ∀m:Nat,m<256->m≠0->Lib.trailingZeros8 m<8/\m.testBit (Lib.trailingZeros8 m)=true:=by decide +kernel
theorem clr_ok : ∀m:Nat,m<256 ->∀j:Nat,j<8->bits .andNot .u8 (m:Int) (u8.wrap (1*2 ^ j))=((m &&& (255 ^^^ 2 ^ j):Nat):Int):=by decide +kernel
theorem orr_ok : ∀m:Nat,m<256 ->∀j:Nat,j<8->bits .or .u8 (m:Int) (u8.wrap (1*2 ^ j))=((m ||| 2 ^ j:Nat):Int):=by decide +kernel
theorem bit_ok : ∀m:Nat,m<256 ->∀j:Nat,j<8->(bits .and .u8 (Int.fdiv (m:Int) (2 ^ j)) 1==1)=m.testBit j:=by decide +kernel
theorem full_ok : ∀m:Nat,m<256 ->∀b:Nat,b<9->m<2 ^ b->decide ((Lib.trailingZeros8 (Int.toNat (bits .xor .u8 255 (m:Int))):Int)>=(b:Int))=decide (m=2 ^ b-1):=by decide +kernel
theorem xor_ok : ∀m:Nat,m<256->0<=bits .xor .u8 255 (m:Int)/\bits .xor .u8 255 (m:Int)<=255:=by decide +kernel
theorem clr_bit{m j i:Nat}(hm:m<256)(hj:j<8):(m &&& (255 ^^^ 2 ^ j)).testBit i=(m.testBit i&&decide (i≠j)):=by
 rw[Nat.testBit_and,Nat.testBit_xor,Nat.testBit_two_pow]
 by_cases hi:i<8
 .have:(255:Nat).testBit i=true:=by
   have h : ∀i,i<8->(255:Nat).testBit i=true:=by decide
   exact h i hi
  rw[this]
  by_cases dx:i=j
  .subst dx;simp
  .rw[dC (fun hh=>dx hh.symm),dD dx];rfl
 .have:m.testBit i=false:=Nat.testBit_lt_two_pow (Nat.lt_of_lt_of_le hm (by
   have:=Nat.pow_le_pow_right (n:=2) (by omega) (show 8<=i by omega)
   simpa using this))
  rw[this];rfl
theorem orr_bit{m j i:Nat}:(m ||| 2 ^ j).testBit i=(m.testBit i||decide (i=j)):=by
 rw[Nat.testBit_or,Nat.testBit_two_pow]
 by_cases dx:i=j
 .subst dx;simp
 .rw[dC (fun hh=>dx hh.symm),dC dx]
theorem xoC{c:Nat}:blc c<=8:=Nat.div_le_self _ _
theorem blc_pos{c:Nat}(h:c<4):0<blc c:=by
 have : ∀c,c<4->0<blc c:=by decide
 exact this c h
theorem xB1{m c:Nat}(h:m<2 ^ blc c):m<256:=by
 have:=Nat.pow_le_pow_right (n:=2) (by omega) (xoC (c:=c))
 omega
theorem Yo{m c v:Nat}(hm:m<256)(hc:c<4)(hv:v<4294967296):btOf (btw m c v)=⟨m,true,c,v⟩:=xzz m c v hm (by omega) hv
theorem xim{v:Nat}(hv:v<4294967296):btOf (bt0 v)=⟨0,false,0,v⟩:=xvV 0 0 v (by omega) hv
def Xm(S:List Sg)(p c:Nat):Bool:=match slabAt S p with
 | some (d,_)=>d==c
 | none=>false
theorem xin{S:List Sg}{p c:Nat}(h:Xm S p c=true) : ∃o,slabAt S p=some (c,o):=by
 unfold Xm at h
 split at h
 .rename_i d o hs
  obtain rfl:d=c:=by simpa using h
  exact⟨o,hs⟩
 .cases h
theorem xzG{S:List Sg}{p c:Nat}(h:Xm S p c=false)(o:Nat):slabAt S p≠some (c,o):=by
 intro hs
 unfold Xm at h
 rw[hs]at h
 simp at h
section
variable{n t:Nat}(hf:Small n t){A:AS}{held:Nat->Option HK}{S:List Sg}{mp vr:Nat->Nat}{rem bag:Nat->List Nat}{pl:List Nat}
include hf
theorem wz(h:HI n t A held S mp vr rem bag pl){p c o:Nat}(hs:slabAt S p=some (c,o)):p<n/\c<4/\mp p<256/\vr p<4294967296/\A.w 8 p=btw (mp p) c (vr p):=by
 have h1:=WV hs
 rw[h.laid.len]at h1
 obtain⟨h2,h3⟩:=h.bitS p c o hs
 exact⟨h1,(WW h.laid.ok hs).1,xB1 h2,h.ver p h1,h3⟩
theorem WX{p:Nat}(hp:p<n):(Vd (xd n t) (p:Int)).run (xo n t) A=some (btOf (A.w 8 p),A.tick):=by
 unfold Vd xls
 simp only[T.run,xo,at8 hf.toFew hp,xK (show p<Zr n t 8 from hp) 19 (by omega)]
theorem xc8{p:Nat}(hp:p<n){was now:Bt}(hw:A.w 8 p=was.word):(Xz (xd n t) (p:Int) was now).run (xo n t) A=some (true,(A.set 8 p now.word).tick):=by
 unfold Xz xei
 simp only[T.run,xo,at8 hf.toFew hp,xK (show p<Zr n t 8 from hp) 19 (by omega)]
 rw[dB hw]
theorem xbx{p k:Nat}(hp:p<n)(hk:k<4):(isT (xd n t) (p:Int) (k:Int)).run (xo n t) A=some (true,A):=by
 unfold isT isTK
 rw[dD (show((p:Int)>=0)by omega),dD (show((p:Int)<(xd n t).pages)by show(p:Int)<((n:Nat):Int);omega),dD (show((k:Int)>=0)by omega),dD (show((k:Int)<4)by omega)]
 rfl
theorem xxm(h:HI n t A held S mp vr rem bag pl){p c:Nat}(hp:p<n)(hc:c<4)(o:Int):(hofT (xd n t) o (p:Int) (c:Int)).run (xo n t) A=some ((Xm S p c,o),A.tick):=by
 unfold hofT xwH
 simp only[T.run,xo,at8 hf.toFew hp,xK (show p<Zr n t 8 from hp) 19 (by omega)]
 cases hs:slabAt S p with
 | none=>
  have hw:=h.bitN p hp hs
  have hb:=xim (h.ver p hp)
  rw[<- hw]at hb
  have y3:decide (ofW i64 (A.w 8 p) 8 3>0)=false:=congrArg Bt.has hb
  rw[dF]at y3
  rw[dA y3]
  simp only[Xm,hs]
  rfl
 | some x=>
  obtain⟨d,o'⟩:=x
  obtain⟨_,hd,hm,hv,hw⟩:=wz hf h hs
  have hb:=Yo hm hd hv
  rw[<- hw]at hb
  have y3:decide (ofW i64 (A.w 8 p) 8 3>0)=true:=congrArg Bt.has hb
  have Li:(bif decide (ofW i64 (A.w 8 p) 8 3>0)then i64.wrap (ofW i64 (A.w 8 p) 8 3-1)else(0:Int))=(d:Int):=congrArg Bt.cls hb
  rw[Li,dB (by rw[dT]at y3;exact y3)]
  simp only[cond_true,T.run]
  simp only[Xm,hs]
  by_cases Hd:d=c
  .subst Hd;simp
  .rw[dO.2 (show(d:Int)≠(c:Int)by omega),dO.2 Hd]
theorem xv1{m c v:Nat}(hm:m<256)(Fy:m≠0):(firstT ⟨(m:Int),true,(c:Int),(v:Int)⟩).run (xo n t) A=some ((Lib.trailingZeros8 m:Int),A):=by
 unfold firstT KW
 simp only
 rw[dO.2 (show(m:Int)≠0 by omega)]
 simp only[cond_false]
 rw[show(decide (0<=(m:Int))&&decide ((m:Int)<=255))=true by simp;omega]
 rfl
theorem xzH(h:HI n t A held S mp vr rem bag pl){p c o:Nat}(hs:slabAt S p=some (c,o)):Rn n t (xb3 (xd n t) (p:Int) (c:Int)) A fun r A'=>
  (∃g m':Nat,r=((g:Int),true)/\held g=none/\isBlk S g c/\HI n t A' (upd held g (some (.blk c))) S (updN mp p m') vr rem bag pl/\Fr [8] 4 A A')\/(r=(0,false)/\Fr [] 4 A A'/\mp p=0):=by
 obtain⟨hp,hc,hm,hv,hw⟩:=wz hf h hs
 have hb:=Yo hm hc hv
 have hn:=hf.n2
 have om:=(h.bitS p c o hs).1
 unfold xb3 xes kY
 rw[show xa=4095+1 from rfl,xu]
 unfold YI
 refine Rn.run (xbx hf hp hc) (Rn.yes rfl ?_)
 refine Rn.run (WX hf hp) ?_
 rw[hw,hb]
 by_cases Fy:mp p=0
 .have Qb:(firstT ⟨(mp p:Int),true,(c:Int),(vr p:Int)⟩).run (xo n t) A.tick=some (-1,A.tick):=by
   unfold firstT KW
   simp only[Fy]
   rfl
  refine Rn.run Qb ?_
  refine Rn.no rfl ?_
  refine Rn.no (by simp) ?_
  exact Rn.yes rfl (Rn.ret (.inr ⟨rfl,(Fr.tick [] A).mono,Fy⟩))
 .obtain⟨Mt,Ad⟩:=tz_ok _ hm Fy
  refine Rn.run (xv1 hf hm Fy) ?_
  generalize Lib.trailingZeros8 (mp p)=j at *
  have La:j<blc c:=by
   by_cases an:j<blc c
   .exact an
   .exfalso
    have:=Nat.testBit_lt_two_pow (Nat.lt_of_lt_of_le om (Nat.pow_le_pow_right (n:=2) (by omega) (show blc c<=j by omega)))
    rw[Ad]at this;cases this
  refine Rn.no rfl ?_
  refine Rn.no (by simp) ?_
  refine Rn.no (by rw[dF];omega) ?_
  refine Rn.yes (by rw[dC (show ¬ ((j:Int)<0)by omega)];rfl) ?_
  simp only[Int.toNat_natCast]
  rw[dB (show j<=8 by omega),clr_ok _ hm j Mt]
  refine Rn.run (xc8 hf (A:=A.tick) hp (by rw[AS.tick_w,hw];rfl)) ?_
  refine Rn.yes rfl (Rn.yes (by rw[dT];omega) ?_)
  have an:=yi La
  have e:i64.wrap (i64.wrap ((p:Int)*8)+i64.wrap (Int.tdiv (i64.wrap ((j:Int)*bif (c:Int)==0 then(8:Int)else bif (c:Int)==1 then(16:Int)else bif (c:Int)==2 then(24:Int)else(32:Int))) 8))=((8*p+j*(c+1):Nat):Int):=by
   have ec:(bif (c:Int)==0 then(8:Int)else bif (c:Int)==1 then(16:Int)else bif (c:Int)==2 then(24:Int)else(32:Int))=((8*(c+1):Nat):Int):=by
    have : ∀c:Nat,c<4->(bif (c:Int)==0 then(8:Int)else bif (c:Int)==1 then(16:Int)else bif (c:Int)==2 then(24:Int)else(32:Int))=((8*(c+1):Nat):Int):=by decide
    exact this c hc
   rw[ec]
   have e1:(j:Int)*((8*(c+1):Nat):Int)=((8*(j*(c+1)):Nat):Int):=by
    rw[<- Int.natCast_mul];congr 1;rw[Nat.mul_left_comm]
   rw[e1]
   generalize j*(c+1)=x at *
   rw[wN _ (by omega),dS (by omega)]
   have e2:((8*x:Nat):Int) / 8=(x:Int):=by omega
   rw[e2,wN _ (by omega),show(p:Int)*8=((8*p:Nat):Int)by omega,wN _ (by omega),wrap_add hf.toFew (by omega)]
  rw[e]
  obtain⟨k1,k2⟩:=h.unhome (m':=mp p &&& (255 ^^^ 2 ^ j)) hs La Ad (Nat.lt_of_le_of_lt Nat.and_le_left om) (fun i=>clr_bit hm Mt)
  exact Rn.ret (.inl ⟨_,_,rfl,k1,⟨p,o,j,hs,La,rfl⟩,k2.same fun r i _=>rfl,(Fr.tick [] A).trans (Fr.sett (R :=[8]) _ _ (by simp))⟩)
theorem xv2{c j:Nat}(hc:c<4)(hj:j<blc c):(YH (c:Int) ((8*(j*(c+1)):Nat):Int)).run (xo n t) A=some (((j:Int),true),A):=by
 have h8:j<8:=Nat.lt_of_lt_of_le hj xoC
 have key : ∀c,c<4 ->∀j,j<8->j<blc c->YH (c:Int) ((8*(j*(c+1)):Nat):Int) = .ret ((j:Int),true):=by
  intro c hc j h8 hj
  have zc:c=0\/c=1\/c=2\/c=3:=by omega
  have pb:j=0\/j=1\/j=2\/j=3\/j=4\/j=5\/j=6\/j=7:=by omega
  rcases zc with rfl|rfl|rfl|rfl<;>rcases pb with rfl|rfl|rfl|rfl|rfl|rfl|rfl|rfl<;>first|rfl|(exfalso;revert hj;decide)
 rw[key c hc j h8 hj];rfl
theorem ji{o:Int}{k:Nat}(hk:1<=k)(ef:k<=100000):(yX (xd n t) o (k:Int)).run (xo n t) A=some (((),u64.wrap (o+k)),(A.set 1 0 (u64.wrap (A.w 1 0+k))).tick):=by
 have e:u64.wrap (k:Int)=(k:Int):=by rw[dJ];omega
 unfold yX xah
 rw[dD (show(k:Int)>0 by omega),e]
 simp only[cond_true,T.run,xo,at1 hf.toFew,xK (show 0<Zr n t 1 by simp[Zr]) 19 (by omega)]
theorem HI.moved(h:HI n t A held S mp vr rem bag pl)(x:Int):HI n t (A.set 1 0 (u64.wrap x)).tick held S mp vr rem bag pl:=by
 have e:(A.set 1 0 (u64.wrap x)).tick.w 1 0=u64.wrap x:=by simp
 refine⟨h.laid.of (fun _=>rfl) (fun _=>rfl),h.norm,h.nodf,by rw[e,dJ];omega,h.ver,h.bitS,h.bitN,h.remw,h.remb,h.cach,h.bagw,h.bagn,h.bagd,h.item,h.polw,h.poln,h.hblk,h.hrun,h.tok,h.gon⟩
theorem xkQ(h:HI n t A held S mp vr rem bag pl){g c:Nat}(hg:held g=some (.blk c)):Rn n t (Vz (xd n t) (g:Int)) A fun r A'=>
  r=true/\ ∃m',HI n t A' (upd held g none) S (updN mp (g / 8) m') vr rem bag pl/\Fr [8] 4 A A':=by
 have hb:=h.hblk g c hg
 obtain⟨p,o,j,hs,hj,rfl⟩:=hb
 obtain⟨hp,hc,hm,hv,hw⟩:=wz hf h hs
 have an:=yi hj
 have ox:=Yo hm hc hv
 have hn:=hf.n2
 have om:=(h.bitS p c o hs).1
 have h8:j<8:=Nat.lt_of_lt_of_le hj xoC
 have e0:(8*p+j*(c+1)) / 8=p:=by omega
 obtain⟨k1,k2⟩:=h.home (m':=mp p ||| 2 ^ j) hs hj hg (Nat.or_lt_two_pow om (Nat.pow_lt_pow_right (by omega) hj)) (fun i=>orr_bit)
 rw[e0]
 have ed:i64.wrap (Int.tdiv ((8*p+j*(c+1):Nat):Int) 8)=(p:Int):=by
  rw[dS (by omega)]
  have:((8*p+j*(c+1):Nat):Int) / 8=(p:Int):=by omega
  rw[this,wN _ (by omega)]
 have em:i64.wrap (Int.tmod ((8*p+j*(c+1):Nat):Int) 8*8)=((8*(j*(c+1)):Nat):Int):=by
  rw[dR (by omega)]
  have:((8*p+j*(c+1):Nat):Int)%8*8=((8*(j*(c+1)):Nat):Int):=by omega
  rw[this,wN _ (by omega)]
 unfold Vz xet
 refine Rn.no (by rw[dF];omega) ?_
 have Fj:i64.wrap ((xd n t).pages*8)=((n*8:Nat):Int):=by
  show i64.wrap (((n:Nat):Int)*8)=_
  rw[show((n:Nat):Int)*8=((n*8:Nat):Int)by omega,wN _ (by omega)]
 refine Rn.no (by rw[dF,Fj];omega) ?_
 rw[ed,em]
 unfold wJ
 rw[show xa=4095+1 from rfl,xu]
 unfold xb6
 refine Rn.yes rfl ?_
 refine Rn.run (WX hf hp) ?_
 rw[hw,ox]
 refine Rn.run (xv2 hf hc hj) ?_
 refine Rn.no rfl (Rn.no rfl ?_)
 refine Rn.yes (by rw[dC (show ¬ ((j:Int)<0)by omega)];rfl) ?_
 simp only[Int.toNat_natCast]
 rw[dB (show j<=8 by omega),bit_ok _ hm j h8,k1]
 refine Rn.no rfl ?_
 refine Rn.yes (by rw[dC (show ¬ ((j:Int)<0)by omega)];rfl) ?_
 rw[orr_ok _ hm j h8]
 refine Rn.run (xc8 hf (A:=A.tick) hp (by rw[AS.tick_w,hw];rfl)) ?_
 refine Rn.yes rfl (Rn.ret ⟨rfl,_,k2.same fun r i _=>rfl,(Fr.tick [] A).trans (Fr.sett (R :=[8]) _ _ (by simp))⟩)
theorem xso(h:HI n t A held S mp vr rem bag pl){g c:Nat}(hg:held g=some (.blk c))(o:Int):Rn n t (yq (xd n t) o (g:Int)) A fun r A'=>
  r=((),u64.wrap (o+1))/\A'.w 1 0=u64.wrap (A.w 1 0+1)/\ ∃m',HI n t A' (upd held g none) S (updN mp (g / 8) m') vr rem bag pl/\Fr [1,8] 5 A A':=by
 unfold yq xmB
 refine Rn.bind (xkQ hf h hg) ?_
 rintro r A1 ⟨rfl,m',k1,k2⟩
 refine Rn.run (ji hf (A:=A1) (o:=o) (k:=1) (by omega) (by omega)) (Rn.ret ⟨rfl,?_,m',k1.moved hf _,k2.trans (Fr.sett (R :=[1]) _ _ (by simp))⟩)
 simp only[AS.tick_w,AS.set_w,and_self,if_true]
 rw[k2.w 1 (by simp)];rfl
end
end
section
open Go Go.RowKit Lx
def xc9{β:Type}(g:Geo)(κ:Int->T β):List Int->Int->T β
 | [],o=>κ o
 | x::l,o=>(yq g o (i64.wrap (i64.wrap x-1))).bind fun r=>xc9 g κ l r.2
def Kt{β:Type}(g:Geo)(F:List Int->T β):Nat->Int->List Int->T β
 | 0,x,acc=>bif x != 0 then F acc else F acc
 | m+1,x,acc=>bif x != 0 then(.op (.load (atF g 10 (i64.wrap (i64.wrap x-1)))) fun y=>Kt g F m y (acc ++ [x]))else F acc
theorem Ku(a:Nat) : ∀ (N:Nat) (l:List Nat),l.Nodup->(∀x∈l,a<=x/\x<a+N)->l.length<=N
 | 0,l,h,hl=>by
  cases l with
  | nil=>simp
  | cons x l=>have:=hl x (by simp);omega
 | N+1,l,h,hl=>by
  by_cases hm:a+N∈l
  .have h1:=Ku a N (l.erase (a+N)) (h.erase _) fun x hx=>by
    have tg:=(h.mem_erase_iff).1 hx
    have:=hl x tg.2
    have:=tg.1
    omega
   rw[List.length_erase_of_mem hm]at h1
   omega
  .have:=Ku a N l h fun x hx=>by
    have:=hl x hx
    have:x≠a+N:=fun hh=>hm (hh▸hx)
    omega
   omega
def tops(L:List Nat):List Int:=L.map fun g=>((g+1:Nat):Int)
theorem xby{g:Nat}(h:g<1000000):i64.wrap (i64.wrap ((g+1:Nat):Int)-1)=(g:Int):=by
 rw[wN _ (by omega),w64 (by omega) (by omega)];omega
section
variable{n t:Nat}(hf:Small n t){A:AS}{held:Nat->Option HK}{S:List Sg}{mp vr:Nat->Nat}{rem bag:Nat->List Nat}{pl:List Nat}
include hf
theorem Xn{β:Type}{F:List Int->T β}{Q:β->AS->Prop} : ∀ (L:List Nat) (m:Nat) (acc:List Int) (A:AS),L.length<=m->linked (A.w 10) L->(∀g∈L,g<n*8)->(∀A',Fr [] L.length A A'->Rn n t (F (acc++tops L)) A' Q)->Rn n t (Kt (xd n t) F m (hdw L) acc) A Q
 | [],0,acc,A,_,_,_,h=>by
  have:=h A (Fr.refl _ _)
  rw[tops,List.map_nil,List.append_nil]at this
  exact this
 | [],m+1,acc,A,_,_,_,h=>by
  have:=h A (Fr.refl _ _)
  rw[tops,List.map_nil,List.append_nil]at this
  exact this
 | g::L,0,acc,A,hl,_,_,h=>by simp at hl
 | g::L,m+1,acc,A,hl,hk,hg,h=>by
  have hn:=hf.n2
  have so:=hg g (by simp)
  unfold Kt
  refine Rn.yes (bne_iff_ne.2 (by simp only[hdw];omega)) ?_
  simp only[hdw]
  rw[xby (by omega)]
  refine Rn.load (at10 hf.toFew so) (by omega) so ?_
  rw[hk.1]
  refine Xn L m (acc ++ [((g+1:Nat):Int)]) A.tick (by simp at hl;omega) hk.2 (fun x hx=>hg x (by simp[hx])) fun A' hA' =>?_
  have:=h A' ((Fr.tick [] A).trans hA' (by simp) (by simp) (by simp;omega))
  rw[tops,List.map_cons]at this
  rw[tops,List.append_assoc]
  exact this
theorem xda{β:Type}{κ:Int->T β}{c:Nat}{Q:β->AS->Prop} : ∀ (L:List Nat) (o:Nat) (A:AS) (held:Nat->Option HK) (mp:Nat->Nat),HI n t A held S mp vr rem bag pl->L.Nodup->(∀g∈L,held g=some (.blk c)/\g<n*8)->o+L.length<1000000000->
  (∀A' bm,HI n t A' (fun g=>if g∈L then none else held g) S bm vr rem bag pl->A'.w 1 0=u64.wrap (A.w 1 0+(L.length:Int))->Fr [1,8] (5*L.length) A A'->Rn n t (κ ((o+L.length:Nat):Int)) A' Q)->Rn n t (xc9 (xd n t) κ (tops L) (o:Int)) A Q
 | [],o,A,held,mp,h,_,_,_,hk=>by
  have e:A.w 1 0=u64.wrap (A.w 1 0+((0:Nat):Int)):=by have:=h.ep;rw[dJ];omega
  exact hk A mp (by simpa using h) e (Fr.refl _ _)
 | g::L,o,A,held,mp,h,cf,hh,ho,hk=>by
  have hn:=hf.n2
  rw[List.nodup_cons]at cf
  obtain⟨hg,so⟩:=hh g (by simp)
  simp only[tops,List.map_cons,xc9]
  rw[xby (by omega)]
  simp only[List.length_cons]at ho
  refine Rn.bind (xso hf h hg (o:Int)) ?_
  rintro r A1 ⟨rfl,he,m',h1,ao⟩
  have eo:u64.wrap ((o:Int)+1)=((o+1:Nat):Int):=by rw[dJ];omega
  simp only[eo]
  refine xda (c:=c) L (o+1) A1 _ _ h1 cf.2 (fun x hx =>?_) (by omega) fun A' bm h2 gv ae =>?_
  .have aq:x≠g:=fun hh=>cf.1 (hh▸hx)
   rw[upd_ne _ _ aq]
   exact hh x (by simp[hx])
  .have e1:(fun x=>if x∈L then none else upd held g none x)=(fun x=>if x∈g::L then none else held x):=by
    funext x
    by_cases ui:x=g
    .subst ui;rw[xC];simp
    .rw[upd_ne _ _ ui];simp[ui]
   rw[e1]at h2
   have:=hk A' bm h2 (by rw[gv,he,dJ,dJ,dJ];simp only[List.length_cons];omega) (ao.trans ae (by simp) (by simp) (by simp only[List.length_cons];omega))
   simp only[List.length_cons]at this
   rw[show o+1+L.length=o+(L.length+1)by omega]
   exact this
theorem xB2(h:HI n t A held S mp vr rem bag pl){g c:Nat}(hg:held g=some (.blk c)):Rn n t (xjP (xd n t) (g:Int)) A fun r A'=>r=true/\ ∃az,HI n t A' (upd held g none) S mp vr az bag pl/\Fr [9,10] 4 A A':=by
 have hn:=hf.n2
 obtain⟨p,o,j,hs,hj,rfl⟩:=h.hblk g c hg
 have an:=yi hj
 obtain⟨hp,_⟩:=wz hf h hs
 have e0:(8*p+j*(c+1)) / 8=p:=by omega
 have so:8*p+j*(c+1)<n*8:=by omega
 have ed:i64.wrap (Int.tdiv ((8*p+j*(c+1):Nat):Int) 8)=(p:Int):=by
  rw[dS (by omega)]
  have:((8*p+j*(c+1):Nat):Int) / 8=(p:Int):=by omega
  rw[this,wN _ (by omega)]
 have Fj:i64.wrap ((xd n t).pages*8)=((n*8:Nat):Int):=by
  show i64.wrap (((n:Nat):Int)*8)=_
  rw[show((n:Nat):Int)*8=((n*8:Nat):Int)by omega,wN _ (by omega)]
 have h1:=h.push hg (by rw[e0];exact hp)
 rw[e0]at h1
 generalize 8*p+j*(c+1)=g at *
 have ew:u64.wrap (u64.wrap (g:Int)+1)=((g+1:Nat):Int):=by rw[dJ,dJ];omega
 unfold xjP xmb
 refine Rn.no (by rw[dF];omega) ?_
 refine Rn.no (by rw[dF,Fj];omega) ?_
 rw[ed]
 unfold qM
 rw[show xa=4095+1 from rfl,xu]
 unfold xac
 refine Rn.yes rfl ?_
 refine Rn.load (at9 hf.toFew hp) (by omega) hp ?_
 refine Rn.store (at10 hf.toFew so) (by omega) so ?_
 rw[ew]
 refine Rn.cas (at9 hf.toFew hp) (by omega) hp (by simp) ?_
 refine Rn.yes rfl (Rn.ret ⟨rfl,_,h1.same fun r i _ =>?_,((Fr.tick [] A).trans (Fr.sett (R :=[10]) _ _ (by simp)) (S :=[10]) (e:=2)).trans (Fr.sett (R :=[9]) _ _ (by simp))⟩)
 rw[(h.remw p hp).1];rfl
theorem xoD(h:HI n t A held S mp vr rem bag pl){p c o:Nat}(hs:slabAt S p=some (c,o)):(rem p).length<=8/\ ∀g∈rem p,g<n*8:=by
 obtain⟨hp,_⟩:=wz hf h hs
 obtain⟨_,cf,_⟩:=h.drain hs hp
 refine⟨Ku (8*p) 8 _ cf fun g hg =>?_,fun g hg =>?_⟩
 .have:=(h.remb p hp g hg).1;omega
 .have:=(h.remb p hp g hg).1;omega
theorem xkR(h:HI n t A held S mp vr rem bag pl){p c o:Nat}(hs:slabAt S p=some (c,o)){β:Type}{F:List Int->T β}{Q:β->AS->Prop}
  (hF : ∀A',HI n t A' (fun g=>if g∈rem p then some (.blk c)else held g) S mp vr (updL rem p []) bag pl->A'.w 1 0=A.w 1 0->Fr [9] 20 A A'->Rn n t (F (tops (rem p))) A' Q) :
  Rn n t (.op (.load (atF (xd n t) 9 (p:Int))) fun x=>yv (p:Int) (xd n t) (p:Int) x fun y=>Kt (xd n t) F 8 y []) A Q:=by
 obtain⟨hp,_⟩:=wz hf h hs
 obtain⟨Dl,so⟩:=xoD hf h hs
 obtain⟨G1,nv⟩:=h.remw p hp
 obtain⟨_,_,h1⟩:=h.drain hs hp
 refine Rn.load (at9 hf.toFew hp) (by omega) hp ?_
 rw[G1]
 unfold yv
 rw[show xa=4095+1 from rfl,xu]
 unfold YL
 cases hr:rem p with
 | nil=>
  refine Rn.no (by simp[hdw]) ?_
  have h0:HI n t A.tick (fun g=>if g∈rem p then some (.blk c)else held g) S mp vr (updL rem p []) bag pl:=by
   have e1:(fun g=>if g∈rem p then some (HK.blk c)else held g)=held:=by funext g;rw[hr];simp
   have e2:updL rem p []=rem:=by
                     funext q;simp only[updL];split
                     .rename_i hq;rw[hq,hr]
                     .rfl
   rw[e1,e2]
   exact h.same fun r i _=>rfl
  refine Xn hf [] 8 [] A.tick (by simp) trivial (by simp) fun A' hA' =>?_
  have:=hF A' (h0.fr hA' (by simp)) (by rw[hA'.w 1 (by simp)];rfl) ((Fr.tick [] A).trans hA' (by simp) (by simp) (by simp))
  rw[hr]at this
  exact this
 | cons g0 L=>
  refine Rn.yes (bne_iff_ne.2 (by simp only[hdw];omega)) ?_
  refine Rn.cas (at9 hf.toFew hp) (by omega) hp (by rw[AS.tick_w,G1,hr]) ?_
  refine Rn.no rfl ?_
  rw[<- hr]
  refine Xn hf (rem p) 8 [] _ Dl (by rw[AS.tick_w,xV _ _ _ (show 10≠9 by decide)];exact nv) so fun A' hA' =>?_
  have h2:HI n t (A.tick.set 9 p 0).tick (fun g=>if g∈rem p then some (.blk c)else held g) S mp vr (updL rem p []) bag pl:=h1.same fun r i _=>rfl
  rw[List.nil_append]
  exact hF A' (h2.fr hA' (by simp)) (by rw[hA'.w 1 (by simp)];rfl) (((Fr.tick [] A).trans (Fr.sett (R :=[9]) _ _ (by simp)) (S :=[9]) (e:=2)).trans hA')
end
end
end Go.Proofs.YtcicjcggclhbfaaGreat
