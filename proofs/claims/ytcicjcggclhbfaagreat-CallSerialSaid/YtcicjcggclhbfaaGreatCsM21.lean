/- Part. -/
import Derived.Test.YtcicjcggclhbfaaGreatCsM20
import Derived.Test.YtcicjcggclhbfaaGreatCsM22
set_option linter.all false
open Go.IntKind (i64 u64 u32 u8)
set_option maxRecDepth 1000000
namespace Go.Proofs.YtcicjcggclhbfaaGreat
section
open Go Go.RowKit Lx
theorem Wyy{β:Type}{x y e:T β}{b:Bool}(hb:b=true)(h:x=e):(bif b then x else y)=e:=by subst hb;exact h
theorem Wzz{β:Type}{x y e:T β}{b:Bool}(hb:b=false)(h:y=e):(bif b then x else y)=e:=by subst hb;exact h
theorem row24{r:List Int}(h:r.length=24)(nk:getI r 12=1) : [getI r 0,getI r 1,getI r 2,getI r 3,getI r 4,getI r 5,getI r 6,getI r 7,getI r 8,getI r 9,getI r 10,getI r 11,bif getI r 12 != 0 then 1 else 0,getI r 13,getI r 14,getI r 15,getI r 16,getI r 17,getI r 18,getI r 19,getI r 20,getI r 21,getI r 22,getI r 23]=r:=by
 rw[nk];have nk:=nk
 match r,h,nk with
 | [_,_,_,_,_,_,_,_,_,_,_,_,_,_,_,_,_,_,_,_,_,_,_,_],_,nk=>cases nk;rfl
structure Rising(H:RowsL):Prop where
 len : ∀r∈H,r.length=24
 done : ∀r∈H,getI r 12=1
 pos : ∀r∈H,1<=getI r 10
 lt : ∀ (i j:Nat) (hi:i<H.length) (hj:j<H.length),i<j->getI H[i] 10<getI H[j] 10
section
variable{H:RowsL}(hR:Rising H)(mj:H.length<=1000)
include hR mj
theorem tak_in{β:Type}{a1:Int}{n2 j:Nat}{q9:RowsL}(hj:j<H.length)(κ:Nat->Bool->RowsL->T β):qp H.length a1 n2 j (j:Int) H q9 (H.take j) 0 false 0 [] κ=κ j false (H.take j):=by
 unfold qp;have Ee:(H.take j).length=j:=by rw[List.length_take];omega
 refine xZ (fun q=>q=κ j false (H.take j)) (fun k i =>∃m:Nat,i=(m,false,(m:Int),H.take m)/\m<=j/\k=j-m) ?_ xa j _ (by unfold xa;omega) ⟨0,by simp,by omega,by omega⟩
 rintro k i κ' ⟨m,rfl,hm,rfl⟩ ih;unfold xnO ixT rX gX;by_cases h:m<j
 .have hmH:m<H.length:=by omega
  have cj:getR (H.take j) (Int.toNat (m:Int))=H[m]:=by
   rw[show Int.toNat (m:Int)=m from rfl,ya (by rw[Ee];exact h)]
   simp
  have nh:getR H (Int.toNat (j:Int))=H[j]:=by rw[show Int.toNat (j:Int)=j from rfl,ya hj]
  have an:=hR.lt m j hmH hj h;have Dk:(H.take m).length=m:=by rw[List.length_take];omega
  refine Wyy (by rw[dT];simp only;omega) (Wyy rfl (Wyy (xU h) (Wyy (by rw[Ee];exact xM h) (Wyy (xU hj) (Wyy (xM hj) (Wzz ?_ (Wyy (xU h) (Wyy (by rw[Ee];exact xM h) (Wyy ?_ ?_)))))))))
  .simp only;rw[cj,nh,dF];omega
  .simp only[Dk,Nat.beq_refl,Bool.true_and];exact dP (by omega)
  .simp only;rw[cj,row24 (hR.len _ (List.getElem_mem hmH)) (hR.done _ (List.getElem_mem hmH)),yO (by omega)]
   have e:H.take m ++ [H[m]]=H.take (m+1):=by simp
   rw[e];exact ih (j-(m+1)) _ (by omega) ⟨m+1,rfl,by omega,rfl⟩
 .obtain rfl:m=j:=by omega
  exact Wzz (by rw[dF];simp only;omega) rfl
theorem xvr{step:Int}(hs : ∀r∈H,getI r 10<=step):takT H.length H step = .ret (H.length,H):=by
 unfold takT xwZ ZW;refine xZ (fun q=>q = .ret (H.length,H)) (fun k i =>∃j:Nat,i=(j,(j:Int),H.take j)/\j<=H.length/\k=H.length-j) ?_ xa H.length _ (by unfold xa;omega) ⟨0,by simp,by omega,by omega⟩
 rintro k i κ ⟨j,rfl,hj,rfl⟩ ih;unfold xnQ ixT rX gX;by_cases h:j<H.length
 .have nh:getR H (Int.toNat (j:Int))=H[j]:=by rw[show Int.toNat (j:Int)=j from rfl,ya h]
  have bi:=List.getElem_mem h;have h1:=hR.pos _ bi;have h2:=hs _ bi;have Dk:(H.take j).length=j:=by rw[List.length_take];omega
  refine Wyy (by rw[dT];simp only;omega) (Wyy (xU h) (Wyy (xM h) (Wzz ?_ (Wyy (xU h) (Wyy (xM h) (Wzz ?_ ?_))))))
  .simp only;rw[nh,dF];omega
  .simp only;rw[nh,dF];omega
  .simp only;rw[tak_in hR mj h];refine Wyy rfl (Wyy (xU h) (Wyy (xM h) (Wyy ?_ ?_)))
   .simp only[Dk,Nat.beq_refl,Bool.true_and];exact dP (by omega)
   .rw[nh,row24 (hR.len _ bi) (hR.done _ bi),yO (by omega)]
    have e:H.take j ++ [H[j]]=H.take (j+1):=by simp
    rw[e];exact ih (H.length-(j+1)) _ (by omega) ⟨j+1,rfl,by omega,rfl⟩
 .obtain rfl:j=H.length:=by omega
  refine Wzz (by rw[dF];simp only;omega) ?_
  simp
end
end
section
open Go Go.RowKit Lx
structure Tld(H:RowsL):Prop where
 len : ∀r∈H,r.length=24
 done : ∀r∈H,getI r 12=1
 pos : ∀r∈H,1<=getI r 8/\getI r 8<=getI r 10/\getI r 10<=getI r 9
 tc : ∀r∈H,(getI r 11 = -1/\ ¬ (getI r 21=0/\(getI r 1=7\/getI r 1=8)))\/(getI r 10<getI r 11/\getI r 11<=getI r 9/\getI r 21=0/\(getI r 1=7\/getI r 1=8))
 sep : ∀ (i j:Nat) (hi:i<H.length) (hj:j<H.length),i<j->getI H[i] 9<getI H[j] 8
theorem Tld.rising{H:RowsL}(h:Tld H):Rising H:=⟨h.len,h.done,fun r hr=>by have:=h.pos r hr;omega,fun i j hi hj dx=>by
 have h1:=h.pos _ (List.getElem_mem hi);have h2:=h.pos _ (List.getElem_mem hj);have h3:=h.sep i j hi hj dx;omega⟩
theorem Tld.snoc{H:RowsL}{x:List Int}{st:Int}(h:Tld H)(ce : ∀r∈H,getI r 9<=st)(h1:x.length=24)(h2:getI x 12=1)(h3:st<getI x 8/\getI x 8<=getI x 10/\getI x 10<=getI x 9)(h0:0<=st)
  (h4:(getI x 11 = -1/\ ¬ (getI x 21=0/\(getI x 1=7\/getI x 1=8)))\/(getI x 10<getI x 11/\getI x 11<=getI x 9/\getI x 21=0/\(getI x 1=7\/getI x 1=8))):Tld (H ++ [x]):=by
 have all : ∀ {p:List Int->Prop},(∀r∈H,p r)->p x ->∀r∈H ++ [x],p r:=fun ha hb r hr=>by
  rcases List.mem_append.1 hr with h|h
  .exact ha r h
  .rw[List.mem_singleton]at h;subst h;exact hb
 refine⟨all h.len h1,all h.done h2,all h.pos ⟨by omega,h3.2⟩,all h.tc h4,fun i j hi hj dx =>?_⟩
 simp only[dM,List.length_singleton]at hi hj;have oa:i<H.length:=by omega
 rw[List.getElem_append_left oa];by_cases pb:j<H.length
 .rw[List.getElem_append_left pb];exact h.sep i j oa pb dx
 .obtain rfl:j=H.length:=by omega
  have:=ce _ (List.getElem_mem oa);simp only[List.getElem_concat_length];omega
section
variable{n t:Nat}(hf:Small n t){A0 A:AS}{held:Nat->Option HK}{live:Nat->Option Nat}
theorem Hist.tld{H:RowsL}{st:Nat}(h:Hist n t A0 A held live H st):Tld H/\ ∀r∈H,getI r 9<=(st:Int):=by
 induction h with
 | nil=>exact⟨⟨by simp,by simp,by simp,by simp,fun i j hi=>by simp at hi⟩,by simp⟩
 | call hS ah sr hC ih=>
  rename_i A held live H st me c r A' ab ac was;obtain⟨l,T,h1,h2,h3,h4,h5⟩:=hC.lin;have ce:=hC.steps;simp only[AS.port_steps]at h1 ce;have hT:T<=A'.steps:=by rcases h5 with h5|h5<;>omega
  rw[wN _ (by omega)]at h3 h4
  refine⟨ih.1.snoc ih.2 rfl rfl ⟨?_,?_,?_⟩ (by omega) ?_,fun x hx =>?_⟩
  .show(st:Int)<st+1;omega
  .show(st:Int)+1<=st+r.lin;omega
  .show(st:Int)+r.lin<=st+A'.steps;omega
  .show((if r.touch>0 then(st:Int)+r.touch else -1) = -1/\ ¬ (r.e=0/\(c.op=7\/c.op=8)))\/((st:Int)+r.lin<(if r.touch>0 then(st:Int)+r.touch else -1)/\(if r.touch>0 then(st:Int)+r.touch else -1)<=(st:Int)+A'.steps/\r.e=0/\(c.op=7\/c.op=8));rcases h5 with⟨rfl,h5⟩|⟨h5,h6,h7,h8⟩
   .left;rw[dA (by omega)]
    exact⟨rfl,h5⟩
   .right;rw[dB (by omega)]
    exact⟨by omega,by omega,h7,h8⟩
  .rcases List.mem_append.1 hx with h|h
   .have:=ih.2 x h;omega
   .rw[List.mem_singleton]at h;subst h;show(st:Int)+A'.steps<=((st+A'.steps:Nat):Int);omega
end
end
section
open Go Go.RowKit Lx
theorem yP{β:Type}{P:T β->Prop}{x y:T β}{b:Bool}(h1:b=true->P x)(h2:b=false->P y):P (bif b then x else y):=by
 cases b
 .exact h2 rfl
 .exact h1 rfl
section
variable{H:RowsL}(hT:Tld H)(mj:H.length<=1000)
include hT mj
theorem apr_in{β:Type}{b1:Bool}{j:Nat}(hj:j<H.length)(κ0 κ1:Unit->T β):qq H.length b1 (j:Int) H 0 κ0 κ1=κ1 ():=by
 unfold qq;refine xZ (fun q=>q=κ1 ()) (fun k i =>∃m:Nat,i=(m:Int)/\m<=H.length/\k=H.length-m) ?_ xa H.length _ (by unfold xa;omega) ⟨0,rfl,by omega,by omega⟩
 rintro k i κ ⟨m,rfl,hm,rfl⟩ ih;unfold xnU ixT xnT xnS gX;by_cases h:m<H.length
 .have Bp:getR H (Int.toNat (m:Int))=H[m]:=by rw[show Int.toNat (m:Int)=m from rfl,ya h]
  have nh:getR H (Int.toNat (j:Int))=H[j]:=by rw[show Int.toNat (j:Int)=j from rfl,ya hj]
  have hk:κ (i64.wrap ((m:Int)+1))=κ1 ():=by
   rw[yO (by omega)]
   exact ih (H.length-(m+1)) _ (by omega) ⟨m+1,rfl,by omega,rfl⟩
  refine Wyy (by rw[dT];omega) (Wyy (xU hj) (Wyy (xM hj) (Wyy (xU h) (Wyy (xM h) ?_))))
  rw[Bp,nh];have p1:=hT.pos _ (List.getElem_mem h);have p2:=hT.pos _ (List.getElem_mem hj);have q2:=hT.tc _ (List.getElem_mem hj);have cq:=fun(hh:m<j)=>hT.sep m j h hj hh
  have et:=fun(hh:j<m)=>hT.sep j m hj h hh
  have aq:m=j->getI H[m] 1=getI H[j] 1:=fun hh=>by subst hh;rfl
  generalize H[m]=a at *;generalize H[j]=b at *;repeat' (first|exact hk|refine yP (P:=fun q=>q=_) (fun _ =>?_) (fun _ =>?_))
  all_goals
   exfalso;simp only[dT,dF,beq_iff_eq,bne_iff_ne,ne_eq,Bool.not_eq_true',bne_eq_false_iff_eq,dO,Bool.not_eq_false']at *;rcases Nat.lt_trichotomy m j with hh|hh|hh
   .have:=cq hh;omega
   .have:=aq hh;omega
   .have:=et hh;omega
 .obtain rfl:m=H.length:=by omega
  exact Wzz (by rw[dF];omega) rfl
theorem apr_eq:aprT H.length H = .ret true:=by
 unfold aprT xw0 ZX;refine xZ (fun q=>q = .ret true) (fun k i =>∃j:Nat,i=(j:Int)/\j<=H.length/\k=H.length-j) ?_ xa H.length _ (by unfold xa;omega) ⟨0,rfl,by omega,by omega⟩
 rintro k i κ ⟨j,rfl,hj,rfl⟩ ih;unfold xnW;by_cases h:j<H.length
 .refine Wyy (by rw[dT];omega) ?_
  rw[apr_in hT mj h,yO (by omega)]
  exact ih (H.length-(j+1)) _ (by omega) ⟨j+1,rfl,by omega,rfl⟩
 .exact Wzz (by rw[dF];omega) rfl
theorem ord_in{β:Type}{b1:Bool}{j:Nat}(hj:j<H.length)(x0 x1 x2 x3 x4 x5 x6 x7 x8 x9 fl sa:Int)(gd:Bool)(te gx zr ly Aw np Er uc Hs Hr Nx:Int)(hx:fl=getI H[j] 10)(κ0 κ1:Unit->T β):qo H.length b1 (j:Int) H x0 x1 x2 x3 x4 x5 x6 x7 x8 x9 fl sa gd te gx zr ly Aw np Er uc Hs Hr Nx 0 κ0 κ1=κ1 ():=by
 unfold qo;refine xZ (fun q=>q=κ1 ()) (fun k i =>∃m:Nat,i=(m:Int)/\m<=j/\k=j-m) ?_ xa j _ (by unfold xa;omega) ⟨0,rfl,by omega,by omega⟩
 rintro k i κ ⟨m,rfl,hm,rfl⟩ ih;unfold xnJ ixT gX;by_cases h:m<j
 .have hmH:m<H.length:=by omega
  have Bp:getR H (Int.toNat (m:Int))=H[m]:=by rw[show Int.toNat (m:Int)=m from rfl,ya hmH]
  have p1:=hT.pos _ (List.getElem_mem hmH);have p2:=hT.pos _ (List.getElem_mem hj);have hs:=hT.sep m j hmH hj h;refine Wyy (by rw[dT];omega) (Wyy (xU hmH) (Wyy (xM hmH) (Wzz ?_ ?_)))
  .rw[Bp,dO];omega
  .rw[yO (by omega)]
   exact ih (j-(m+1)) _ (by omega) ⟨m+1,rfl,by omega,rfl⟩
 .obtain rfl:m=j:=by omega
  exact Wzz (by rw[dF];omega) rfl
theorem ord_eq:ordT H.length H = .ret true:=by
 unfold ordT xwY ZV;refine xZ (fun q=>q = .ret true) (fun k i =>∃j:Nat,i=(j:Int)/\j<=H.length/\k=H.length-j) ?_ xa H.length _ (by unfold xa;omega) ⟨0,rfl,by omega,by omega⟩
 rintro k i κ ⟨j,rfl,hj,rfl⟩ ih;unfold xnM ixT xnL xhS gX;by_cases h:j<H.length
 .have nh:getR H (Int.toNat (j:Int))=H[j]:=by rw[show Int.toNat (j:Int)=j from rfl,ya h]
  have hk:κ (i64.wrap ((j:Int)+1)) = .ret true:=by
   rw[yO (by omega)]
   exact ih (H.length-(j+1)) _ (by omega) ⟨j+1,rfl,by omega,rfl⟩
  have p2:=hT.pos _ (List.getElem_mem h);have q2:=hT.tc _ (List.getElem_mem h);have d2:=hT.done _ (List.getElem_mem h);refine Wyy (by rw[dT];omega) (Wyy (xU h) (Wyy (xM h) ?_))
  rw[nh];repeat' (first|(rw[ord_in hT mj h _ _ _ _ _ _ _ _ _ _ _ _ _ _ _ _ _ _ _ _ _ _ _ _ rfl];exact hk)|exact hk|refine yP (P:=fun q=>q=_) (fun _ =>?_) (fun _ =>?_))
  all_goals
   exfalso;simp only[dT,dF,beq_iff_eq,bne_iff_ne,ne_eq,Bool.not_eq_true',bne_eq_false_iff_eq,dO,Bool.not_eq_false']at *;omega
 .obtain rfl:j=H.length:=by omega
  exact Wzz (by rw[dF];omega) rfl
end
end
section
open Go Go.RowKit Lx
structure LW(L:RowsL)(held:Nat->Option HK)(live:Nat->Option Nat)(K:Nat):Prop where
 row : ∀r∈L,∃ (g z:Nat) (x:HK),g<K/\live g=some z/\held g=some x/\r = [((8*g:Nat):Int),(z:Int),((8*x.ext:Nat):Int)]
 all : ∀g z,live g=some z ->∃r∈L,getI r 0=((8*g:Nat):Int)
 nd:L.Pairwise fun r s=>getI r 0≠getI s 0
theorem LW.nil(held:Nat->Option HK)(K:Nat):LW [] held (fun _=>none) K:=⟨by simp,fun g z h=>(by cases h),.nil⟩
section
variable{L:RowsL}{held ab:Nat->Option HK}{live:Nat->Option Nat}{K:Nat}
theorem LW.mono(h:LW L held live K)(hh : ∀g z x,live g=some z->held g=some x->ab g=some x):LW L ab live K:=by
 refine⟨fun r hr =>?_,h.all,h.nd⟩
 obtain⟨g,z,x,h1,h2,h3,h4⟩:=h.row r hr;exact⟨g,z,x,h1,h2,hh g z x h2 h3,h4⟩
theorem LW.ins{L1 L2:RowsL}(h:LW (L1++L2) held live K){g z:Nat}{x:HK}(hK:g<K)(hn:live g=none)(hx:held g=some x):LW (L1 ++ [((8*g:Nat):Int),(z:Int),((8*x.ext:Nat):Int)]::L2) held (updS live g (some z)) K:=by
 have aq : ∀r∈L1++L2,getI r 0≠((8*g:Nat):Int):=fun r hr he=>by
  obtain⟨g',z',x',_,h2,_,rfl⟩:=h.row r hr;have:g'=g:=by
   have:((8*g':Nat):Int)=((8*g:Nat):Int):=he;omega
  subst this;rw[hn]at h2;cases h2
 have aw : ∀r∈L1++L2,r∈L1 ++ [((8*g:Nat):Int),(z:Int),((8*x.ext:Nat):Int)]::L2:=fun r hr=>by
  rcases List.mem_append.1 hr with h|h<;>simp[h]
 refine⟨fun r hr =>?_,fun g' z' iy =>?_,?_⟩
 .have:r∈L1++L2\/r = [((8*g:Nat):Int),(z:Int),((8*x.ext:Nat):Int)]:=by
   rcases List.mem_append.1 hr with h|h
   .exact .inl (by simp[h])
   .rcases List.mem_cons.1 h with h|h
    .exact .inr h
    .exact .inl (by simp[h])
  rcases this with hr|rfl
  .obtain⟨g',z',x',h1,h2,h3,rfl⟩:=h.row r hr;refine⟨g',z',x',h1,?_,h3,rfl⟩;rw[xG _ _ ?_]
   .exact h2
   .intro gf;exact aq _ hr (by rw[gf];rfl)
  .exact⟨g,z,x,hK,xx _ _ _,hx,rfl⟩
 .by_cases gf:g'=g
  .subst gf;exact⟨[((8*g':Nat):Int),(z:Int),((8*x.ext:Nat):Int)],List.mem_append_right _ (List.mem_cons_self ..),rfl⟩
  .rw[xG _ _ gf]at iy;obtain⟨r,hr,he⟩:=h.all g' z' iy;exact⟨r,aw r hr,he⟩
 .have hp:=List.pairwise_append.1 h.nd;refine List.pairwise_append.2 ⟨hp.1,List.pairwise_cons.2 ⟨fun r hr he=>aq r (by simp[hr]) he.symm,hp.2.1⟩,fun r hr s hs =>?_⟩
  rcases List.mem_cons.1 hs with rfl|hs
  .exact aq r (by simp[hr])
  .exact hp.2.2 r hr s hs
theorem LW.add(h:LW L held live K){g z:Nat}{x:HK}(hK:g<K)(hn:live g=none)(hx:held g=some x):LW (L ++ [[((8*g:Nat):Int),(z:Int),((8*x.ext:Nat):Int)]]) held (updS live g (some z)) K:=
 LW.ins (L2 :=[]) (by simpa using h) hK hn hx
theorem LW.find(h:LW L held live K){g z:Nat}(hg:live g=some z):∃ (p:Nat) (x:HK) (hp:p<L.length),held g=some x/\L[p] = [((8*g:Nat):Int),(z:Int),((8*x.ext:Nat):Int)]/\ ∀m (hm:m<p),getI (L[m]'(by omega)) 0≠((8*g:Nat):Int):=by
 obtain⟨r,hr,he⟩:=h.all g z hg;obtain⟨p,hp,rfl⟩:=List.mem_iff_getElem.1 hr;obtain⟨g',z',x',h1,h2,h3,h4⟩:=h.row _ hr;have gf:g'=g:=by
  rw[h4]at he;have:((8*g':Nat):Int)=((8*g:Nat):Int):=he;omega
 subst gf;rw[hg]at h2;cases h2;refine⟨p,x',hp,h3,h4,fun m hm gv =>?_⟩
 have:=List.pairwise_iff_getElem.1 h.nd m p (by omega) hp hm
 exact this (gv.trans he.symm)
theorem LW.cut{L1 L2:RowsL}{r0:List Int}(h:LW (L1++r0::L2) held live K){g:Nat}(he:getI r0 0=((8*g:Nat):Int)):LW (L1++L2) held (updS live g none) K:=by
 have hp:=List.pairwise_append.1 h.nd;have hc:=List.pairwise_cons.1 hp.2.1;have aq : ∀r∈L1++L2,getI r 0≠((8*g:Nat):Int):=fun r hr h2=>by
  rcases List.mem_append.1 hr with hm|hm
  .exact hp.2.2 r hm r0 (by simp) (h2.trans he.symm)
  .exact hc.1 r hm (he.trans h2.symm)
 refine⟨fun r hr =>?_,fun g' z' iy =>?_,?_⟩
 .have dw:r∈L1++r0::L2:=by
   rcases List.mem_append.1 hr with h|h<;>simp[h]
  obtain⟨g',z',x',h1,h2,h3,rfl⟩:=h.row r dw;refine⟨g',z',x',h1,?_,h3,rfl⟩;rw[xG _ _ ?_]
  .exact h2
  .rintro rfl;exact aq _ hr rfl
 .by_cases gf:g'=g
  .subst gf;rw[xx]at iy;cases iy
  .rw[xG _ _ gf]at iy;obtain⟨r,hr,h2⟩:=h.all g' z' iy;refine⟨r,?_,h2⟩;rcases List.mem_append.1 hr with hm|hm
   .simp[hm]
   .rcases List.mem_cons.1 hm with rfl|hm
    .rw[he]at h2;omega
    .simp[hm]
 .exact List.pairwise_append.2 ⟨hp.1,hc.2,fun r hr s hs=>hp.2.2 r hr s (by simp[hs])⟩
theorem LW.del(h:LW L held live K){g p:Nat}(hp:p<L.length)(he:getI L[p] 0=((8*g:Nat):Int)):LW (L.eraseIdx p) held (updS live g none) K:=by
 rw[List.eraseIdx_eq_take_drop_succ];refine LW.cut (r0:=L[p]) ?_ he;rw[<- List.drop_eq_getElem_cons hp,List.take_append_drop];exact h
def wt:RowsL->Int
 | []=>0
 | r::l=>getI r 1+wt l
theorem LW.cnt:∀ {L:RowsL} {live:Nat->Option Nat},LW L held live K->cntL live K=(L.length:Int)/\sumL live K=wt L
 | [],live,h=>by
  have hn:live=fun _=>none:=by
   funext g
   cases hg:live g with
   | none=>rfl
   | some z=>obtain⟨r,hr,_⟩:=h.all g z hg;cases hr
  subst hn;exact⟨WJ K,WK K⟩
 | r::L,live,h=>by
  obtain⟨g,z,x,h1,h2,h3,rfl⟩:=h.row r (by simp)
  have ih:=LW.cnt (LW.cut (L1 :=[]) (g:=g) h rfl);rw[jR,jS,dB h1,dB h1,h2]at ih;simp only[xdV,xdW,List.nil_append]at ih;simp only[List.length_cons,wt];have:getI [((8*g:Nat):Int),(z:Int),((8*x.ext:Nat):Int)] 1=(z:Int):=rfl;omega
end
end
section
open Go Go.RowKit Lx
def wl(L:RowsL)(a:Int):Option Nat:=L.findIdx? fun r=>getI r 0==a
theorem xJ{L:RowsL}{a:Int}(hl:L.length<=1000):wa L.length L a = .ret (match wl L a with|some i=>((i:Nat):Int)|none=> -1):=by
 unfold wa xe6 wY;refine xZ (fun q=>q = .ret (match wl L a with|some i=>((i:Nat):Int)|none=> -1)) (fun k i =>∃j:Nat,i=(j:Int)/\j<=L.length/\k=L.length-j/\ ∀m (h:m<L.length),m<j->getI L[m] 0≠a) ?_ xa L.length _ (by unfold xa;omega) ⟨0,rfl,by omega,by omega,fun m _ hm=>by omega⟩
 rintro k i κ ⟨j,rfl,hj,rfl,bg⟩ ih;unfold xcW ixT gX;by_cases h:j<L.length
 .refine Wyy (by rw[dT];omega) (Wyy (xU h) (Wyy (xM h) ?_))
  rw[show Int.toNat (j:Int)=j from rfl,ya h,yO (by omega)]
  by_cases he:getI L[j] 0=a
  .refine Wyy (by simpa using he) ?_
   have:wl L a=some j:=List.findIdx?_eq_some_iff_getElem.2 ⟨h,by simpa using he,fun m hm=>by simpa using bg m (by omega) hm⟩
   rw[this]
  .refine Wzz (by simpa using he) (ih (L.length-(j+1)) _ (by omega) ⟨j+1,rfl,by omega,rfl,fun m h1 hm =>?_⟩)
   by_cases Ed:m=j
   .subst Ed;exact he
   .exact bg m h1 (by omega)
 .obtain rfl:j=L.length:=by omega
  refine Wzz (by rw[dF];omega) ?_
  have:wl L a=none:=by
   unfold wl;rw[List.findIdx?_eq_none_iff];intro r hr;obtain⟨m,hm,rfl⟩:=List.mem_iff_getElem.1 hr;simpa using bg m hm hm
  rw[this]
theorem LW.fnd{L:RowsL}{held:Nat->Option HK}{live:Nat->Option Nat}{K:Nat}(h:LW L held live K){g z:Nat}(hg:live g=some z):∃ (p:Nat) (x:HK) (hp:p<L.length),held g=some x/\L[p] = [((8*g:Nat):Int),(z:Int),((8*x.ext:Nat):Int)]/\wl L ((8*g:Nat):Int)=some p:=by
 obtain⟨p,x,hp,h1,h2,h3⟩:=h.find hg;refine⟨p,x,hp,h1,h2,List.findIdx?_eq_some_iff_getElem.2 ⟨hp,by rw[h2];simp[getI],fun m hm =>?_⟩⟩
 simpa using h3 m hm
theorem LW.fnd_none{L:RowsL}{held:Nat->Option HK}{live:Nat->Option Nat}{K:Nat}(h:LW L held live K){a:Int}(hn : ∀g z:Nat,live g=some z->a≠((8*g:Nat):Int)):wl L a=none:=by
 unfold wl;rw[List.findIdx?_eq_none_iff];intro r hr;obtain⟨g,z,x,_,h2,_,rfl⟩:=h.row r hr;simpa[getI]using fun hh=>hn g z h2 hh.symm
theorem wu{L:RowsL}{p:Nat}(hp:p<L.length)(hl:L.length<=1000):vo L.length L (p:Int) = .ret ((L.eraseIdx p).length,L.eraseIdx p):=by
 unfold vo xe7;have e1:i64.wrap ((p:Int)+1)=((p+1:Nat):Int):=yO (by omega)
 have e2:Int.toNat (p:Int)=p:=rfl;have e3:Int.toNat ((p+1:Nat):Int)=p+1:=rfl;rw[e1,e2,e3];have c1:cutL (some 0) (p-0) L=L.take p:=by simp[cutL]
 have c2:cutL (some (p+1)) (L.length-(p+1)) L=L.drop (p+1):=by
  simp only[cutL];rw[List.take_of_length_le (by simp)]
 have o1:we (some 0) (p-0) L=true:=by simp only[we];exact dP (by omega)
 have o2:we (some (p+1)) (L.length-(p+1)) L=true:=by simp only[we];exact dP (by omega)
 rw[c1,c2,o1,o2];have d1:decide ((0:Int)<=(p:Int)/\(p:Int)<=(L.length:Int))=true:=by rw[dT];omega
 have d2:decide ((0:Int)<=((p+1:Nat):Int)/\((p+1:Nat):Int)<=(L.length:Int))=true:=by rw[dT];omega
 have b1:Nat.ble (p-0) 1000=true:=dP (by omega)
 have b2:Nat.ble (0+(p-0)) 1000=true:=dP (by omega)
 have b3:Nat.ble (L.length-(p+1)) 1000=true:=dP (by omega)
 have b4:Nat.beq (List.length ([]++L.take p)) (0+(p-0))=true:=by
  rw[List.nil_append,List.length_take,show min p L.length=0+(p-0)by omega];exact Nat.beq_refl _
 rw[d1,d2,b1,b2,b3,b4];have e : []++L.take p++L.drop (p+1)=L.eraseIdx p:=by rw[List.eraseIdx_eq_take_drop_succ,List.nil_append]
 have n:0+(p-0)+(L.length-(p+1))=(L.eraseIdx p).length:=by rw[List.length_eraseIdx,dB hp];omega
 rw[e,n];rfl
end
section
open Go Go.RowKit Lx
def xhY(N:Nat)(op sz nn:Int):Int:=if op=2 then xS N nn sz else if sz<1\/sz>64*N then 0 else sz
theorem xhZ{N:Nat}(hN:N<=60){op sz nn al at_ off by_:Int}(hs:sz<9223372036854775808)(hn:nn<9223372036854775808):xcX op sz nn al at_ off by_ (64*N) = .ret (xhY N op sz nn):=by
 unfold xcX xe8 xhY;refine yP (P:=fun q=>q=_) (fun h =>?_) (fun h =>?_)
 .have am:op≠2:=by simpa using h
  rw[dA am];refine yP (P:=fun q=>q=_) (fun h1 =>?_) (fun h1=>yP (P:=fun q=>q=_) (fun h2 =>?_) (fun h2 =>?_))
  .rw[dB (.inl (dE h1))]
  .rw[dB (.inr (dE h2))]
  .rw[dA];have:=dG h1;have:=dG h2;omega
 .have am:op=2:=by simpa using h
  rw[dB am];unfold wZ;by_cases bl:0<sz/\sz<=64*N
  ·-- the sum is counted
   have hz:sz≠0:=by omega
   have ff : ∀m:Nat,(m:Int)*sz<=64*N↔(m:Int)<=64*N / sz:=fun m=>by rw[Int.le_ediv_iff_mul_le bl.1]
   refine xZ (fun q=>q = .ret (xS N nn sz)) (fun k i =>∃m:Nat,i=((m:Int)*sz,(m:Int))/\((m:Int)<=nn\/m=0)/\(m:Int)*sz<=64*N/\k=64*N+1-m) ?_ xa (64*N+1) _ (by unfold xa;omega) ⟨0,by simp,.inr rfl,by omega,by omega⟩
   rintro k i κ ⟨m,rfl,hm,Ps,rfl⟩ ih;have br:(m:Int)<=(m:Int)*sz:=by
    have:=Int.mul_le_mul_of_nonneg_left (show(1:Int)<=sz by omega) (show(0:Int)<=(m:Int)by omega)
    omega
   have ul:((m:Int)+1)*sz=(m:Int)*sz+sz:=by rw[Int.add_mul,Int.one_mul]
   unfold Zc;simp only;refine yP (P:=fun q=>q=_) (fun h1 =>?_) (fun h1 =>?_)
   .have h1:=dE h1;refine Wyy (by rw[dT];omega) (Wyy (by rw[dT];omega) ?_)
    rw[w64 (x:=(m:Int)*sz+sz) (by omega) (by omega),yO (by omega)]
    refine yP (P:=fun q=>q=_) (fun h2 =>?_) (fun h2 =>?_)
    .have h2:=dE h2;have : ¬ (nn<=64*N / sz):=fun hh=>by
      have h3:=(ff (m+1)).2 (by omega)
      rw[show((m+1:Nat):Int)=(m:Int)+1 by omega,ul]at h3
      omega
     unfold xS;rw[dA (by omega)]
    .have h2:=dG h2;refine ih (64*N+1-(m+1)) _ (by omega) ⟨m+1,?_,.inl (by omega),?_,rfl⟩
     .rw[show((m+1:Nat):Int)=(m:Int)+1 by omega,ul]
     .rw[show((m+1:Nat):Int)=(m:Int)+1 by omega,ul];omega
   .have h1:=dG h1;show T.ret ((m:Int)*sz)=_;unfold xS;by_cases Pi:0<=nn
    .have Fw:(m:Int)=nn:=by omega
     rw[dB ⟨Pi,by omega,.inr (by rw[<- Fw];exact(ff m).1 Ps)⟩,Fw]
    .have:m=0:=by omega
     subst this;rw[dA (by omega)]
     simp
  ·-- no round
   have e : ∀κ:Int×Int->T Int,Zc (64*(N:Int)) 0 op sz nn al at_ off by_ (fun _=>T.ret 0) (fun y=>T.ret y) (0,0) κ = .ret 0:=fun κ=>by
    unfold Zc;simp only;refine yP (P:=fun q=>q=_) (fun _=>yP (P:=fun q=>q=_) (fun h2=>yP (P:=fun q=>q=_) (fun h3 =>?_) (fun _=>rfl)) (fun _=>rfl)) (fun _=>rfl)
    exact absurd (show 0<sz/\sz<=64*(N:Int)from⟨dE h2,dE h3⟩) bl
   have hc:xS N nn sz=0:=by
    unfold xS;split
    .rename_i hh;by_cases hz:sz=0
     .rw[hz,Int.mul_zero]
     .have h1:64*(N:Int) / sz=0:=Int.ediv_eq_zero_of_lt (by omega) (by omega)
      have:nn=0:=by
       rcases hh.2.2 with h|h
       .exact absurd h hz
       .rw[h1]at h;omega
      rw[this,Int.zero_mul]
    .rfl
   rw[hc];show xu (4095+1) _ _=_;exact e _
end
section
open Go Go.RowKit Lx
theorem xy{α β:Type}{P:T β->Prop}{q:T α}{a:α}{k:α->T β}(h:q = .ret a)(hk:P (k a)):P (q.bind k):=by subst h;exact hk
theorem xBf{a:Int}(h2:a<9223372036854775808):ZU a = .ret (powA a):=by
 have half : ∀i:Int,1<i->i<9223372036854775808->i64.wrap (Int.tdiv i 2)=i / 2:=fun i h1 h2=>by
  rw[dS (by omega),w64 (by omega) (by omega)]
 have even : ∀i:Int,1<i->(Int.tmod i 2==0)=decide (i%2=0):=fun i h1=>by
  rw[dR (by omega)];by_cases h:i%2=0<;>simp[h]
 by_cases hp : ∃k:Nat,a=((2 ^ k:Nat):Int)
 .obtain⟨k,rfl⟩:=hp;have hA:powA ((2 ^ k:Nat):Int)=true:=by
   unfold powA;have hk:2 ^ k<9223372036854775808:=by omega
   have iw:1<=2 ^ k:=Nat.one_le_two_pow;rw[dK,dT,beq_iff_eq];refine⟨by omega,?_⟩
   rw[show((2 ^ k:Nat):Int)-1=((2 ^ k-1:Nat):Int)by omega,wN _ (by omega),xxq _ _ (by omega) (by omega)]
   rw[(Nat.and_sub_one_eq_zero_iff_isPowerOfTwo (show 2 ^ k≠0 by omega)).2 ⟨k,rfl⟩];rfl
  rw[hA];unfold ZU xbf wk;refine xZ (fun q=>q = .ret true) (fun k i=>i=((2 ^ k:Nat):Int)/\k<63) ?_ xa k _ ?_ ⟨rfl,?_⟩
  .rintro k i κ ⟨rfl,hk⟩ ih;unfold WC;have ef:2 ^ k<2 ^ 63:=(Nat.pow_lt_pow_iff_right (by omega)).2 hk
   cases k with
   | zero=>exact P_no (P:=fun q=>q = .ret true) rfl rfl
   | succ j=>
    have e:2 ^ (j+1)=2*2 ^ j:=by rw[Nat.pow_succ];omega
    have hj:1<=2 ^ j:=Nat.one_le_two_pow;refine xh (P:=fun q=>q = .ret true) (by rw[dT,e];omega) ?_
    rw[even _ (by rw[e];omega),half _ (by rw[e];omega) (by omega)]
    refine xh (P:=fun q=>q = .ret true) (by rw[dT,e];omega) (ih j _ (by omega) ⟨by rw[e];omega,by omega⟩)
  .unfold xa;by_cases hk:k<63
   .omega
   .have:=Nat.pow_le_pow_right (n:=2) (by omega) (show 63<=k by omega);omega
  .by_cases hk:k<63
   .exact hk
   .have:=Nat.pow_le_pow_right (n:=2) (by omega) (show 63<=k by omega);omega
 .have hA:powA a=false:=by
   cases hA:powA a with
   | false=>rfl
   | true=>exact absurd (xCd hA h2) hp
  rw[hA];unfold ZU xbf wk;refine xZ (fun q=>q = .ret false) (fun k i=>(¬ ∃m:Nat,i=((2 ^ m:Nat):Int))/\i<((2 ^ k:Nat):Int)/\k<64) ?_ xa 63 _ (by unfold xa;omega) ⟨hp,by omega,by omega⟩
  rintro k i κ ⟨h1,h3,hk⟩ ih;unfold WC;have ef:2 ^ k<=2 ^ 63:=(Nat.pow_le_pow_iff_right (by omega)).2 (by omega)
  have aq:(i==1)=false:=dO.2 fun hh=>h1 ⟨0,hh⟩
  by_cases hi:i>1
  .refine xh (P:=fun q=>q = .ret false) (dD hi) ?_
   rw[even _ hi,half _ hi (by omega)]
   cases k with
   | zero=>omega
   | succ j=>
    have e:2 ^ (j+1)=2*2 ^ j:=by rw[Nat.pow_succ];omega
    by_cases h5:i%2=0
    .refine xh (P:=fun q=>q = .ret false) (dD h5) (ih j _ (by omega) ⟨?_,by rw[e]at h3;omega,by omega⟩)
     rintro ⟨m,hm⟩;exact h1 ⟨m+1,by rw[Nat.pow_succ];omega⟩
    .refine P_no (P:=fun q=>q = .ret false) (dC h5) ?_
     show T.ret (i==1)=_;rw[aq]
  .refine P_no (P:=fun q=>q = .ret false) (dC hi) ?_
   show T.ret (i==1)=_;rw[aq]
def Clear(L:RowsL)(p u:Int):Prop :=∀r∈L,0<=getI r 0/\getI r 0<1000000/\0<=getI r 2/\getI r 2<1000000/\ ¬ (getI r 0<p+u/\p<getI r 0+getI r 2)
theorem xBg{β:Type}{L:RowsL}(hl:L.length<=999){p q u top:Int}{b:Bool}(h1:0<=p)(h2:p<=top)(ht:top<1000000)(h3:u<=top-p)(hu:0<=u)(hr:Clear L p u)(κ0 κ1:Unit->T β):vn L.length b L p q u 0 κ0 κ1=κ1 ():=by
 unfold vn;refine xZ (fun x=>x=κ1 ()) (fun k i =>∃m:Nat,i=(m:Int)/\m<=L.length/\k=L.length-m) ?_ xa L.length _ (by unfold xa;omega) ⟨0,rfl,by omega,by omega⟩
 rintro k i κ ⟨m,rfl,hm,rfl⟩ ih;unfold xcY ixT gX;by_cases h:m<L.length
 .have hg:getR L (Int.toNat (m:Int))=L[m]:=by rw[show Int.toNat (m:Int)=m from rfl,ya h]
  obtain⟨r1,r2,r3,r4,r5⟩:=hr _ (List.getElem_mem h);have hk:κ (i64.wrap ((m:Int)+1))=κ1 ():=by
   rw[yO (by omega)]
   exact ih (L.length-(m+1)) _ (by omega) ⟨m+1,rfl,by omega,rfl⟩
  rw[hg,w64 (x:=p+u) (by omega) (by omega),w64 (x:=getI L[m] 0+getI L[m] 2) (by omega) (by omega)]
  refine xh (P:=fun x=>x=_) (by rw[dT];omega) (xh (P:=fun x=>x=_) (xU h) (xh (P:=fun x=>x=_) (xM h) (yP (P:=fun x=>x=_) (fun c1 =>?_) (fun c1=>hk))))
  refine xh (P:=fun x=>x=_) (xU h) (xh (P:=fun x=>x=_) (xM h) (xh (P:=fun x=>x=_) (xU h) (xh (P:=fun x=>x=_) (xM h) (P_no (P:=fun x=>x=_) ?_ hk))))
  rw[dF];exact fun c2=>r5 ⟨dE c1,c2⟩
 .obtain rfl:m=L.length:=by omega
  exact P_no (P:=fun x=>x=_) (by rw[dF];omega) rfl
theorem xkz(live:Nat->Option Nat)(g:Nat)(a b:Option Nat):updS (updS live g a) g b=updS live g b:=by
 funext q
 by_cases h:q=g
 .subst h;rw[xx,xx]
 .rw[xG _ _ h,xG _ _ h,xG _ _ h]
theorem xkA(live:Nat->Option Nat){g g':Nat}(aq:g≠g')(a b:Option Nat):updS (updS live g a) g' b=updS (updS live g' b) g a:=by
 funext q
 by_cases h:q=g
 .subst h;rw[xx,xG _ _ aq,xx]
 .by_cases h':q=g'
  .subst h';rw[xx,xG _ _ h,xx]
  .rw[xG _ _ h',xG _ _ h,xG _ _ h,xG _ _ h']
theorem jc{n:Nat}{op sz nn s:Int}(hs:s=if op=2 then xS n nn sz else sz)(h1:1<=s)(h2:s<=64*n):xhY n op sz nn=s:=by
 unfold xhY;by_cases h:op=2
 .rw[dB h]at hs |-;exact hs.symm
 .rw[dA h]at hs |-;rw[dA (by omega)];exact hs.symm
theorem xrW{n:Nat}{op sz nn s:Int}(hs:s=if op=2 then xS n nn sz else sz)(h1:s<1\/64*n<s):xhY n op sz nn=0:=by
 unfold xhY;by_cases h:op=2
 .rw[dB h]at hs |-;unfold xS at hs |-;split at hs
  .rename_i hh;rw[dB hh];have h0:0<=nn*sz:=Int.mul_nonneg hh.1 hh.2.1;by_cases hz:sz=0
   .rw[hz,Int.mul_zero]
   .have ff:nn*sz<=64*(n:Int):=(Int.le_ediv_iff_mul_le (by omega)).1 (by omega)
    omega
  .rename_i hh;rw[dA hh]
 .rw[dA h]at hs |-;rw[dB (by omega)]
theorem LW.len9{L:RowsL}{held:Nat->Option HK}{live:Nat->Option Nat}{K:Nat}(h:LW L held live K){n:Nat}(hK:K=8*n)(hn:n<=60)(hG:HG n held){g:Nat}{x:HK}(hG':HG n (upd held g (some x)))(hg:held g=none):Clear L ((8*g:Nat):Int) ((8*x.ext:Nat):Int):=by
 intro r hr;obtain⟨g',z',x',h1,h2,h3,rfl⟩:=h.row r hr;have e0:getI [((8*g':Nat):Int),(z':Int),((8*x'.ext:Nat):Int)] 0=((8*g':Nat):Int):=rfl;have e2:getI [((8*g':Nat):Int),(z':Int),((8*x'.ext:Nat):Int)] 2=((8*x'.ext:Nat):Int):=rfl;have hx:=hG.ext1 h3;have aq:g'≠g:=by rintro rfl;rw[hg]at h3;cases h3
 have k1:upd held g (some x) g'=some x':=by rw[upd_ne _ _ aq];exact h3
 have k2:upd held g (some x) g=some x:=xC _ _ _;rw[e0,e2];rcases Nat.lt_or_gt_of_ne aq with an|an
 .have:=hG'.disj _ _ _ _ k1 k2 an;omega
 .have:=hG'.disj _ _ _ _ k2 k1 an;omega
end
section
open Go Go.RowKit Lx
def BQ{α β:Type}(f:α->T β)(v:T β)(q:T α):Prop:=q.bind f=v
theorem BQ.of{α β:Type}{f:α->T β}{v:T β}{q:T α}(h:BQ f v q):q.bind f=v:=h
def rgtC(n:Nat)(L:RowsL)(me:Int)(c:Cal)(fr to_ lin tc:Int)(r:Res):T Rgt:=rgtU L.length L me c.op c.size c.n c.align c.at_ c.off c.byte fr to_ lin tc true r.at_ r.n r.byte r.c1 r.c2 r.c3 r.c4 r.c5 r.e r.lin r.touch (64*(n:Int))
section
variable{n t:Nat}(hf:Small n t)(aj:n<=60){A:AS}{held:Nat->Option HK}{live:Nat->Option Nat}
include hf aj
theorem rgt_ask{L:RowsL}(hW:LW L held live (8*n))(hL:L.length<=900)(hG:HG n held)(hl:LH held live){c:Cal}{r:Res}{ab:Nat->Option HK}{ac:Nat->Option Nat}{A':AS}(hc:CalOk c)(o9:Hp n t A' ab ac)(am:c.op=1\/c.op=2\/c.op=3)
  (hA:AskRes n held live (if c.op=2 then xS n c.n c.size else c.size) (if c.op=3 then c.align else 1) r ab ac) (me fr to_ lin tc:Int):∃L',L'.length<=L.length+1/\LW L' ab ac (8*n)/\rgtC n L me c fr to_ lin tc r = .ret (true,L'.length,L'):=by
 have hn:=hf.n2;unfold rgtC rgtU rgtT jQ vh vq vg yT xX ixT gX;obtain⟨s,hs⟩ : ∃s,s=(if c.op=2 then xS n c.n c.size else c.size):=⟨_,rfl⟩;rw[<- hs]at hA;have eq:=xhZ (N:=n) aj (op:=c.op) (sz:=c.size) (nn:=c.n) (al:=c.align) (at_:=c.at_) (off:=c.off) (by_:=c.byte) hc.size hc.n;have rd:powA 1=true:=by decide
 have uy : ∀a,(a=1\/a=c.align)->ZU a = .ret (powA a):=fun a ha=>xBf (by have:=hc.align;omega)
 rcases hA with⟨rfl,rfl,hr,hA⟩|⟨g,x,hr,hg,rfl,rfl,h1,h2,h3,h4⟩
 .refine⟨L,by omega,hW,?_⟩
  refine BQ.of (xy (xJ (by omega)) ?_)
  refine xy eq ?_;rw[hr];rcases hA with⟨he,et⟩|⟨s1,s2,hA⟩
  .rw[he,xrW hs et];rcases am with h|h|h<;>rw[h]<;>(repeat (first|refine xh rfl ?_|refine P_no rfl ?_))<;>rfl
  .have ou:(xhY n c.op c.size c.n==0)=false:=by rw[jc hs s1 s2,dO];omega
   rcases hA with⟨he,hp⟩|⟨he,hp,_⟩
   .rw[he];have h3:c.op=3:=by
     by_cases h3:c.op=3
     .exact h3
     .rw[dA h3,rd]at hp;cases hp
    rw[dB h3]at hp;rw[h3];rw[h3]at ou;refine P_no rfl ?_;repeat (first|refine xh rfl ?_|refine P_no rfl ?_|refine P_no ou ?_)
    refine xy (uy _ (.inr rfl)) ?_;rw[hp];repeat (first|refine xh rfl ?_|refine P_no rfl ?_)
    exact rfl
   .rw[he];rcases am with h|h|h
    all_goals
     rw[h]at hp ou |-;repeat (first|refine xh rfl ?_|refine P_no rfl ?_|refine P_no ou ?_)
     first|refine xy (uy _ (.inl rfl)) ?_|refine xy (uy _ (.inr rfl)) ?_
     first|rw[rd]|rw[show powA c.align=true from hp]
     repeat (first|refine xh rfl ?_|refine P_no rfl ?_)
     exact rfl
 .have fe:live g=none:=by
   cases mt:live g with
   | none=>rfl
   | some z=>obtain⟨y,hy,_⟩:=hl.lh g z mt;rw[hg]at hy;cases hy
  have hx:=o9.hi.hg.ext1 (xC held g (some x));have Am:=(o9.lives hf aj (xx live g (some s.toNat))).1;have s7:=kh h1 h4;have Hh:=xCe o9.hi (xC held g (some x)) h1 h4 h3 (show(if c.op=3 then c.align else 1)<9223372036854775808 from by have:=hc.align;by_cases h:c.op=3<;>simp only[h,if_true,if_false]<;>omega)
  have Dy:=hW.len9 rfl aj hG o9.hi.hg hg;have hW2:LW L (upd held g (some x)) live (8*n):=hW.mono fun g' z y h1 h2=>by
   rw[upd_ne _ _ (by rintro rfl;rw[hg]at h2;cases h2)];exact h2
  have es:((s.toNat:Nat):Int)=s:=by omega
  have hW3:=hW2.add (z:=s.toNat) Am fe (xC held g (some x));refine⟨_,by simp,hW3,?_⟩
  refine BQ.of (xy (xJ (by omega)) ?_)
  refine xy eq ?_;rw[hr,jc hs h1 h2];have ou:(s==0)=false:=by rw[dO];omega
  have k1:decide (((8*g:Nat):Int)<0)=false:=dC (by omega)
  have k2:decide (((8*g:Nat):Int)>64*(n:Int))=false:=dC (by omega)
  have k3:decide (((8*x.ext:Nat):Int)>i64.wrap (64*(n:Int)-((8*g:Nat):Int)))=false:=by rw[w64 (by omega) (by omega)];exact dC (by omega)
  have k4:decide (((8*x.ext:Nat):Int)<s)=false:=dC (by omega)
  have k5:(Int.tmod ((8*g:Nat):Int) 8 != 0)=false:=by
   rw[dR (by omega)];simp
  have k6 : ∀a,a=1\/(c.op=3/\a=c.align)->(Int.tmod ((8*g:Nat):Int) a != 0)=false:=fun a ha=>by
   rw[dR (by omega)]
   rcases ha with rfl|⟨h,rfl⟩
   .simp[Int.emod_one]
   .rw[dB h]at Hh;simp only[Hh];rfl
  have k7:c.op=3->(!(c.align==0))=true:=fun h=>by
   rw[dB h]at h3;have:c.align≠0:=by rintro hh;rw[hh]at h3;revert h3;decide
   simp[this]
  have b1:(Nat.beq 0 0&&Nat.ble 0 1000&&we none L.length L&&Nat.ble L.length 1000)=true:=by
   have:Nat.ble L.length 1000=true:=dP (by omega)
   simp only[we,Nat.beq_refl,this];rfl
  have b2:(Nat.beq (List.length ([]++cutL none L.length L)) (0+L.length)&&Nat.ble (0+L.length) 1000)=true:=by
   rw[show cutL none L.length L=L from rfl,List.nil_append,Nat.zero_add,Nat.beq_refl,dP (show L.length<=1000 by omega)];rfl
  have fin:(T.ret (true,some (0+L.length+1,([]++cutL none L.length L) ++ [[((8*g:Nat):Int),s,((8*x.ext:Nat):Int)]]))).bind (fun r:Bool×Option (Nat×RowsL)=>T.ret (r.1,r.2.getD (L.length,L))) = .ret (true,(L ++ [[((8*g:Nat):Int),((s.toNat:Nat):Int),((8*x.ext:Nat):Int)]]).length,L ++ [[((8*g:Nat):Int),((s.toNat:Nat):Int),((8*x.ext:Nat):Int)]]):=by
   rw[show cutL none L.length L=L from rfl,es,List.nil_append,dM,Nat.zero_add];exact rfl
  rcases am with h|h|h
  all_goals
   rw[h]at h3 k6 k7 |-;repeat (first|refine xh rfl ?_|refine P_no rfl ?_|refine P_no ou ?_)
   first|refine xy (uy _ (.inl rfl)) ?_|refine xy (uy _ (.inr rfl)) ?_
   first|rw[rd]|rw[show powA c.align=true from h3]
   refine P_no rfl (P_no rfl (P_no k1 (P_no k2 (P_no k3 (P_no k4 (P_no k5 ?_))))))
   first
    | refine P_no (k6 1 (.inl rfl)) ?_
    | refine xh (k7 rfl) (P_no (k6 _ (.inr ⟨rfl,rfl⟩)) ?_)
   rw[xBg (top:=64*(n:Int)) (by omega) (by omega) (by omega) (by omega) (by omega) (by omega) Dy]
   refine xh b1 (xh b2 fin)
theorem xzd{L:RowsL}(hW:LW L held live (8*n))(hL:L.length<=900)(hG:HG n held)(hl:LH held live){c:Cal}{r:Res}{was:Int}{ab:Nat->Option HK}{ac:Nat->Option Nat}{b b':List Int}{A':AS}(hc:CalOk c)(o9:Hp n t A' ab ac)(am:c.op=4)
  (hA:Renewed n held live b c.at_ c.size (r,was) ab ac b') (me fr to_ lin tc:Int):∃L',L'.length<=L.length+1/\LW L' ab ac (8*n)/\rgtC n L me c fr to_ lin tc r = .ret (true,L'.length,L'):=by
 have hn:=hf.n2;unfold rgtC rgtU rgtT jQ vh vq vg yT xX ixT gX;have eq:=xhZ (N:=n) aj (op:=c.op) (sz:=c.size) (nn:=c.n) (al:=c.align) (at_:=c.at_) (off:=c.off) (by_:=c.byte) hc.size hc.n;have hs:c.size=(if c.op=2 then xS n c.n c.size else c.size):=by rw[dA (by omega)]
 generalize hx:(r,was)=x at hA;cases hA with
 | size l h1=>
  simp only[dH]at hx;obtain⟨rfl,rfl⟩:=hx;refine⟨L,by omega,hW,?_⟩
  refine BQ.of (xy (xJ (by omega)) (xy eq ?_))
  rw[xrW hs h1,am];repeat (first|refine xh rfl ?_|refine P_no rfl ?_)
  exact rfl
 | bad l h1 h2 h3=>
  simp only[dH]at hx;obtain⟨rfl,rfl⟩:=hx;refine⟨L,by omega,hW,?_⟩
  refine BQ.of (xy (xJ (by omega)) (xy eq ?_))
  have ou:(c.size==0)=false:=by rw[dO];omega
  rw[jc hs h1 h2,am,hW.fnd_none h3];repeat (first|refine xh rfl ?_|refine P_no rfl ?_|refine P_no ou ?_)
  exact rfl
 | none l g z x h1 h2 h3 h4 h5 h6 h7=>
  simp only[dH]at hx;obtain⟨rfl,rfl⟩:=hx;refine⟨L,by omega,hW,?_⟩
  refine BQ.of (xy (xJ (by omega)) (xy eq ?_))
  have ou:(c.size==0)=false:=by rw[dO];omega
  obtain⟨p,x',hp,g1,g2,g3⟩:=hW.fnd h4;have df:decide (((p:Nat):Int)<0)=false:=dC (by omega)
  rw[jc hs h1 h2,am,h3,g3];repeat (first|refine xh rfl ?_|refine P_no rfl ?_|refine P_no ou ?_|refine P_no df ?_)
  exact rfl
 | stay l g z x h1 h2 h3 h4 h5 h6=>
  simp only[dH]at hx;obtain⟨rfl,rfl⟩:=hx;obtain⟨p,x',hp,g1,g2,g3⟩:=hW.fnd h4;have z9:x'=x:=by rw[h5]at g1;cases g1;rfl
  subst z9;have df:decide (((p:Nat):Int)<0)=false:=dC (by omega)
  have ou:(c.size==0)=false:=by rw[dO];omega
  obtain⟨g8,_,hz⟩:=(show g<8*n/\True/\True from⟨by obtain⟨g',z',x',k1,k2,k3,k4⟩:=hW.row _ (List.getElem_mem hp);rw[g2]at k4;simp only[List.cons.injEq]at k4;omega,trivial,trivial⟩)
  have es:((c.size.toNat:Nat):Int)=c.size:=by omega
  have hW2:=(hW.del hp (g:=g) (by rw[g2];rfl)).add (z:=c.size.toNat) g8 (xx _ _ _) h5
  rw[xkz]at hW2;refine⟨_,?_,hW2,?_⟩
  .rw[dM,List.length_eraseIdx];split<;>simp
  refine BQ.of (xy (xJ (by omega)) (xy eq ?_))
  have dm:(((8*g:Nat):Int)==c.at_)=true:=by rw[h3];exact beq_self_eq_true _
  have fu:=xU hp;have hiR:=xM hp;have gu:(((8*x'.ext:Nat):Int)==getI (getR L (Int.toNat ((p:Nat):Int))) 2)=true:=by
   rw[show Int.toNat ((p:Nat):Int)=p from rfl,ya hp,g2];exact beq_self_eq_true _
  rw[jc hs h1 h2,am];rw[h3]at dm |-;rw[g3];repeat (first|refine xh rfl ?_|refine P_no rfl ?_|refine P_no ou ?_|refine P_no df ?_|refine xh dm ?_|refine xh fu ?_|refine xh hiR ?_|refine xh gu ?_)
  refine xy (wu hp (by omega)) ?_
  have b1:(Nat.beq (List.length (L.eraseIdx p)) (L.eraseIdx p).length&&Nat.ble (L.eraseIdx p).length 1000)=true:=by
   rw[Nat.beq_refl,dP];rfl;rw[List.length_eraseIdx];split<;>omega
  refine xh b1 ?_;have hd:decide (c.size<=((8*x'.ext:Nat):Int))=true:=dD h6;show T.ret (decide (c.size<=((8*x'.ext:Nat):Int)),(L.eraseIdx p).length+1,L.eraseIdx p ++ [[((8*g:Nat):Int),c.size,((8*x'.ext:Nat):Int)]])=_;rw[hd,es,dM];exact rfl
 | go l g z x g' y h1 h2 h3 h4 h5 h6 h7 h8 h9=>
  simp only[dH]at hx;obtain⟨rfl,rfl⟩:=hx;obtain⟨p,x',hp,g1,g2,g3⟩:=hW.fnd h4;have z9:x'=x:=by rw[h5]at g1;cases g1;rfl
  subst z9;have fe:live g'=Option.none:=by
   cases mt:live g' with
   | none=>rfl
   | some z=>obtain⟨y,hy,_⟩:=hl.lh g' z mt;rw[h7]at hy;cases hy
  have aq:g≠g':=by rintro rfl;rw[h4]at fe;cases fe
  have df:decide (((p:Nat):Int)<0)=false:=dC (by omega)
  have ou:(c.size==0)=false:=by rw[dO];omega
  have es:((c.size.toNat:Nat):Int)=c.size:=by omega
  have hx:=h9.ext1 (xC held g' (some y));have s7:=kh h1 h8;have Lv:g'<8*n:=by
   have hh:=(o9.lives hf aj (g:=g') (z:=c.size.toNat) (by rw[xG _ _ (Ne.symm aq),xx])).1
   exact hh
  have af:(L.eraseIdx p).length<=L.length:=by rw[List.length_eraseIdx];split<;>omega
  have hWd:=hW.del hp (g:=g) (by rw[g2];rfl)
  have Dy:=hWd.len9 rfl aj hG h9 h7;have hWm:LW (L.eraseIdx p) (upd (upd held g' (some y)) g Option.none) (updS live g Option.none) (8*n):=hWd.mono fun g1 z1 x1 k1 k2=>by
   have k3:g1≠g:=by rintro rfl;rw[xx]at k1;cases k1
   have k4:g1≠g':=by rintro rfl;rw[h7]at k2;cases k2
   rw[upd_ne _ _ k3,upd_ne _ _ k4];exact k2
  have hW2:=hWm.add (z:=c.size.toNat) Lv (by rw[xG _ _ (Ne.symm aq)];exact fe) (x:=y) (by rw[upd_ne _ _ (Ne.symm aq),xC])
  rw[xkA _ aq]at hW2;refine⟨_,?_,hW2,?_⟩
  .rw[dM];simp only[List.length_singleton];omega
  refine BQ.of (xy (xJ (by omega)) (xy eq ?_))
  have dm:(((8*g':Nat):Int)==c.at_)=false:=by rw[h3,dO];omega
  have k1:decide (((8*g':Nat):Int)<0)=false:=dC (by omega)
  have k2:decide (((8*g':Nat):Int)>64*(n:Int))=false:=dC (by omega)
  have k3:decide (((8*y.ext:Nat):Int)>i64.wrap (64*(n:Int)-((8*g':Nat):Int)))=false:=by rw[w64 (by omega) (by omega)];exact dC (by omega)
  have k4:decide (((8*y.ext:Nat):Int)<c.size)=false:=dC (by omega)
  have k5:(Int.tmod ((8*g':Nat):Int) 8 != 0)=false:=by
   rw[dR (by omega)];simp
  have k6:(Int.tmod ((8*g':Nat):Int) 1 != 0)=false:=by
   rw[dR (by omega)];simp[Int.emod_one]
  have b1:(Nat.beq 0 0&&Nat.ble 0 1000&&we none (L.eraseIdx p).length (L.eraseIdx p)&&Nat.ble (L.eraseIdx p).length 1000)=true:=by
   have:Nat.ble (L.eraseIdx p).length 1000=true:=dP (by omega)
   simp only[we,Nat.beq_refl,this];rfl
  have b2:(Nat.beq (List.length ([]++cutL none (L.eraseIdx p).length (L.eraseIdx p))) (0+(L.eraseIdx p).length)&&Nat.ble (0+(L.eraseIdx p).length) 1000)=true:=by
   rw[show cutL none (L.eraseIdx p).length (L.eraseIdx p)=L.eraseIdx p from rfl,List.nil_append,Nat.zero_add,Nat.beq_refl,dP (show(L.eraseIdx p).length<=1000 by omega)];rfl
  rw[jc hs h1 h2,am];rw[h3]at dm |-;rw[g3];repeat (first|refine xh rfl ?_|refine P_no rfl ?_|refine P_no ou ?_|refine P_no df ?_|refine P_no dm ?_)
  refine xy (wu hp (by omega)) ?_
  refine P_no k1 (P_no k2 (P_no k3 (P_no k4 (P_no k5 (P_no k6 ?_)))));rw[xBg (top:=64*(n:Int)) (by omega) (by omega) (by omega) (by omega) (by omega) (by omega) Dy]
  refine xh b1 (xh b2 ?_);show T.ret (true,0+(L.eraseIdx p).length+1,[]++cutL none (L.eraseIdx p).length (L.eraseIdx p) ++ [[((8*g':Nat):Int),c.size,((8*y.ext:Nat):Int)]])=_;rw[show cutL none (L.eraseIdx p).length (L.eraseIdx p)=L.eraseIdx p from rfl,es,List.nil_append,dM,Nat.zero_add];exact rfl
theorem rgt_eq{L:RowsL}(hW:LW L held live (8*n))(hL:L.length<=900)(hp:Hp n t A held live){I0:Nat}{c:Cal}{r:Res}{was:Int}{ab:Nat->Option HK}{ac:Nat->Option Nat}{A':AS}(hc:CalOk c)
  (hC:Called n t (A.port (I0:Int)) held live c r A' ab ac was) (me fr to_ lin tc:Int):∃L',L'.length<=L.length+1/\LW L' ab ac (8*n)/\rgtC n L me c fr to_ lin tc r = .ret (true,L'.length,L'):=by
 have hG:=hp.hi.hg;have hl:=hp.lh;have o9:=hC.hp;have hd:=hC.did;have eq:=xhZ (N:=n) aj (op:=c.op) (sz:=c.size) (nn:=c.n) (al:=c.align) (at_:=c.at_) (off:=c.off) (by_:=c.byte) hc.size hc.n;generalize(A.port (I0:Int)).b=b0 at hd;generalize(A.port (I0:Int)).w 2=f0 at hd;generalize A'.b=b1 at hd;clear hC;cases hd with
 | ask r ab ac b' am hA hb=>exact rgt_ask hf aj hW hL hG hl hc o9 am hA me fr to_ lin tc
 | renew r was ab ac b' am hR=>exact xzd hf aj hW hL hG hl hc o9 am hR me fr to_ lin tc
 | free l g z am dm ia=>
  obtain⟨p,x',bw,g1,g2,g3⟩:=hW.fnd ia;have df:decide (((p:Nat):Int)<0)=false:=dC (by omega)
  have af:(L.eraseIdx p).length<=L.length:=by rw[List.length_eraseIdx];split<;>omega
  refine⟨L.eraseIdx p,by omega,(hW.del bw (g:=g) (by rw[g2];rfl)).mono fun g1 z1 x1 k1 k2=>by rw[upd_ne _ _ (by rintro rfl;rw[xx]at k1;cases k1)];exact k2,?_⟩
  unfold rgtC rgtU rgtT jQ vh vq vg yT xX ixT gX;refine BQ.of (xy (xJ (by omega)) (xy eq ?_))
  rw[am,dm,g3];repeat (first|refine xh rfl ?_|refine P_no rfl ?_|refine P_no df ?_)
  exact xy (wu bw (by omega)) rfl
 | bad l am h2=>
  refine⟨L,by omega,hW,?_⟩
  unfold rgtC rgtU rgtT jQ vh vq vg yT xX ixT gX;refine BQ.of (xy (xJ (by omega)) (xy eq ?_))
  rw[hW.fnd_none h2];rcases am with h|h|h|h
  all_goals
   rw[h];repeat (first|refine xh rfl ?_|refine P_no rfl ?_)
   exact rfl
 | use l g z x h1 h2 h3 h4=>
  obtain⟨p,x',bw,g1,g2,g3⟩:=hW.fnd h3;have z9:x'=x:=by rw[h4]at g1;cases g1;rfl
  subst z9;have df:decide (((p:Nat):Int)<0)=false:=dC (by omega)
  have fu:=xU bw;have hiR:=xM bw;refine⟨L,by omega,hW,?_⟩
  unfold rgtC rgtU rgtT jQ vh vq vg yT xX ixT gX;refine BQ.of (xy (xJ (by omega)) (xy eq ?_))
  rw[h1,h2,g3];repeat (first|refine xh rfl ?_|refine P_no rfl ?_|refine P_no df ?_|refine xh fu ?_|refine xh hiR ?_)
  have gu:(((8*x'.ext:Nat):Int)==getI (getR L (Int.toNat ((p:Nat):Int))) 2)=true:=by
   rw[show Int.toNat ((p:Nat):Int)=p from rfl,ya bw,g2];exact beq_self_eq_true _
  show T.ret ((((8*x'.ext:Nat):Int)==getI (getR L (Int.toNat ((p:Nat):Int))) 2),L.length,L)=_;rw[gu]
 | out l g z h1 h2 h3 h4=>
  obtain⟨p,x',bw,g1,g2,g3⟩:=hW.fnd h3;have df:decide (((p:Nat):Int)<0)=false:=dC (by omega)
  have fu:=xU bw;have hiR:=xM bw;have e1:getI (getR L (Int.toNat ((p:Nat):Int))) 1=(z:Int):=by rw[show Int.toNat ((p:Nat):Int)=p from rfl,ya bw,g2];rfl
  refine⟨L,by omega,hW,?_⟩
  unfold rgtC rgtU rgtT jQ vh vq vg yT xX ixT gX;refine BQ.of (xy (xJ (by omega)) (xy eq ?_))
  rw[h2,g3];rcases h1 with h1|h1
  all_goals
   rw[h1];repeat (first|refine xh rfl ?_|refine P_no rfl ?_|refine P_no df ?_)
   refine yP (fun c1=>rfl) (fun c1 =>?_)
   have c1:=dG c1;refine xh fu (xh hiR (xh (by rw[e1];exact dD (by omega)) rfl))
 | write l m g z k h1 h2 h3 h4 h5=>
  obtain⟨p,x',bw,g1,g2,g3⟩:=hW.fnd h3;have df:decide (((p:Nat):Int)<0)=false:=dC (by omega)
  have fu:=xU bw;have hiR:=xM bw;have e1:getI (getR L (Int.toNat ((p:Nat):Int))) 1=(z:Int):=by rw[show Int.toNat ((p:Nat):Int)=p from rfl,ya bw,g2];rfl
  refine⟨L,by omega,hW,?_⟩
  unfold rgtC rgtU rgtT jQ vh vq vg yT xX ixT gX;refine BQ.of (xy (xJ (by omega)) (xy eq ?_))
  rw[h1,h2,g3];repeat (first|refine xh rfl ?_|refine P_no rfl ?_|refine P_no df ?_)
  refine P_no (dC (by omega)) ?_
  exact xh fu (xh hiR (P_no (by rw[e1];exact dC (by omega)) rfl))
 | read l m g z k y h1 h2 h3 h4 h5 h6=>
  obtain⟨p,x',bw,g1,g2,g3⟩:=hW.fnd h3;have df:decide (((p:Nat):Int)<0)=false:=dC (by omega)
  have fu:=xU bw;have hiR:=xM bw;have e1:getI (getR L (Int.toNat ((p:Nat):Int))) 1=(z:Int):=by rw[show Int.toNat ((p:Nat):Int)=p from rfl,ya bw,g2];rfl
  refine⟨L,by omega,hW,?_⟩
  unfold rgtC rgtU rgtT jQ vh vq vg yT xX ixT gX;refine BQ.of (xy (xJ (by omega)) (xy eq ?_))
  rw[h1,h2,g3];repeat (first|refine xh rfl ?_|refine P_no rfl ?_|refine P_no df ?_)
  refine P_no (dC (by omega)) ?_
  exact xh fu (xh hiR (P_no (by rw[e1];exact dC (by omega)) rfl))
 | tidy l h1=>
  refine⟨L,by omega,hW,?_⟩
  unfold rgtC rgtU rgtT jQ vh vq vg yT xX ixT gX;refine BQ.of (xy (xJ (by omega)) (xy eq ?_))
  rcases h1 with h1|h1
  all_goals
   rw[h1];repeat (first|refine xh rfl ?_|refine P_no rfl ?_)
   exact rfl
 | stats l h1=>
  refine⟨L,by omega,hW,?_⟩
  unfold rgtC rgtU rgtT jQ vh vq vg yT xX ixT gX;refine BQ.of (xy (xJ (by omega)) (xy eq ?_))
  rw[h1];repeat (first|refine xh rfl ?_|refine P_no rfl ?_)
  exact rfl
 | other l h1=>
  refine⟨L,by omega,hW,?_⟩
  unfold rgtC rgtU rgtT jQ vh vq vg yT xX ixT gX;refine BQ.of (xy (xJ (by omega)) (xy eq ?_))
  have aq : ∀k:Int,1<=k->k<=11->(c.op==k)=false:=fun k k1 k2=>by rw[dO];omega
  repeat (first|refine P_no (aq _ (by decide) (by decide)) ?_)
  exact rfl
end
end
section
open Go Go.RowKit Lx
inductive Mv(n:Nat)(held:Nat->Option HK)(live:Nat->Option Nat)(b:List Int)(c:Cal)(r:Res):(Nat->Option HK)->(Nat->Option Nat)->List Int->Prop
 | fails:r.e≠0->Mv n held live b c r held live b
 | gain (g z:Nat) (x:HK) (b':List Int):(c.op=1\/c.op=2\/c.op=3)->r.e=0->r.at_=((8*g:Nat):Int)->r.n=((8*x.ext:Nat):Int)->csz c=(z:Int)->live g=none->held g=none->z<=8*x.ext->(b'=b/\c.op≠2\/c.op=2/\b'=zeroed b (8*g) z)->Mv n held live b c r (upd held g (some x)) (updS live g (some z)) b'
 | stay (g z0 z:Nat) (x:HK):c.op=4->r.e=0->c.at_=((8*g:Nat):Int)->r.at_=((8*g:Nat):Int)->r.n=((8*x.ext:Nat):Int)->csz c=(z:Int)->live g=some z0->held g=some x->z<=8*x.ext->Mv n held live b c r held (updS live g (some z)) b
 | go (g z0:Nat) (x:HK) (g' z:Nat) (y:HK):c.op=4->r.e=0->c.at_=((8*g:Nat):Int)->r.at_=((8*g':Nat):Int)->r.n=((8*y.ext:Nat):Int)->csz c=(z:Int)->live g=some z0->held g=some x->live g'=none->held g'=none->g≠g'->z<=8*y.ext->8*x.ext<z->HG n (upd held g' (some y))->Mv n held live b c r (upd (upd held g' (some y)) g none) (updS (updS live g' (some z)) g none) (copied b (8*g) (8*g') z0)
 | free (g z:Nat):c.op=5->r.e=0->c.at_=((8*g:Nat):Int)->live g=some z->Mv n held live b c r (upd held g none) (updS live g none) b
 | write (g z k:Nat):c.op=7->r.e=0->c.at_=((8*g:Nat):Int)->c.off=(k:Int)->k<z->live g=some z->Mv n held live b c r held live (b.set (8*g+k) c.byte)
 | read (g z k:Nat):c.op=8->r.e=0->c.at_=((8*g:Nat):Int)->c.off=(k:Int)->k<z->live g=some z->b[8*g+k]? = some r.byte->Mv n held live b c r held live b
 | quiet:(c.op=6\/c.op=9\/c.op=10\/c.op=11)->r.e=0->Mv n held live b c r held live b
section
variable{n t:Nat}(hf:Small n t)(aj:n<=60){A0 A:AS}{held:Nat->Option HK}{live:Nat->Option Nat}
include hf aj
theorem Called.mv{me:Nat}{c:Cal}{r:Res}{was:Int}{ab:Nat->Option HK}{ac:Nat->Option Nat}{A':AS}(hC:Called n t (A.port (me:Int)) held live c r A' ab ac was)(hp:Hp n t A held live):Mv n held live A.b c r ab ac A'.b:=by
 have hn:=hf.n2;have hl:=hp.lh;have hd:=hC.did;rw[AS.port_b]at hd;generalize(A.port (me:Int)).w 2=f0 at hd;generalize A'.b=b1 at hd;generalize A.b=b0 at hd;clear hC;have nol : ∀g,held g=none->live g=none:=fun g hg=>by
  cases mt:live g with
  | none=>rfl
  | some z=>obtain⟨y,hy,_⟩:=hl.lh g z mt;rw[hg]at hy;cases hy
 cases hd with
 | ask r ab ac b' am hA hb=>
  rcases hA with⟨rfl,rfl,_,he⟩|⟨g,x,hr,hg,rfl,rfl,h1,h2,h3,h4⟩
  .have aq:r.e≠0:=by rcases he with⟨he,_⟩|⟨_,_,⟨he,_⟩|⟨he,_⟩⟩<;>omega
   have:b1=b0:=by
    rcases hb with⟨h,_⟩|⟨_,h,_⟩
    .exact h
    .exact absurd h aq
   subst this;exact .fails aq
  .have he:r.e=0:=by rw[hr]
   have dm:r.at_=((8*g:Nat):Int):=by rw[hr]
   have s7:=kh h1 h4;obtain⟨s,hs⟩ : ∃s:Nat,(if c.op=2 then xS n c.n c.size else c.size)=(s:Int):=⟨(if c.op=2 then xS n c.n c.size else c.size).toNat,by omega⟩
   have dz:=xBj (n:=n) (by omega) hs.symm (by omega) (by omega)
   rw[hs]at s7 |-;refine .gain g s x b1 am he dm (by rw[hr]) dz (nol g hg) hg (by omega) ?_
   rcases hb with⟨h,h'⟩|⟨h,_,g',h',h''⟩
   .exact .inl ⟨h,fun h2=>h' h2 he⟩
   .have:g'=g:=by rw[dm]at h';omega
    subst this;refine .inr ⟨h,?_⟩;rw[dB h]at hs;rw[h'',hs];rfl
 | renew r was ab ac b' am hR=>
  have dz:csz c=c.size:=by unfold csz;rw[dA (by omega)]
  generalize hx:(r,was)=x at hR;cases hR with
  | size l h1=>simp only[dH]at hx;obtain⟨rfl,rfl⟩:=hx;exact .fails (by show(11:Int)≠0;omega)
  | bad l h1 h2 h3=>simp only[dH]at hx;obtain⟨rfl,rfl⟩:=hx;exact .fails (by show(13:Int)≠0;omega)
  | none l g z x h1 h2 h3 h4 h5 h6 h7=>simp only[dH]at hx;obtain⟨rfl,rfl⟩:=hx;exact .fails (by show(15:Int)≠0;omega)
  | stay l g z x h1 h2 h3 h4 h5 h6=>
   simp only[dH]at hx;obtain⟨rfl,rfl⟩:=hx;exact .stay g z c.size.toNat x am rfl h3 rfl rfl (by rw[dz];omega) h4 h5 (by omega)
  | go l g z x g' y h1 h2 h3 h4 h5 h6 h7 h8 h9=>
   simp only[dH]at hx;obtain⟨rfl,rfl⟩:=hx;have:=kh h1 h8;exact .go g z x g' c.size.toNat y am rfl h3 rfl rfl (by rw[dz];omega) h4 h5 (nol g' h7) h7 (by rintro rfl;rw[h5]at h7;cases h7) (by omega) (by omega) h9
 | free l g z am dm ia=>exact .free g z am rfl dm ia
 | bad l am h2=>exact .fails (by show(13:Int)≠0;omega)
 | use l g z x h1 h2 h3 h4=>exact .quiet (.inl h1) rfl
 | out l g z h1 h2 h3 h4=>exact .fails (by show(14:Int)≠0;omega)
 | write l m g z k h1 h2 h3 h4 h5=>exact .write g z k h1 rfl h2 h4 h5 h3
 | read l m g z k y h1 h2 h3 h4 h5 h6=>exact .read g z k h1 rfl h2 h4 h5 h3 h6
 | tidy l h1=>exact .quiet (by omega) rfl
 | stats l h1=>exact .quiet (by omega) rfl
 | other l h1=>exact .fails (by show(1:Int)≠0;omega)
structure Sq(n t:Nat)(H:RowsL)(hA:Nat->AS)(hh:Nat->Nat->Option HK)(hl:Nat->Nat->Option Nat):Prop where
 h0:hh 0=fun _=>none
 l0:hl 0=fun _=>none
 hp : ∀j,j<=H.length->Hp n t (hA j) (hh j) (hl j)
 step : ∀ (j:Nat) (hj:j<H.length),∃ (me:Nat) (c:Cal) (r:Res) (was x1 x2 x3 x4:Int),me<t/\CalOk c/\Called n t ((hA j).port (me:Int)) (hh j) (hl j) c r (hA (j+1)) (hh (j+1)) (hl (j+1)) was/\H[j]=evRow me c x1 x2 x3 x4 r
omit hf aj in
theorem Hist.seq{H:RowsL}{st:Nat}(h:Hist n t A0 A held live H st)(Di:Hp n t A0 (fun _=>none) (fun _=>none)):∃ (hA:Nat->AS) (hh:Nat->Nat->Option HK) (hl:Nat->Nat->Option Nat),hA 0=A0/\hA H.length=A/\hh H.length=held/\hl H.length=live/\Sq n t H hA hh hl:=by
 induction h with
 | nil=>exact⟨fun _=>A0,fun _ _=>none,fun _ _=>none,rfl,rfl,rfl,rfl,rfl,rfl,fun _ _=>Di,fun j hj=>by simp at hj⟩
 | call hS ah sr hC ih=>
  rename_i A held live H st me c r A' ab ac was;obtain⟨hA,hh,hl,e0,e1,e2,e3,s0,s1,s2,s3⟩:=ih;have le : ∀j,j<=H.length->(if j<=H.length then hA j else A')=hA j/\(if j<=H.length then hh j else ab)=hh j/\(if j<=H.length then hl j else ac)=hl j:=fun j hj=>by simp only[dB hj,and_self]
  have gt:(if H.length+1<=H.length then hA (H.length+1)else A')=A'/\(if H.length+1<=H.length then hh (H.length+1)else ab)=ab/\(if H.length+1<=H.length then hl (H.length+1)else ac)=ac:=by simp only[dA (show ¬H.length+1<=H.length by omega),and_self]
  refine⟨fun j=>if j<=H.length then hA j else A',fun j=>if j<=H.length then hh j else ab,fun j=>if j<=H.length then hl j else ac,?_,?_,?_,?_,?_,?_,fun j hj =>?_,fun j hj =>?_⟩
  .exact(le 0 (by omega)).1.trans e0
  .simp only[dM,List.length_singleton];exact gt.1
  .simp only[dM,List.length_singleton];exact gt.2.1
  .simp only[dM,List.length_singleton];exact gt.2.2
  .exact(le 0 (by omega)).2.1.trans s0
  .exact(le 0 (by omega)).2.2.trans s1
  .simp only[dM,List.length_singleton]at hj;by_cases h:j<=H.length
   .obtain⟨h1,h2,h3⟩:=le j h;simp only[h1,h2,h3];exact s2 j h
   .obtain rfl:j=H.length+1:=by omega
    obtain⟨h1,h2,h3⟩:=gt;simp only[h1,h2,h3];exact hC.hp
  .simp only[dM,List.length_singleton]at hj;obtain⟨h1,h2,h3⟩:=le j (by omega)
   by_cases h:j<H.length
   .obtain⟨k1,k2,k3⟩:=le (j+1) (by omega)
    simp only[h1,h2,h3,k1,k2,k3];rw[List.getElem_append_left h];exact s3 j h
   .obtain rfl:j=H.length:=by omega
    obtain⟨k1,k2,k3⟩:=gt;simp only[h1,h2,h3,k1,k2,k3];rw[e1,e2,e3];exact⟨me,c,r,was,_,_,_,_,ah,sr,hC,List.getElem_concat_length rfl _⟩
theorem jdg_eq{H:RowsL}{st:Nat}(h:Hist n t A0 A held live H st)(Di:Hp n t A0 (fun _=>none) (fun _=>none))(af:H.length<=800)(ce:st<=9000000000000000000):jdgT H.length H (n:Int) = .ret true:=by
 have hn:=hf.n2;obtain⟨hT,hS⟩:=h.tld;obtain⟨hA,hh,hl,e0,e1,e2,e3,hq⟩:=h.seq Di;unfold jdgT xw1;refine xy (P:=fun q=>q=_) (ord_eq hT (by omega)) (Wzz rfl (xy (P:=fun q=>q=_) (xvr hT.rising (by omega) fun r hr =>?_) ?_))
 .have:=hS r hr;have:=hT.pos r hr;omega
 unfold ZY;refine xZ (fun q=>q = .ret true) (fun k i =>∃ (j:Nat) (L:RowsL),i=(L.length,(j:Int),L)/\j<=H.length/\k=H.length-j/\L.length<=j/\LW L (hh j) (hl j) (8*n)) ?_ xa H.length _ (by unfold xa;omega) ⟨0,[],rfl,by omega,by omega,by simp,by rw[hq.h0,hq.l0];exact LW.nil _ _⟩
 rintro k i κ ⟨j,L,rfl,hj,rfl,hLj,hW⟩ ih;unfold xnY ixT rgtW gX;simp only;by_cases h:j<H.length
 .obtain⟨me,c,r,was,x1,x2,x3,x4,ah,hc,hC,ba⟩:=hq.step j h;obtain⟨L',l1,l2,l3⟩:=rgt_eq hf aj hW (by omega) (hq.hp j (by omega)) hc hC (me:Int) x1 x2 x3 x4
  have nh:getR H (Int.toNat (j:Int))=evRow me c x1 x2 x3 x4 r:=by rw[show Int.toNat (j:Int)=j from rfl,ya h,ba]
  refine Wyy (dD (by omega)) (Wyy (xU h) (Wyy (xM h) (Wzz (dC (by omega)) (Wzz (dC (by omega)) ?_))))
  rw[nh,w64 (x:=64*(n:Int)) (by omega) (by omega),yO (by omega)]
  refine xy (P:=fun q=>q=_) l3 (Wzz rfl ?_)
  exact ih (H.length-(j+1)) _ (by omega) ⟨j+1,L',rfl,by omega,rfl,by omega,l2⟩
 .obtain rfl:j=H.length:=by omega
  exact Wzz (dC (by omega)) rfl
end
end
section
open Go Go.RowKit Lx
theorem liv_in{β:Type}{n0 n1:Nat}{a3:Int}{q7 q8 q9 L:RowsL}(h3:Row3 L)(hL:L.length<=900)(bd ay ca bu bj bn bq dg dr e9 ez eu:Int)(ta:Bool)(ct cy lk cd fk io im il ik ij ii:Int)(κ:Nat->Bool->RowsL->T β){v:Int}(hv:v=bif ay==2 then i64.wrap (ca*bu)else ca) :
  (∃d,d<=L.length/\kr n0 n1 L.length a3 q7 q8 q9 L bd ay ca bu bj bn bq dg dr e9 ez eu ta ct cy lk cd fk io im il ik ij ii 0 false 0 [] κ=κ (L.length+1) true (L.take d ++ [ct,v,cy]::L.drop d))\/
   kr n0 n1 L.length a3 q7 q8 q9 L bd ay ca bu bj bn bq dg dr e9 ez eu ta ct cy lk cd fk io im il ik ij ii 0 false 0 [] κ=κ L.length false L:=by
 unfold kr;refine xZ (fun q=>(∃d,d<=L.length/\q=κ (L.length+1) true (L.take d ++ [ct,v,cy]::L.drop d))\/q=κ L.length false L)
  (fun k i =>∃m:Nat,m<=L.length/\k=L.length-m/\(i=(m,false,(m:Int),L.take m)\/ ∃d,d<=m/\i=(m+1,true,(m:Int),L.take d ++ [ct,v,cy]::(L.take m).drop d))) ?_ xa L.length _ (by unfold xa;omega) ⟨0,by omega,by omega,.inl (by simp)⟩
 rintro k i κ' ⟨m,hm,rfl,hi⟩ ih;unfold xn0 ixT r3X gX;by_cases h:m<L.length
 .have hg:getR L (Int.toNat (m:Int))=L[m]:=by rw[show Int.toNat (m:Int)=m from rfl,ya h]
  have D9:=row3 (h3 _ (List.getElem_mem h));have Dk:(L.take m).length=m:=by rw[List.length_take];omega
  have ht:L.take m ++ [L[m]]=L.take (m+1):=by simp
  have hb:Nat.ble m 1000=true:=dP (by omega)
  have cm:Nat.ble (m+1) 1000=true:=dP (by omega)
  have hs:i64.wrap ((m:Int)+1)=((m+1:Nat):Int):=yO (by omega)
  have d1:decide ((m:Int)<(L.length:Int))=true:=dD (by omega)
  have d2:=xU h;have d3:=xM h;rcases hi with rfl|⟨d,hd,rfl⟩
  .simp only[hg,hs,D9,d1,d2,d3,Dk,hb,cm,Nat.beq_refl,dM,List.length_singleton,cond_true,Bool.and_self,Bool.not_false];have Ba : ∀v',v'=v->κ' (m+1+1,true,((m+1:Nat):Int),L.take m ++ [[ct,v',cy]] ++ [L[m]])=κ' (m+1+1,true,((m+1:Nat):Int),L.take m ++ [ct,v,cy]::(L.take (m+1)).drop m):=by
    rintro _ rfl;rw[List.append_assoc]
    congr 5
    rw[<- ht,List.drop_append_of_le_length (by omega),List.drop_of_length_le (by omega)]
    rfl
   refine yP (P:=fun q=>(∃d,d<=L.length/\q=κ (L.length+1) true (L.take d ++ [ct,v,cy]::L.drop d))\/q=κ L.length false L) (fun c1=>yP (P:=fun q=>(∃d,d<=L.length/\q=κ (L.length+1) true (L.take d ++ [ct,v,cy]::L.drop d))\/q=κ L.length false L) (fun c2 =>?_) (fun c2 =>?_)) (fun c1 =>?_)
   .rw[Ba _ (by rw[hv,c2];rfl)]
    exact ih (L.length-(m+1)) _ (by omega) ⟨m+1,by omega,rfl,.inr ⟨m,by omega,rfl⟩⟩
   .rw[Ba _ (by rw[hv,c2];rfl)]
    exact ih (L.length-(m+1)) _ (by omega) ⟨m+1,by omega,rfl,.inr ⟨m,by omega,rfl⟩⟩
   .rw[ht];exact ih (L.length-(m+1)) _ (by omega) ⟨m+1,by omega,rfl,.inl rfl⟩
  .have fp:(L.take d ++ [ct,v,cy]::(L.take m).drop d).length=m+1:=by
    simp only[dM,List.length_cons,List.length_drop,List.length_take];omega
   simp only[hg,hs,D9,d1,d2,d3,fp,hb,cm,Nat.beq_refl,cond_true,Bool.and_self,Bool.not_true,cond_false];have e:L.take d ++ [ct,v,cy]::(L.take m).drop d ++ [L[m]]=L.take d ++ [ct,v,cy]::(L.take (m+1)).drop d:=by
    rw[List.append_assoc,List.cons_append,<- ht,List.drop_append_of_le_length (by omega)]
   rw[e];exact ih (L.length-(m+1)) _ (by omega) ⟨m+1,by omega,rfl,.inr ⟨d,by omega,rfl⟩⟩
 .obtain rfl:m=L.length:=by omega
  have d1:decide (((L.length:Nat):Int)<(L.length:Int))=false:=dC (by omega)
  rcases hi with rfl|⟨d,hd,rfl⟩
  .simp only[d1,cond_false,List.take_length];exact .inr trivial
  .simp only[d1,cond_false,List.take_length];exact .inl ⟨d,hd,rfl⟩
section
variable{n t:Nat}(hf:Small n t)(aj:n<=60){A0 A:AS}{held:Nat->Option HK}{live:Nat->Option Nat}
include hf aj
omit hf aj in
theorem LW.row3{L:RowsL}{K:Nat}(h:LW L held live K):Row3 L:=fun r hr=>by
 obtain⟨g,z,x,_,_,_,rfl⟩:=h.row r hr;rfl
theorem liv_eq{H:RowsL}{hA:Nat->AS}{hh:Nat->Nat->Option HK}{hl:Nat->Nat->Option Nat}(hq:Sq n t H hA hh hl)(hT:Tld H)(hS : ∀r∈H,getI r 9<=9000000000000000000)(af:H.length<=800):∃L,L.length<=H.length/\livT H.length H 9223372036854775807 = .ret (L.length,L)/\LW L (hh H.length) (hl H.length) (8*n):=by
 have hn:=hf.n2
 suffices hs:(fun q =>∃L:RowsL,L.length<=H.length/\q=T.ret (L.length,L)/\LW L (hh H.length) (hl H.length) (8*n)) (livT H.length H 9223372036854775807)from hs
 generalize hP:(fun q =>∃L:RowsL,L.length<=H.length/\q=T.ret (L.length,L)/\LW L (hh H.length) (hl H.length) (8*n))=P
 unfold livT xw2;refine xy (xvr hT.rising (by omega) fun r hr =>?_) ?_
 .have:=hS r hr;have:=hT.pos r hr;omega
 unfold ZZ;refine xZ P (fun k i =>∃ (j:Nat) (L:RowsL),i=(L.length,(j:Int),L)/\j<=H.length/\k=H.length-j/\L.length<=j/\LW L (hh j) (hl j) (8*n)) ?_ xa H.length _ (by unfold xa;omega) ⟨0,[],rfl,by omega,by omega,by simp,by rw[hq.h0,hq.l0];exact LW.nil _ _⟩
 rintro k i κ ⟨j,L,rfl,hj,rfl,hLj,hW⟩ ih;unfold xn3 ixT Km xn2 gX;simp only;by_cases h:j<H.length
 .obtain⟨me,c,r,was,x1,x2,x3,x4,ah,hc,hC,ba⟩:=hq.step j h;have nh:getR H (Int.toNat (j:Int))=evRow me c x1 x2 x3 x4 r:=by rw[show Int.toNat (j:Int)=j from rfl,ya h,ba]
  refine xh (dD (by omega)) (xh (xU h) (xh (xM h) ?_))
  rw[nh,yO (by omega)]
  have Af:=hq.hp j (by omega)
  have sg:=hq.hp (j+1) (by omega)
  have hm:=Called.mv hf aj hC Af;have nxt : ∀L',L'.length<=L.length+1->LW L' (hh (j+1)) (hl (j+1)) (8*n)->P (κ (L'.length,((j+1:Nat):Int),L')):=fun L' l1 l2=>
   ih (H.length-(j+1)) _ (by omega) ⟨j+1,L',rfl,by omega,rfl,by omega,l2⟩
  have g0:(getI (evRow me c x1 x2 x3 x4 r) 21 != 0)=(r.e != 0):=rfl
  -- a row put in
  have puts : ∀ (L1:RowsL),L1.length<=L.length->Row3 L1->(∀L',(L'.length=L1.length+1/\ ∃A B,L1=A++B/\L'=A ++ [r.at_,csz c,r.n]::B)->P (κ (L'.length,((j+1:Nat):Int),L')))->
    ∀q0 q4 q6:RowsL,P (kr 0 H.length L1.length (j:Int) q4 q0 q6 L1 me c.op c.size c.n c.align c.at_ c.off c.byte x1 x2 x3 x4 true r.at_ r.n r.byte r.c1 r.c2 r.c3 r.c4 r.c5 r.e r.lin r.touch 0 false 0 [] fun y0 y1 y2=>
     bif !y1 then(bif c.op==2 then(bif Nat.beq (List.length y2) y0&&Nat.ble y0 1000 then κ (y0+1,((j+1:Nat):Int),y2 ++ [[r.at_,i64.wrap (c.size*c.n),r.n]])else .fail) else
      bif Nat.beq (List.length y2) y0&&Nat.ble y0 1000 then κ (y0+1,((j+1:Nat):Int),y2 ++ [[r.at_,c.size,r.n]])else .fail)else κ (y0,((j+1:Nat):Int),y2)):=by
   intro L1 hL1 Qy hk q0 q4 q6;have hv:csz c=bif c.op==2 then i64.wrap (c.size*c.n)else c.size:=by
    unfold csz;by_cases h2:c.op=2
    .rw[dB h2,show(c.op==2)=true by simp[h2]];rfl
    .rw[dA h2,show(c.op==2)=false by simp[h2]];rfl
   rcases liv_in (n0:=0) (n1:=H.length) (a3:=(j:Int)) (q7:=q4) (q8:=q0) (q9:=q6) Qy (by omega) me c.op c.size c.n c.align c.at_ c.off c.byte x1 x2 x3 x4 true r.at_ r.n r.byte r.c1 r.c2 r.c3 r.c4 r.c5 r.e r.lin r.touch (fun y0 y1 y2=>
     bif !y1 then(bif c.op==2 then(bif Nat.beq (List.length y2) y0&&Nat.ble y0 1000 then κ (y0+1,((j+1:Nat):Int),y2 ++ [[r.at_,i64.wrap (c.size*c.n),r.n]])else .fail) else
      bif Nat.beq (List.length y2) y0&&Nat.ble y0 1000 then κ (y0+1,((j+1:Nat):Int),y2 ++ [[r.at_,c.size,r.n]])else .fail)else κ (y0,((j+1:Nat):Int),y2)) hv with⟨d,hd,e⟩|e
   .rw[e];refine P_no rfl ?_;have:=hk (L1.take d ++ [r.at_,csz c,r.n]::L1.drop d) ⟨by simp only[dM,List.length_cons,List.length_take,List.length_drop];omega,L1.take d,L1.drop d,(List.take_append_drop d L1).symm,rfl⟩
    have F1:(L1.take d ++ [r.at_,csz c,r.n]::L1.drop d).length=L1.length+1:=by simp only[dM,List.length_cons,List.length_take,List.length_drop];omega
    rw[F1]at this;exact this
   .rw[e];refine xh rfl ?_;have:=hk (L1 ++ [[r.at_,csz c,r.n]]) ⟨by simp,L1,[],by simp,rfl⟩
    rw[dM]at this;have hb:(Nat.beq L1.length L1.length&&Nat.ble L1.length 1000)=true:=by rw[Nat.beq_refl,dP (by omega)];rfl
    refine yP (fun h2=>xh hb ?_) (fun h2=>xh hb ?_)
    .rw[hv,h2]at this;exact this
    .rw[hv,h2]at this;exact this
  generalize hh (j+1)=ab at *;generalize hl (j+1)=ac at *;generalize(hA (j+1)).b=b' at hm;clear hC;cases hm with
  | fails he=>exact xh (by rw[g0];simpa using he) (nxt L (by omega) hW)
  | gain g z x b' am he dm gu dz fe F8 hz hb=>
   have Am:=(sg.lives hf aj (xx (hl j) g (some z))).1;refine P_no (by rw[g0,he];rfl) ?_
   have o4:(getI (evRow me c x1 x2 x3 x4 r) 1==4)=false:=by show(c.op==4)=false;rw[dO];omega
   have o5:(getI (evRow me c x1 x2 x3 x4 r) 1==5)=false:=by show(c.op==5)=false;rw[dO];omega
   have o1:decide (getI (evRow me c x1 x2 x3 x4 r) 1>=1)=true:=by show decide (c.op>=1)=true;rw[dT];omega
   have Og:decide (getI (evRow me c x1 x2 x3 x4 r) 1<=4)=true:=by show decide (c.op<=4)=true;rw[dT];omega
   have Gi:wl L (getI (evRow me c x1 x2 x3 x4 r) 13)=none:=hW.fnd_none fun g' z' iy Ni=>by
    have:r.at_=((8*g':Nat):Int):=Ni;have:g'=g:=by omega
    subst this;rw[fe]at iy;cases iy
   refine P_no o4 (P_no o5 (xh o1 (xh Og (xy (xJ (by omega)) ?_))))
   rw[show wl L (getI (evRow me c x1 x2 x3 x4 r) 13)=none from Gi];refine P_no rfl (puts L (by omega) hW.row3 ?_ [] H H)
   rintro L' ⟨mt,A1,B1,rfl,rfl⟩;refine nxt _ (by omega) ?_
   rw[dm,dz,gu];exact LW.ins (hW.mono fun g' z' y h1 h2=>by rw[upd_ne _ _ (by rintro rfl;rw[F8]at h2;cases h2)];exact h2) Am fe (xC _ _ _)
  | stay g z0 z x am he hca dm gu dz ia hhx hz=>
   obtain⟨p,x',hp,g1,g2,g3⟩:=hW.fnd ia;have z9:x'=x:=by rw[hhx]at g1;cases g1;rfl
   subst z9;have Am:=(sg.lives hf aj (xx (hl j) g (some z))).1;refine P_no (by rw[g0,he];rfl) (xh (by show(c.op==4)=true;rw[am];rfl) (xy (xJ (by omega)) ?_))
   rw[show getI (evRow me c x1 x2 x3 x4 r) 5=((8*g:Nat):Int)from hca,g3];have Bn:(L.eraseIdx p).length<=L.length:=by rw[List.length_eraseIdx];split<;>omega
   refine xh (show decide (((p:Nat):Int)>=0)=true from dD (by omega)) (xy (wu hp (by omega)) ?_)
   have hWd:=hW.del hp (g:=g) (by rw[g2];rfl)
   have Gi:wl (L.eraseIdx p) r.at_=none:=hWd.fnd_none fun g' z' iy Ni=>by
    have:g'=g:=by omega
    subst this;rw[xx]at iy;cases iy
   refine xh (by show decide (c.op>=1)=true;rw[dT];omega) (xh (by show decide (c.op<=4)=true;rw[dT];omega) (xy (xJ (by omega)) ?_))
   rw[show wl (L.eraseIdx p) (getI (evRow me c x1 x2 x3 x4 r) 13)=none from Gi];refine P_no rfl (puts (L.eraseIdx p) (by omega) hWd.row3 ?_ [] H H)
   rintro L' ⟨mt,A1,B1,e1,rfl⟩;refine nxt _ (by omega) ?_
   rw[dm,dz,gu];rw[e1]at hWd;have:=LW.ins (z:=z) hWd Am (xx _ _ _) hhx
   rwa [xkz]at this
  | go g z0 x g' z y am he hca dm gu dz ia hhx fe F8 aq hz hxz hHG=>
   obtain⟨p,x',hp,g1,g2,g3⟩:=hW.fnd ia;have Am:=(sg.lives hf aj (g:=g') (z:=z) (by rw[xG _ _ (Ne.symm aq),xx])).1
   refine P_no (by rw[g0,he];rfl) (xh (by show(c.op==4)=true;rw[am];rfl) (xy (xJ (by omega)) ?_))
   rw[show getI (evRow me c x1 x2 x3 x4 r) 5=((8*g:Nat):Int)from hca,g3];have Bn:(L.eraseIdx p).length<=L.length:=by rw[List.length_eraseIdx];split<;>omega
   refine xh (show decide (((p:Nat):Int)>=0)=true from dD (by omega)) (xy (wu hp (by omega)) ?_)
   have hWd:=hW.del hp (g:=g) (by rw[g2];rfl)
   have Gi:wl (L.eraseIdx p) r.at_=none:=hWd.fnd_none fun g1 z1 Gd y8=>by
    have:g1=g':=by omega
    subst this;rw[xG _ _ (Ne.symm aq),fe]at Gd;cases Gd
   refine xh (by show decide (c.op>=1)=true;rw[dT];omega) (xh (by show decide (c.op<=4)=true;rw[dT];omega) (xy (xJ (by omega)) ?_))
   rw[show wl (L.eraseIdx p) (getI (evRow me c x1 x2 x3 x4 r) 13)=none from Gi];refine P_no rfl (puts (L.eraseIdx p) (by omega) hWd.row3 ?_ [] H H)
   rintro L' ⟨mt,A1,B1,e1,rfl⟩;refine nxt _ (by omega) ?_
   rw[dm,dz,gu];have hWm:LW (L.eraseIdx p) (upd (upd (hh j) g' (some y)) g none) (updS (hl j) g none) (8*n):=hWd.mono fun g1 z1 x1 k1 k2=>by
    have k3:g1≠g:=by rintro rfl;rw[xx]at k1;cases k1
    have k4:g1≠g':=by rintro rfl;rw[F8]at k2;cases k2
    rw[upd_ne _ _ k3,upd_ne _ _ k4];exact k2
   rw[e1]at hWm;have:=LW.ins (z:=z) hWm Am (by rw[xG _ _ (Ne.symm aq)];exact fe) (x:=y) (by rw[upd_ne _ _ (Ne.symm aq),xC])
   rwa [xkA _ aq]at this
  | free g z am he hca ia=>
   obtain⟨p,x',hp,g1,g2,g3⟩:=hW.fnd ia;refine P_no (by rw[g0,he];rfl) (P_no (by show(c.op==4)=false;rw[am];rfl) (xh (by show(c.op==5)=true;rw[am];rfl) (xy (xJ (by omega)) ?_)))
   rw[show getI (evRow me c x1 x2 x3 x4 r) 5=((8*g:Nat):Int)from hca,g3];have Bn:(L.eraseIdx p).length<=L.length:=by rw[List.length_eraseIdx];split<;>omega
   refine xh (show decide (((p:Nat):Int)>=0)=true from dD (by omega)) (xy (wu hp (by omega)) ?_)
   refine xh (by show decide (c.op>=1)=true;rw[dT];omega) (P_no (by show decide (c.op<=4)=false;rw[dF];omega) ?_)
   exact nxt _ (by omega) ((hW.del hp (g:=g) (by rw[g2];rfl)).mono fun g1 z1 x1 k1 k2=>by rw[upd_ne _ _ (by rintro rfl;rw[xx]at k1;cases k1)];exact k2)
  | write g z k0 am he hca hco hk ia=>
   refine P_no (by rw[g0,he];rfl) (P_no (by show(c.op==4)=false;rw[am];rfl) (P_no (by show(c.op==5)=false;rw[am];rfl) (xh (by show decide (c.op>=1)=true;rw[dT];omega) (P_no (by show decide (c.op<=4)=false;rw[dF];omega) (nxt L (by omega) hW)))))
  | read g z k0 am he hca hco hk ia Au=>
   refine P_no (by rw[g0,he];rfl) (P_no (by show(c.op==4)=false;rw[am];rfl) (P_no (by show(c.op==5)=false;rw[am];rfl) (xh (by show decide (c.op>=1)=true;rw[dT];omega) (P_no (by show decide (c.op<=4)=false;rw[dF];omega) (nxt L (by omega) hW)))))
  | quiet am he=>
   refine P_no (by rw[g0,he];rfl) (P_no (by show(c.op==4)=false;rw[dO];omega) (P_no (by show(c.op==5)=false;rw[dO];omega) (xh (by show decide (c.op>=1)=true;rw[dT];omega) (P_no (by show decide (c.op<=4)=false;rw[dF];omega) (nxt L (by omega) hW)))))
 .obtain rfl:j=H.length:=by omega
  refine P_no (dC (by omega)) ?_
  rw[<- hP];exact⟨L,hLj,rfl,hW⟩
theorem Sq.ci{H:RowsL}{hA:Nat->AS}{hh:Nat->Nat->Option HK}{hl:Nat->Nat->Option Nat}(hq:Sq n t H hA hh hl)(hz : ∀i,(hA 0).w 2 i=0):∀j,j<=H.length->CI (8*n) ((hA j).w 2) (hl j)
 | 0,_=>by rw[hq.l0];exact CI.zero hz
 | j+1,hj=>by
  obtain⟨me,c,r,was,x1,x2,x3,x4,ah,hc,hC,ba⟩:=hq.step j hj;have Af:=hq.hp j (by omega)
  exact hC.cnt_live hf aj (Af.port _) (Sq.ci hq hz j (by omega))
omit hf aj in
theorem cnt_012(c:Cal)(r:Res)(was:Int)(f:Nat->Int):cntD c r was f 0=(if 1<=c.op/\c.op<=3/\r.e=0 then u64.wrap (f 0+1)else f 0)/\cntD c r was f 1=(if c.op=5/\r.e=0 then u64.wrap (f 1+1)else f 1)/\cntD c r was f 2=(if 1<=c.op/\c.op<=4/\(r.e=15\/r.e=5)then u64.wrap (f 2+1)else f 2):=by
 unfold cntD;by_cases h1:c.op=1\/c.op=2\/c.op=3
 .rw[dB h1];unfold xdz;by_cases h0:r.e=0
  .rw[dB h0];refine⟨?_,?_,?_⟩<;>first|(rw[dB (by omega)];rfl)|(rw[dA (by omega)];rfl)
  .rw[dA h0];by_cases h5:r.e=15\/r.e=5
   .rw[dB h5];refine⟨?_,?_,?_⟩<;>first|(rw[dB (by omega)];rfl)|(rw[dA (by omega)];rfl)
   .rw[dA h5];refine⟨?_,?_,?_⟩<;>rw[dA (by omega)]
 .rw[dA h1];by_cases h4:c.op=4
  .rw[dB h4];by_cases h0:r.e=0
   .rw[dB h0];refine⟨?_,?_,?_⟩<;>(rw[dA (by omega)];rfl)
   .rw[dA h0];by_cases h5:r.e=15\/r.e=5
    .rw[dB h5];refine⟨?_,?_,?_⟩<;>first|(rw[dB (by omega)];rfl)|(rw[dA (by omega)];rfl)
    .rw[dA h5];refine⟨?_,?_,?_⟩<;>rw[dA (by omega)]
  .rw[dA h4];by_cases h5:c.op=5
   .rw[dB h5];by_cases h0:r.e=0
    .rw[dB h0];refine⟨?_,?_,?_⟩<;>first|(rw[dB (by omega)];rfl)|(rw[dA (by omega)];rfl)
    .rw[dA h0];refine⟨?_,?_,?_⟩<;>rw[dA (by omega)]
   .rw[dA h5];refine⟨?_,?_,?_⟩<;>rw[dA (by omega)]
omit hf aj in
theorem xh0{L:RowsL}(hz : ∀r∈L,0<=getI r 1/\getI r 1<1000000):∀m,0<=wt (L.take m)/\wt (L.take m)<=(L.take m).length*1000000:=by
 intro m;have : ∀M:RowsL,(∀r∈M,0<=getI r 1/\getI r 1<1000000)->0<=wt M/\wt M<=M.length*1000000:=by
  intro M
  induction M with
  | nil=>intro _;exact⟨Int.le_refl _,by simp[wt]⟩
  | cons r M ih=>
   intro h;have h1:=h r (by simp)
   have h2:=ih fun r hr=>h r (by simp[hr])
   simp only[wt,List.length_cons];omega
 exact this _ fun r hr=>hz r (List.mem_of_mem_take hr)
omit hf aj in
theorem xh1:∀ (L:RowsL) (r:List Int),wt (L ++ [r])=wt L+getI r 1
 | [],r=>by simp[wt]
 | a::L,r=>by simp only[List.cons_append,wt,xh1 L r];omega
omit hf aj in
theorem sta_sum{β:Type}{q2 L:RowsL}(hL:L.length<=900)(hz : ∀r∈L,0<=getI r 1/\getI r 1<1000000)(a3 a4 a5 a6 a7 a8 a9 be:Int)(κ:Int->Int->T β):qr L.length q2 a3 a4 a5 a6 a7 a8 a9 be L 0 0 0 κ=κ (L.length:Int) (wt L):=by
 unfold qr;refine xZ (fun q=>q=κ (L.length:Int) (wt L)) (fun k i =>∃m:Nat,i=((m:Int),(m:Int),wt (L.take m))/\m<=L.length/\k=L.length-m) ?_ xa L.length _ (by unfold xa;omega) ⟨0,rfl,by omega,by omega⟩
 rintro k i κ' ⟨m,rfl,hm,rfl⟩ ih;unfold xn8 ixT gX;simp only;by_cases h:m<L.length
 .have hg:getR L (Int.toNat (m:Int))=L[m]:=by rw[show Int.toNat (m:Int)=m from rfl,ya h]
  have ht:L.take m ++ [L[m]]=L.take (m+1):=by simp
  have h1:=hz _ (List.getElem_mem h);have h2:=xh0 hz m;have Dk:(L.take m).length=m:=by rw[List.length_take];omega
  refine Wyy (dD (by omega)) (Wyy (xU h) (Wyy (xM h) ?_))
  rw[hg,yO (by omega)]
  have e1:u64.wrap ((m:Int)+1)=((m+1:Nat):Int):=by rw[dJ];omega
  have e2:u64.wrap (getI L[m] 1)=getI L[m] 1:=by rw[dJ];omega
  have e3:u64.wrap (wt (L.take m)+getI L[m] 1)=wt (L.take (m+1)):=by rw[dJ,<- ht,xh1];omega
  rw[e1,e2,e3];exact ih (L.length-(m+1)) _ (by omega) ⟨m+1,rfl,by omega,rfl⟩
 .obtain rfl:m=L.length:=by omega
  refine Wzz (dC (by omega)) ?_
  rw[List.take_length]
theorem sta_eq{H:RowsL}{hA:Nat->AS}{hh:Nat->Nat->Option HK}{hl:Nat->Nat->Option Nat}(hq:Sq n t H hA hh hl)(hT:Tld H)(hS : ∀r∈H,getI r 9<=9000000000000000000)(af:H.length<=800)(hz : ∀i,(hA 0).w 2 i=0) :
  staT H.length H = .ret ⟨(hA H.length).w 2 0,(hA H.length).w 2 1,(hA H.length).w 2 2,(hA H.length).w 2 3,(hA H.length).w 2 4⟩:=by
 obtain⟨L,l1,l2,hW⟩:=liv_eq hf aj hq hT hS af;have Gn:=hq.ci hf aj hz H.length (by omega)
 obtain⟨c1,c2⟩:=hW.cnt;have uh : ∀r∈L,0<=getI r 1/\getI r 1<1000000:=fun r hr=>by
  obtain⟨g,z,x,h1,h2,h3,rfl⟩:=hW.row r hr;have:=(hq.hp H.length (by omega)).lives hf aj h2
  show 0<=(z:Int)/\(z:Int)<1000000;omega
 have sf:=xh0 uh L.length;rw[List.take_length]at sf;have e3:(hA H.length).w 2 3=(L.length:Int):=by have:=Gn.r3;have:=Gn.c3;omega
 have e4:(hA H.length).w 2 4=wt L:=by have:=Gn.r4;have:=Gn.c4;omega
 generalize hP:(fun q:T Cts=>q = .ret ⟨(hA H.length).w 2 0,(hA H.length).w 2 1,(hA H.length).w 2 2,(hA H.length).w 2 3,(hA H.length).w 2 4⟩)=P
 suffices hs:P (staT H.length H)by rw[<- hP]at hs;exact hs
 unfold staT xw3 Xa;refine xZ P (fun k i =>∃j:Nat,i=((j:Int),(hA j).w 2 0,(hA j).w 2 1,(hA j).w 2 2)/\j<=H.length/\k=H.length-j) ?_ xa H.length _ (by unfold xa;omega) ⟨0,by rw[hz,hz,hz];rfl,by omega,by omega⟩
 rintro k i κ ⟨j,rfl,hj,rfl⟩ ih;unfold xn6 ixT xn5 xhT xhV xhU gX;simp only;by_cases h:j<H.length
 .obtain⟨me,c,r,was,x1,x2,x3,x4,ah,hc,hC,ba⟩:=hq.step j h;have nh:getR H (Int.toNat (j:Int))=evRow me c x1 x2 x3 x4 r:=by rw[show Int.toNat (j:Int)=j from rfl,ya h,ba]
  refine xh (dD (by omega)) (xh (xU h) (xh (xM h) ?_))
  rw[nh,yO (by omega)]
  have Ll:=hC.cnt 0;have Lk:=hC.cnt 1;have su:=hC.cnt 2;obtain⟨q0,q1,q2⟩:=cnt_012 c r was (((hA j).port (me:Int)).w 2);have nx : ∀y0 y1 y2,y0=(hA (j+1)).w 2 0->y1=(hA (j+1)).w 2 1->y2=(hA (j+1)).w 2 2->P (κ (((j+1:Nat):Int),y0,y1,y2)):=by
   rintro _ _ _ rfl rfl rfl;exact ih (H.length-(j+1)) _ (by omega) ⟨j+1,rfl,by omega,rfl⟩
  have g1:getI (evRow me c x1 x2 x3 x4 r) 1=c.op:=rfl;have Q3:getI (evRow me c x1 x2 x3 x4 r) 21=r.e:=rfl;rw[g1,Q3];rw[q0]at Ll;rw[q1]at Lk;rw[q2]at su;have Di : ∀i,((hA j).port (me:Int)).w 2 i=(hA j).w 2 i:=fun i=>rfl
  rw[Di]at Ll Lk su;generalize(hA (j+1)).w 2 0=z0 at *;generalize(hA (j+1)).w 2 1=z1 at *;generalize(hA (j+1)).w 2 2=z2 at *;generalize(hA j).w 2 0=w0 at *;generalize(hA j).w 2 1=w1 at *;generalize(hA j).w 2 2=w2 at *;generalize c.op=o at *;generalize r.e=e at *;clear hC ba nh q0 q1 q2 hW Gn ih sf;repeat' (first|refine nx _ _ _ ?_ ?_ ?_|refine yP (fun _ =>?_) (fun _ =>?_))
  all_goals
   simp only[dT,dF,beq_iff_eq,bne_iff_ne,ne_eq,Bool.not_eq_true',bne_eq_false_iff_eq,dO,Bool.not_eq_false']at *
   first
    | (exfalso;omega)
    | (rw[Ll];first|rw[dB (by omega)]|rw[dA (by omega)])
    | (rw[Lk];first|rw[dB (by omega)]|rw[dA (by omega)])
    | (rw[su];first|rw[dB (by omega)]|rw[dA (by omega)])
 .obtain rfl:j=H.length:=by omega
  refine P_no (dC (by omega)) (xy l2 ?_)
  rw[sta_sum (by omega) uh,<- hP,e3,e4]
end
end
section
open Go Go.RowKit Lx
theorem WI:∀ {l:List Int} {i:Nat},i<l.length->inB l i=true
 | [],i,h=>by simp at h
 | _::_,0,_=>rfl
 | _::l,i+1,h=>WI (l:=l) (i:=i) (by simpa using h)
theorem Zd{l:List Int}{i j:Nat}{v:Int}(hi:i<l.length):getI (l.set i v) j=if j=i then v else getI l j:=by
 unfold getI;rw[List.getD_eq_getElem?_getD,List.getD_eq_getElem?_getD,List.getElem?_set];by_cases h:i=j
 .subst h;rw[dB rfl,dB hi,dB rfl];rfl
 .rw[dA h,dA (Ne.symm h)]
/-! ### the events that matter for bytes -/
def fRw(r:List Int):Option (List Int):=
 if getI r 21=0 then(if getI r 1=7\/getI r 1=8 then some (r.set 10 (getI r 11))else if 1<=getI r 1/\getI r 1<=4 then some r else none)else none
theorem xvs{me:Int}{c:Cal}{r:Res}{x1 x2 x3 x4:Int}:fRw (evRow me c x1 x2 x3 x4 r)=if r.e=0 then(if c.op=7\/c.op=8 then some (evRow me c x1 x2 x4 x4 r)else if 1<=c.op/\c.op<=4 then some (evRow me c x1 x2 x3 x4 r)else none)else none:=rfl
theorem xol{r x:List Int}(h:fRw r=some x)(Nn:r.length=24)(nk:getI r 12=1)(hp:1<=getI r 8/\getI r 8<=getI r 10/\getI r 10<=getI r 9)(ht:(getI r 11 = -1/\ ¬ (getI r 21=0/\(getI r 1=7\/getI r 1=8)))\/(getI r 10<getI r 11/\getI r 11<=getI r 9/\getI r 21=0/\(getI r 1=7\/getI r 1=8))) :
  x.length=24/\getI x 12=1/\getI r 8<=getI x 10/\getI x 10<=getI r 9:=by
 unfold fRw at h;split at h
 .split at h
  .cases h;refine⟨by rw[List.length_set];exact Nn,?_,?_⟩
   .rw[Zd (by omega),dA (by omega)];exact nk
   .rw[Zd (by omega),dB rfl];omega
  .split at h
   .cases h;exact⟨Nn,nk,by omega,by omega⟩
   .cases h
 .cases h
theorem Tld.rises{H:RowsL}(hT:Tld H):Rising (H.filterMap fRw):=by
 have hm : ∀x∈H.filterMap fRw,∃r∈H,x.length=24/\getI x 12=1/\getI r 8<=getI x 10/\getI x 10<=getI r 9:=fun x hx=>by
  obtain⟨r,hr,h⟩:=List.mem_filterMap.1 hx;exact⟨r,hr,xol h (hT.len r hr) (hT.done r hr) (hT.pos r hr) (hT.tc r hr)⟩
 refine⟨fun x hx =>?_,fun x hx =>?_,fun x hx =>?_,?_⟩
 .obtain⟨r,hr,h1,_⟩:=hm x hx;exact h1
 .obtain⟨r,hr,_,h1,_⟩:=hm x hx;exact h1
 .obtain⟨r,hr,_,_,h1,_⟩:=hm x hx;have:=hT.pos r hr;omega
 .have om:H.Pairwise fun a b=>getI a 9<getI b 8:=List.pairwise_iff_getElem.2 fun i j hi hj dx=>hT.sep i j hi hj dx
  have:(H.filterMap fRw).Pairwise fun a b=>getI a 10<getI b 10:=by
   rw[List.pairwise_filterMap];refine om.imp_of_mem fun {a b} ha hb Hi x hx y hy =>?_
   have h1:=xol hx (hT.len a ha) (hT.done a ha) (hT.pos a ha) (hT.tc a ha);have h2:=xol hy (hT.len b hb) (hT.done b hb) (hT.pos b hb) (hT.tc b hb);omega
  exact fun i j hi hj dx=>List.pairwise_iff_getElem.1 this i j hi hj dx
theorem byt_all{β:Type}{H:RowsL}{n t:Nat}{hA:Nat->AS}{hh:Nat->Nat->Option HK}{hl:Nat->Nat->Option Nat}(hq:Sq n t H hA hh hl)(hT:Tld H)(af:H.length<=800){b1 b2:Bool}{n3 n4:Nat}{l8:IntsL}{q9:RowsL}(κ:Nat->RowsL->T β) :
  kR H.length b1 b2 n3 n4 H l8 q9 0 0 [] κ=κ (H.filterMap fRw).length (H.filterMap fRw):=by
 unfold kR;refine xZ (fun q=>q=κ (H.filterMap fRw).length (H.filterMap fRw)) (fun k i =>∃j:Nat,i=(((H.take j).filterMap fRw).length,(j:Int),(H.take j).filterMap fRw)/\j<=H.length/\k=H.length-j) ?_ xa H.length _ (by unfold xa;omega) ⟨0,rfl,by omega,by omega⟩
 rintro k i κ' ⟨j,rfl,hj,rfl⟩ ih;unfold xoc ixT rY xcZ rX gX;simp only;by_cases h:j<H.length
 .obtain⟨me,c,r,was,x1,x2,x3,x4,ah,hc,hC,ba⟩:=hq.step j h;have nh:getR H (Int.toNat (j:Int))=evRow me c x1 x2 x3 x4 r:=by rw[show Int.toNat (j:Int)=j from rfl,ya h,ba]
  have ht:H.take (j+1)=H.take j ++ [evRow me c x1 x2 x3 x4 r]:=by rw[List.take_succ_eq_append_getElem h,ba]
  have p:=hT.pos _ (List.getElem_mem h);have q:=hT.tc _ (List.getElem_mem h);rw[ba]at p q;have p:1<=x1/\x1<=x3/\x3<=x2:=p;have q:(x4 = -1/\ ¬ (r.e=0/\(c.op=7\/c.op=8)))\/(x3<x4/\x4<=x2/\r.e=0/\(c.op=7\/c.op=8)):=q;have mw:((H.take j).filterMap fRw).length<=900:=Nat.le_trans (List.length_filterMap_le _ _) (by rw[List.length_take];omega)
  generalize hF:(H.take j).filterMap fRw=F at *;have hFn:(H.take (j+1)).filterMap fRw=F++(fRw (evRow me c x1 x2 x3 x4 r)).toList:=by
   rw[ht,List.filterMap_append,hF];rw[List.filterMap_cons,List.filterMap_nil];cases fRw (evRow me c x1 x2 x3 x4 r)<;>rfl
  have skp:fRw (evRow me c x1 x2 x3 x4 r)=none->κ' (F.length,((j+1:Nat):Int),F)=κ (H.filterMap fRw).length (H.filterMap fRw):=fun hn=>by
   rw[hn]at hFn;have hFn:(H.take (j+1)).filterMap fRw=F:=by rw[hFn];simp
   exact ih (H.length-(j+1)) _ (by omega) ⟨j+1,by rw[hFn],by omega,rfl⟩
  have put : ∀x,fRw (evRow me c x1 x2 x3 x4 r)=some x->κ' (F.length+1,((j+1:Nat):Int),F ++ [x])=κ (H.filterMap fRw).length (H.filterMap fRw):=fun x hn=>by
   rw[hn]at hFn;have hFn:(H.take (j+1)).filterMap fRw=F ++ [x]:=hFn;exact ih (H.length-(j+1)) _ (by omega) ⟨j+1,by rw[hFn,dM];rfl,by omega,rfl⟩
  have hb:(Nat.beq (List.length F) F.length&&Nat.ble F.length 1000)=true:=by rw[Nat.beq_refl,dP (by omega)];rfl
  refine Wyy (dD (by omega)) (Wyy (xU h) (Wyy (xM h) ?_))
  rw[nh,yO (by omega)]
  rw[xvs]at skp put;have Rc:getI (evRow me c x1 x2 x3 x4 r) 21=r.e:=rfl;have c1:getI (evRow me c x1 x2 x3 x4 r) 1=c.op:=rfl;have Rf:getI (evRow me c x1 x2 x3 x4 r) 10=x3:=rfl;have Rd:getI (evRow me c x1 x2 x3 x4 r) 11=x4:=rfl;rw[Rc,c1,Rf,Rd];by_cases he:r.e=0
  .rw[dB he]at skp put;have e0:(r.e==0)=true:=by simp[he]
   have l0:decide (x3>0)=true:=dD (by omega)
   by_cases Jm:c.op=7\/c.op=8
   .rw[dB Jm]at put;have l1:decide (x4>0)=true:=dD (by omega)
    refine Wyy e0 (Wyy l0 (Wyy l1 ?_))
    rcases Jm with h7|h8
    .exact Wyy (by simp[h7]) (Wyy hb (put _ rfl))
    .exact Wzz (by simp[h8]) (Wyy (by simp[h8]) (Wyy hb (put _ rfl)))
   .rw[dA Jm]at skp put;have l1:decide (x4>0)=false:=dC (by omega)
    refine Wyy e0 (Wyy l0 (Wzz l1 (Wyy l0 (Wyy e0 ?_))))
    by_cases Np:1<=c.op/\c.op<=4
    .rw[dB Np]at put;exact Wyy (dD (by omega)) (Wyy (dD (by omega)) (Wyy hb (put _ rfl)))
    .rw[dA Np]at skp;by_cases h1:1<=c.op
     .exact Wyy (dD (by omega)) (Wzz (dC (by omega)) (skp rfl))
     .exact Wzz (dC (by omega)) (skp rfl)
  .rw[dA he]at skp;have e0:(r.e==0)=false:=by simp[he]
   have l0:decide (x3>0)=true:=dD (by omega)
   exact Wzz e0 (Wyy l0 (Wzz e0 (skp rfl)))
 .obtain rfl:j=H.length:=by omega
  refine Wzz (dC (by omega)) ?_
  rw[List.take_length]
/-! ### what is known of bytes, and the blocks that were had -/
structure By(n:Nat)(K:IntsL)(M:RowsL)(live:Nat->Option Nat)(b:List Int):Prop where
 len:K.length=64*n
 kn : ∀i,i<64*n->getI K i = -1\/b[i]? = some (getI K i)
 nd:M.Pairwise fun r s=>getI r 0≠getI s 0
 lv : ∀g z,live g=some z ->∃r∈M,getI r 0=((8*g:Nat):Int)/\getI r 1=(z:Int)
def rmA(M:RowsL)(a:Int):RowsL:=match wl M a with
 | some p=>M.eraseIdx p
 | none=>M
theorem Kn{M:RowsL}(h:M.Pairwise fun r s=>getI r 0≠getI s 0)(a:Int):(rmA M a).Pairwise fun r s=>getI r 0≠getI s 0:=by
 unfold rmA;split
 .exact h.sublist (List.eraseIdx_sublist _ _)
 .exact h
theorem xvt{M:RowsL}(h:M.Pairwise fun r s=>getI r 0≠getI s 0){a:Int}:∀r∈rmA M a,getI r 0≠a:=by
 unfold rmA;split
 .rename_i p hp;obtain⟨hl,h1,h2⟩:=List.findIdx?_eq_some_iff_getElem.1 hp;have h1:getI M[p] 0=a:=by simpa using h1
  intro r hr he;rw[List.mem_eraseIdx_iff_getElem]at hr;obtain⟨i,hi,aq,rfl⟩:=hr;rcases Nat.lt_or_gt_of_ne aq with an|an
  .exact List.pairwise_iff_getElem.1 h i p hi hl an (he.trans h1.symm)
  .exact List.pairwise_iff_getElem.1 h p i hl hi an (h1.trans he.symm)
 .rename_i hn;intro r hr he;have:=List.findIdx?_eq_none_iff.1 hn r hr;simp[he]at this
theorem xbl{M:RowsL}{a:Int}{r:List Int}(hr:r∈M)(aq:getI r 0≠a):r∈rmA M a:=by
 unfold rmA;split
 .rename_i p hp;obtain⟨hl,h1,h2⟩:=List.findIdx?_eq_some_iff_getElem.1 hp;have h1:getI M[p] 0=a:=by simpa using h1
  rw[List.mem_eraseIdx_iff_getElem];obtain⟨i,hi,rfl⟩:=List.mem_iff_getElem.1 hr;exact⟨i,hi,(by rintro rfl;exact aq h1),rfl⟩
 .exact hr
theorem xom(M:RowsL)(a:Int):(rmA M a).length<=M.length:=by
 unfold rmA;split
 .rw[List.length_eraseIdx];split<;>omega
 .exact dI _
theorem rm_P{β:Type}{P:T β->Prop}{M:RowsL}{a:Int}(hM:M.length<=1000){k:Nat×RowsL->T β}{k0:T β}(h:P (k ((rmA M a).length,rmA M a)))(h0:rmA M a=M->P k0):P ((wa M.length M a).bind fun r=>bif decide (r>=0)then(vo M.length M r).bind k else k0):=by
 refine xy (xJ hM) ?_;unfold rmA at h h0;cases hf:wl M a with
 | none=>
  rw[hf]at h0;exact P_no rfl (h0 rfl)
 | some p=>
  rw[hf]at h;obtain⟨hl,h1,h2⟩:=List.findIdx?_eq_some_iff_getElem.1 hf;exact xh (show decide (((p:Nat):Int)>=0)=true from dD (by omega)) (xy (wu hl hM) h)
structure Nw(K K':IntsL)(p N:Nat)(v:Nat->Int->Prop):Prop where
 len:K'.length=K.length
 out : ∀i,i<K.length->(i<p\/p+N<=i)->getI K' i=getI K i
 ins : ∀x,x<N->v x (getI K' (p+x))
theorem byt3{β:Type}{P:T β->Prop}{b0 b1:Bool}{n3 n4:Nat}{a5:Int}{cb iu M:RowsL}{K:IntsL}{N0:Nat}(hN0:N0=K.length)(hK:K.length<=1000)(Po:n3=M.length){op cat size at_ rn old:Int}{p N:Nat}(dm:at_=(p:Int))(gu:rn=(N:Int))(hN:p+N<=K.length)(am:1<=op/\op<=4)
  (hold:op=4 ->∃ (k q:Nat) (hk:k<M.length),old=(k:Int)/\cat=(q:Int)/\q<1000000)
  (bu bn bq dg e9 ez eu lm ct cy:Int) (tu:Bool) (io im il ik ij ii t6 tw tv:Int) {κ0:IntsL->T β}
  (h : ∀K',Nw K K' p N (fun x y=>y = -1\/(op=2/\(x:Int)<size/\y=0)\/(op=4/\(x:Int)<size/\ ∃k:Nat,old=(k:Int)/\(x:Int)<getI (getR M k) 1/\cat+x<K.length/\y=getI K (Int.toNat (cat+x))))->P (κ0 K')) :
  P (kS b0 b1 N0 n3 n4 a5 size N0 old cb K M iu bu op bn bq dg cat e9 ez eu lm ct cy tu at_ rn io im il ik ij ii t6 tw tv 0 K κ0):=by
 subst dm gu Po hN0;unfold kS;refine xZ P (fun k i =>∃ (m:Nat) (K':IntsL),i=((m:Int),K')/\m<=N/\k=N-m/\K'.length=K.length/\(∀i,i<K.length->(i<p\/p+m<=i)->getI K' i=getI K i)/\ ∀x,x<m->(fun x y=>y = -1\/(op=2/\(x:Int)<size/\y=0)\/(op=4/\(x:Int)<size/\ ∃k:Nat,old=(k:Int)/\(x:Int)<getI (getR M k) 1/\cat+x<K.length/\y=getI K (Int.toNat (cat+x)))) x (getI K' (p+x))) ?_ xa N _ (by unfold xa;omega) ⟨0,K,rfl,by omega,by omega,rfl,fun _ _ _=>rfl,fun x hx=>by omega⟩
 rintro k i κ ⟨m,K',rfl,hm,rfl,hlK,sj,F5⟩ ih;unfold xoh xoe xog ixT gX xof;simp only;by_cases an:m<N
 .have ew:i64.wrap ((p:Int)+(m:Int))=((p+m:Nat):Int):=by rw[show(p:Int)+(m:Int)=((p+m:Nat):Int)by omega,wN _ (by omega)]
  have epr:prO 0 ((p+m:Nat):Int) 1 0=p+m:=rfl;have fu:=xU (m:=K.length) (j:=p+m) (by omega)
  have i1:inB K' (p+m)=true:=WI (by omega)
  have i2 : ∀v,inB (K'.set (p+m) v) (p+m)=true:=fun v=>WI (by rw[List.length_set];omega)
  have i3 : ∀v w,inB ((K'.set (p+m) v).set (p+m) w) (p+m)=true:=fun v w=>WI (by rw[List.length_set,List.length_set];omega)
  have nx : ∀K2 v,K2=K'.set (p+m) v->(v = -1\/(op=2/\(m:Int)<size/\v=0)\/(op=4/\(m:Int)<size/\ ∃k:Nat,old=(k:Int)/\(m:Int)<getI (getR M k) 1/\cat+m<K.length/\v=getI K (Int.toNat (cat+m))))->P (κ (((m+1:Nat):Int),K2)):=by
   rintro K2 v rfl hv;refine ih (N-(m+1)) _ (by omega) ⟨m+1,_,rfl,by omega,rfl,by rw[List.length_set];exact hlK,fun i h1 h2 =>?_,fun x hx =>?_⟩
   .rw[Zd (by omega),dA (by omega)]
    exact sj i h1 (by omega)
   .rw[Zd (by omega)]
    by_cases Ja:x=m
    .subst Ja;rw[dB rfl];exact hv
    .rw[dA (by omega)];exact F5 x (by omega)
  have s2 : ∀v w,(K'.set (p+m) v).set (p+m) w=K'.set (p+m) w:=fun v w=>List.set_set ..
  refine xh (dD (by omega)) ?_
  rw[ew,epr,yO (by omega)]
  simp only[fu,i1,i2,i3,s2,cond_true];by_cases h2:op=2
  .subst h2;refine xh rfl (yP (fun c =>?_) (fun c =>?_))
   .exact P_no rfl (nx _ 0 rfl (.inr (.inl ⟨rfl,dE c,rfl⟩)))
   .exact P_no rfl (nx _ (-1) rfl (.inl rfl))
  .refine P_no (by simpa using h2) ?_
   by_cases h4:op=4
   .obtain⟨k,q,hk,rfl,rfl,hq⟩:=hold h4;subst h4;have Q6:i64.wrap ((q:Int)+(m:Int))=((q+m:Nat):Int):=by rw[show(q:Int)+(m:Int)=((q+m:Nat):Int)by omega,wN _ (by omega)]
    refine xh rfl (xh (dD (by omega)) (yP (fun c1 =>?_) (fun c1=>nx _ (-1) rfl (.inl rfl))))
    refine xh (xU hk) (xh (xM hk) (yP (fun c2 =>?_) (fun c2=>nx _ (-1) rfl (.inl rfl))))
    rw[Q6];refine P_no (dC (by omega)) (yP (fun c3=>nx _ (-1) rfl (.inl rfl)) (fun c3 =>?_))
    have c3:=dG c3;have eb:q+m<K.length:=by omega
    refine xh (xU eb) (xh (xM eb) (nx _ _ rfl (.inr (.inr ⟨rfl,dE c1,k,rfl,dE c2,by omega,?_⟩))))
    rw[show(q:Int)+(m:Int)=((q+m:Nat):Int)by omega]
   .exact P_no (by simpa using h4) (nx _ (-1) rfl (.inl rfl))
 .obtain rfl:m=N:=by omega
  exact P_no (dC (by omega)) (h K' ⟨hlK,sj,F5⟩)
end
section
open Go Go.RowKit Lx
section
variable{n:Nat}{K:IntsL}{M:RowsL}{live:Nat->Option Nat}{b:List Int}
theorem By.nil(n:Nat)(b:List Int){K:IntsL}(hl:K.length=64*n)(h : ∀i,i<64*n->getI K i = -1):By n K [] (fun _=>none) b:=⟨hl,fun i hi =>.inl (h i hi),.nil,fun g z h=>by cases h⟩
theorem By.skip{held ab:Nat->Option HK}{ac:Nat->Option Nat}{b':List Int}{c:Cal}{r:Res}{me x1 x2 x3 x4:Int}(hm:Mv n held live b c r ab ac b')(bg:fRw (evRow me c x1 x2 x3 x4 r)=none)(h:By n K M live b):By n K M ac b':=by
 rw[xvs]at bg;cases hm with
 | fails he=>exact h
 | gain g z x b' am he=>rw[dB he,dA (by omega),dB (by omega)]at bg;cases bg
 | stay g z0 z x am he=>rw[dB he,dA (by omega),dB (by omega)]at bg;cases bg
 | go g z0 x g' z y am he=>rw[dB he,dA (by omega),dB (by omega)]at bg;cases bg
 | write g z k am he=>rw[dB he,dB (.inl am)]at bg;cases bg
 | read g z k am he=>rw[dB he,dB (.inr am)]at bg;cases bg
 | quiet am he=>exact h
 | free g z am he dm ia=>
  refine⟨h.len,h.kn,h.nd,fun q w hq =>?_⟩
  by_cases bv:q=g
  .subst bv;rw[xx]at hq;cases hq
  .rw[xG _ _ bv]at hq;exact h.lv q w hq
theorem By.put{K':IntsL}{M1:RowsL}{ac:Nat->Option Nat}{b':List Int}{g z:Nat}{N:Int}(cf:M1.Pairwise fun r s=>getI r 0≠getI s 0)(bg : ∀r∈M1,getI r 0≠((8*g:Nat):Int))(ia : ∀q w,ac q=some w->(q=g/\w=z)\/ ∃r∈M1,getI r 0=((8*q:Nat):Int)/\getI r 1=(w:Int))
  (af:K'.length=64*n) (tq : ∀i,i<64*n->getI K' i = -1\/b'[i]? = some (getI K' i)):By n K' (M1 ++ [[((8*g:Nat):Int),(z:Int),N]]) ac b':=by
 refine⟨af,tq,?_,fun q w hq =>?_⟩
 .rw[List.pairwise_append];refine⟨cf,List.pairwise_singleton _ _,fun r hr s hs =>?_⟩
  rw[List.mem_singleton]at hs;subst hs;exact bg r hr
 .rcases ia q w hq with⟨rfl,rfl⟩|⟨r,hr,h1,h2⟩
  .exact⟨_,List.mem_append_right _ (List.mem_singleton.2 rfl),rfl,rfl⟩
  .exact⟨r,List.mem_append_left _ hr,h1,h2⟩
theorem By.find(h:By n K M live b){g z:Nat}(hg:live g=some z):∃p,∃hp:p<M.length,wl M ((8*g:Nat):Int)=some p/\getI M[p] 1=(z:Int):=by
 obtain⟨r,hr,h1,h2⟩:=h.lv g z hg;cases hf:wl M ((8*g:Nat):Int) with
 | none=>
  have:=List.findIdx?_eq_none_iff.1 hf r hr;simp[h1]at this
 | some p=>
  obtain⟨hp,k1,k2⟩:=List.findIdx?_eq_some_iff_getElem.1 hf;have k1:getI M[p] 0=((8*g:Nat):Int):=by simpa using k1
  refine⟨p,hp,rfl,?_⟩;obtain⟨i,hi,rfl⟩:=List.mem_iff_getElem.1 hr;have:i=p:=by
   rcases Nat.lt_trichotomy i p with an|an|an
   .exact absurd (h1.trans k1.symm) (List.pairwise_iff_getElem.1 h.nd i p hi hp an)
   .exact an
   .exact absurd (k1.trans h1.symm) (List.pairwise_iff_getElem.1 h.nd p i hp hi an)
  subst this;exact h2
end
theorem xBh{β:Type}{P:T β->Prop}{n0 n3:Nat}{b1 b2:Bool}{q5:RowsL}{κ0:IntsL->T β}(h3:n3<=1000)(h : ∀K,K.length=n3->(∀i,i<n3->getI K i = -1)->P (κ0 K)):P (kQ n0 b1 b2 n3 q5 0 (List.replicate n3 0) κ0):=by
 unfold kQ;refine xZ P (fun k i =>∃ (m:Nat) (K:IntsL),i=((m:Int),K)/\m<=n3/\k=n3-m/\K.length=n3/\ ∀i,i<m->getI K i = -1) ?_ xa n3 _ (by unfold xa;omega) ⟨0,_,rfl,by omega,by omega,List.length_replicate,fun i hi=>by omega⟩
 rintro k i κ ⟨m,K,rfl,hm,rfl,hl,hk⟩ ih;unfold xoa;simp only;by_cases an:m<n3
 .refine xh (dD (by omega)) (xh (xU an) (xh (WI (show m<K.length by omega)) ?_))
  rw[yO (by omega)]
  refine ih (n3-(m+1)) _ (by omega) ⟨m+1,_,rfl,by omega,rfl,by rw[List.length_set];exact hl,fun i hi =>?_⟩
  rw[show prO 0 (m:Int) 1 0=m from rfl,Zd (by omega)]
  split
  .rfl
  .exact hk i (by omega)
 .obtain rfl:m=n3:=by omega
  exact P_no (dC (by omega)) (h K hl hk)
section
variable{n t:Nat}(hf:Small n t)(aj:n<=60)
include hf aj
theorem xrX{H:RowsL}{hA:Nat->AS}{hh:Nat->Nat->Option HK}{hl:Nat->Nat->Option Nat}(hq:Sq n t H hA hh hl){K:IntsL}{M:RowsL}:∀d j,H.length-j<=d->j<=H.length->By n K M (hl j) (hA j).b->((H.take j).filterMap fRw).length<(H.filterMap fRw).length->
  ∃j' x,∃pb:j'<H.length,(H.take j').filterMap fRw=(H.take j).filterMap fRw/\By n K M (hl j') (hA j').b/\fRw H[j']=some x
 | 0,j,hd,hj,hB,an=>by
  have:j=H.length:=by omega
  subst this;rw[List.take_length]at an;omega
 | d+1,j,hd,hj,hB,an=>by
  by_cases h:j<H.length
  .cases hx:fRw H[j] with
   | some x=>exact⟨j,x,h,rfl,hB,hx⟩
   | none=>
    have ht:(H.take (j+1)).filterMap fRw=(H.take j).filterMap fRw:=by
     rw[List.take_succ_eq_append_getElem h,List.filterMap_append,List.filterMap_cons,hx,List.filterMap_nil,List.append_nil]
    obtain⟨me,c,r,was,x1,x2,x3,x4,ah,hc,hC,ba⟩:=hq.step j h;have hm:=Called.mv hf aj hC (hq.hp j (by omega))
    rw[ba]at hx;obtain⟨j',x,pb,e1,e2,e3⟩:=xrX hq d (j+1) (by omega) (by omega) (By.skip hm hx hB) (by rw[ht];exact an)
    exact⟨j',x,pb,by rw[e1,ht],e2,e3⟩
  .have:j=H.length:=by omega
   subst this;rw[List.take_length]at an;omega
omit hf aj in
theorem wB{x:Int}(h:0<=x/\x<=255):i64.wrap x=x:=w64 (by omega) (by omega)
set_option maxHeartbeats 600000 in
theorem byt_eq{H:RowsL}{hA:Nat->AS}{hh:Nat->Nat->Option HK}{hl:Nat->Nat->Option Nat}(Pq:n<=15)(hq:Sq n t H hA hh hl)(hT:Tld H)(hS : ∀r∈H,getI r 9<=9000000000000000000)(af:H.length<=800)(hj:jdgT H.length H (n:Int) = .ret true):bytT H.length H (n:Int) = .ret (true,true):=by
 have lu:=hf.n1;generalize hP:(fun q:T (Bool×Bool)=>q = .ret (true,true))=P
 suffices hs:P (bytT H.length H (n:Int))by rw[<- hP]at hs;exact hs
 unfold bytT xw4;have tt:i64.wrap (64*(n:Int))=((64*n:Nat):Int):=by rw[show 64*(n:Int)=((64*n:Nat):Int)by omega,wN _ (by omega)]
 refine xy hj (P_no rfl (xy (apr_eq hT (by omega)) (P_no rfl (P_no (dC (by omega)) (P_no (dC (by omega)) ?_)))))
 rw[tt];refine xh (dD (by omega)) ?_
 rw[Int.toNat_natCast];refine xBh (by omega) fun K0 hK0 hK0' =>?_
 rw[byt_all hq hT af];have hR:=hT.rises;have hFl:(H.filterMap fRw).length<=800:=Nat.le_trans (List.length_filterMap_le _ _) af;refine xy (xvr hR (by omega) fun x hx =>?_) ?_
 .obtain⟨r,hr,h⟩:=List.mem_filterMap.1 hx;have h1:=xol h (hT.len r hr) (hT.done r hr) (hT.pos r hr) (hT.tc r hr);have:=hS r hr;omega
 simp only;generalize hF:H.filterMap fRw=F at *;unfold qs;refine xZ P (fun k i =>∃ (m j:Nat) (K:IntsL) (M:RowsL),i=(64*n,M.length,(m:Int),K,M)/\m<=F.length/\k=F.length-m/\j<=H.length/\((H.take j).filterMap fRw).length=m/\M.length<=m/\By n K M (hl j) (hA j).b) ?_ xa F.length _ (by unfold xa;omega)
  ⟨0,0,K0,[],rfl,by omega,by omega,by omega,by simp,by simp,by rw[hq.l0];exact By.nil n _ hK0 hK0'⟩
 rintro k i κ ⟨m,j0,K,M,rfl,hm,rfl,Ha,Ed,hMm,hB0⟩ ih;unfold xoj ixT xhW xhX gX;simp only;by_cases an:m<F.length
 case neg=>
  obtain rfl:m=F.length:=by omega
  refine P_no (dC (by omega)) ?_
  rw[<- hP]
 obtain⟨j,x,sn,e1,hB,hx⟩:=xrX hf aj hq (H.length-j0) j0 (dI _) Ha hB0 (by rw[hF,Ed];exact an)
 rw[<- e1]at Ed;have Ja:getR F (Int.toNat (m:Int))=x:=by
  rw[show Int.toNat (m:Int)=m from rfl,ya an];have e:F=(H.take j).filterMap fRw++x::(H.drop (j+1)).filterMap fRw:=by
   rw[<- hF]
   conv=>lhs;rw[<- List.take_append_drop j H,List.drop_eq_getElem_cons sn,List.filterMap_append,List.filterMap_cons,hx]
  have:F[m]? = some x:=by
   rw[e,List.getElem?_append_right (by omega),Ed,Nat.sub_self];rfl
  rw[List.getElem?_eq_getElem an]at this;exact Option.some.inj this
 have E4:(H.take (j+1)).filterMap fRw=(H.take j).filterMap fRw ++ [x]:=by
  rw[List.take_succ_eq_append_getElem sn,List.filterMap_append,List.filterMap_cons,hx,List.filterMap_nil]
 obtain⟨me,c,r,was,x1,x2,x3,x4,ah,hc,hC,ba⟩:=hq.step j sn;have Af:=hq.hp j (by omega)
 have sg:=hq.hp (j+1) (by omega)
 have Ec:=Called.mv hf aj hC Af;rw[ba,xvs]at hx;have nxt : ∀K' M',M'.length<=M.length+1->By n K' M' (hl (j+1)) (hA (j+1)).b->P (κ (64*n,M'.length,i64.wrap ((m:Int)+1),K',M')):=fun K' M' h1 h2=>by
  rw[yO (by omega)]
  exact ih (F.length-(m+1)) _ (by omega) ⟨m+1,j+1,K',M',rfl,by omega,rfl,by omega,by rw[E4,dM,Ed];rfl,by omega,h2⟩
 have ox:=Af.bys;have sw:=Af.len;have Qr:=sg.len;have sm:=Af.lh;have hHG:=Af.hi.hg;refine xh (dD (by omega)) (xh (xU an) (xh (xM an) ?_))
 rw[Ja];generalize hh (j+1)=ab at *;generalize hl (j+1)=ac at *;generalize(hA (j+1)).b=b' at *;generalize(hA j).b=b at *;generalize hh j=held at *;generalize hl j=live at *;have room : ∀g z,live g=some z ->∃x,held g=some x/\z<=8*x.ext/\g+x.ext<=8*n:=fun g z h=>by
  obtain⟨x,h1,h2⟩:=sm.lh g z h;exact⟨x,h1,h2,hHG.ext1 h1⟩
 -- a row put in
 have puts : ∀ (K':IntsL) (M1:RowsL) (v:Int),M1.length<=M.length->By n K' (rmA M1 r.at_ ++ [[r.at_,v,r.n]]) ac b'->
   P ((wa M1.length M1 r.at_).bind fun ck=>bif decide (ck>=0)then(vo M1.length M1 ck).bind fun dq=>(bif Nat.beq (List.length dq.2) dq.1&&Nat.ble dq.1 1000 then(κ (64*n,dq.1+1,i64.wrap ((m:Int)+1),K',dq.2 ++ [[r.at_,v,r.n]]))else .fail) else
    bif Nat.beq (List.length M1) M1.length&&Nat.ble M1.length 1000 then(κ (64*n,M1.length+1,i64.wrap ((m:Int)+1),K',M1 ++ [[r.at_,v,r.n]]))else .fail):=by
  intro K' M1 v hM1 hBy;have hr:=xom M1 r.at_;refine rm_P (by omega) ?_ fun e =>?_
  .have:=nxt K' _ (by rw[dM];simp only[List.length_singleton];omega) hBy
   rw[dM]at this;exact xh (by simp only[Nat.beq_refl,Bool.true_and];exact dP (by omega)) this
  .rw[e]at hBy;have:=nxt K' _ (by rw[dM];simp only[List.length_singleton];omega) hBy
   rw[dM]at this;exact xh (by simp only[Nat.beq_refl,Bool.true_and];exact dP (by omega)) this
 have cut:(Nat.beq 0 0&&Nat.ble 0 1000&&we none (64*n) K&&Nat.ble (64*n) 1000)=true:=by
  have h1:Nat.ble (64*n) 1000=true:=dP (by omega)
  have h2:Nat.beq K.length (64*n)=true:=by rw[hB.len];exact Nat.beq_refl _
  simp only[we,h1,h2];rfl
 cases Ec with
 | fails he=>rw[dA he]at hx;cases hx
 | quiet am he=>rw[dB he,dA (by omega),dA (by omega)]at hx;cases hx
 | free g z am he=>rw[dB he,dA (by omega),dA (by omega)]at hx;cases hx
 | write g z k am he hca hco hk ia=>
  rw[dB he,dB (.inl am)]at hx;cases hx;obtain⟨x,r1,r2,r3⟩:=room g z ia;have eat:i64.wrap (c.at_+c.off)=((8*g+k:Nat):Int):=by rw[hca,hco,show((8*g:Nat):Int)+(k:Int)=((8*g+k:Nat):Int)by omega,wN _ (by omega)]
  refine xh (show(c.op==7)=true by rw[am];rfl) ?_
  rw[show getI (evRow me c x1 x2 x4 x4 r) 5+getI (evRow me c x1 x2 x4 x4 r) 6=c.at_+c.off from rfl,eat];refine xh (xU (by omega)) (xh (WI (show 8*g+k<K.length by have:=hB.len;omega)) (nxt _ _ (by omega) ⟨by rw[List.length_set];exact hB.len,fun i hi =>?_,hB.nd,hB.lv⟩))
  rw[show prO 0 ((8*g+k:Nat):Int) 1 0=8*g+k from rfl,show getI (evRow me c x1 x2 x4 x4 r) 7=c.byte from rfl,wB hc.byte,Zd (by have:=hB.len;omega)]
  by_cases oa:i=8*g+k
  .subst oa;right;rw[dB rfl,List.getElem?_set,dB rfl,dB (by omega)]
  .rw[dA oa,List.getElem?_set,dA (Ne.symm oa)];exact hB.kn i hi
 | read g z k am he hca hco hk ia Au=>
  rw[dB he,dB (.inr am)]at hx;cases hx;obtain⟨x,r1,r2,r3⟩:=room g z ia;have eat:i64.wrap (c.at_+c.off)=((8*g+k:Nat):Int):=by rw[hca,hco,show((8*g:Nat):Int)+(k:Int)=((8*g+k:Nat):Int)by omega,wN _ (by omega)]
  refine P_no (show(c.op==7)=false by rw[am];rfl) (xh (show(c.op==8)=true by rw[am];rfl) ?_)
  rw[show getI (evRow me c x1 x2 x4 x4 r) 5+getI (evRow me c x1 x2 x4 x4 r) 6=c.at_+c.off from rfl,eat];have fu:8*g+k<64*n:=by omega
  have Lm:0<=r.byte/\r.byte<=255:=ox _ (List.mem_of_getElem? Au);refine P_no (dC (by omega)) (P_no (dC (by omega)) (xh (xU fu) (xh (xM (show 8*g+k<K.length by have:=hB.len;omega)) (yP (fun c1 =>?_) (fun c1=>nxt K M (by omega) hB)))))
  rw[Int.toNat_natCast]at c1 |-;have c1:=dE c1;have:getI K (8*g+k)=r.byte:=by
   rcases hB.kn _ fu with h|h
   .omega
   .rw[Au]at h;exact(Option.some.inj h).symm
  rw[show getI (evRow me c x1 x2 x4 x4 r) 15=r.byte from rfl,wB Lm,this];exact P_no (bne_self_eq_false _) (nxt K M (by omega) hB)
 | gain g z x b' am he dm gu dz fe F8 hz hb=>
  rw[dB he,dA (by omega),dB (by omega)]at hx
  cases hx;have Mm:g+x.ext<=8*n:=sg.hi.hg.ext1 (xC _ _ _);have o7:(getI (evRow me c x1 x2 x3 x4 r) 1==7)=false:=by show(c.op==7)=false;rw[dO];omega
  have o8:(getI (evRow me c x1 x2 x3 x4 r) 1==8)=false:=by show(c.op==8)=false;rw[dO];omega
  have o4:(getI (evRow me c x1 x2 x3 x4 r) 1==4)=false:=by show(c.op==4)=false;rw[dO];omega
  refine P_no o7 (P_no o8 ?_);have bring : ∀K',Nw K K' (8*g) (8*x.ext) (fun q y=>y = -1\/(c.op=2/\(q:Int)<csz c/\y=0))->By n K' (rmA M r.at_ ++ [[r.at_,csz c,r.n]]) (updS live g (some z)) b':=by
   intro K' hN;rw[dm,dz];refine By.put (Kn hB.nd _) (xvt hB.nd) (fun q w hq =>?_) (hN.len.trans hB.len) fun i hi =>?_
   .by_cases bv:q=g
    .subst bv;rw[xx]at hq;cases hq;exact .inl ⟨rfl,rfl⟩
    .rw[xG _ _ bv]at hq;obtain⟨r',h1,h2,h3⟩:=hB.lv q w hq;exact .inr ⟨r',xbl h1 (by omega),h2,h3⟩
   .by_cases fu:8*g<=i/\i<8*g+8*x.ext
    .have:=hN.ins (i-8*g) (by omega)
     rw[show 8*g+(i-8*g)=i by omega]at this
     rcases this with h|⟨h2,h3,h4⟩
     .exact .inl h
     .right;rw[h4];rcases hb with⟨_,h⟩|⟨_,rfl⟩
      .exact absurd h2 h
      .rw[xdf hf _ _ _ _ (by omega),dB (by omega)]
    .rw[hN.out i (by have:=hB.len;omega) (by omega)]
     rcases hb with⟨rfl,_⟩|⟨_,rfl⟩
     .exact hB.kn i hi
     .rw[xdf hf _ _ _ _ (by omega),dA (by omega)]
      exact hB.kn i hi
  rw[Nat.zero_add (64*n)];by_cases h2:c.op=2
  .have oe:csz c=i64.wrap (c.size*c.n):=by unfold csz;rw[dB h2]
   refine xh (show(c.op==2)=true by simp[h2]) (xh cut (xy (xJ (by omega)) ?_))
   refine byt3 (K:=K) (M:=M) hB.len.symm (by have:=hB.len;omega) rfl dm gu (by have:=hB.len;omega) (show 1<=c.op/\c.op<=4 by omega) (fun h=>absurd h (show c.op≠4 by omega)) _ _ _ _ _ _ _ _ _ _ _ _ _ _ _ _ _ _ _ _ fun K' hN =>?_
   refine P_no o4 ?_;have:=puts K' M _ (by omega) (bring K' ⟨hN.len,hN.out,fun q hq=>by
    rcases hN.ins q hq with h|h|⟨h,_⟩
    .exact .inl h
    .rw[oe];exact .inr h
    .exact absurd h (show c.op≠4 by omega)⟩)
   rw[oe]at this;exact this
  .have oe:csz c=c.size:=by unfold csz;rw[dA h2]
   refine P_no (show(c.op==2)=false by simp[h2]) (xh cut (xy (xJ (by omega)) ?_))
   refine byt3 (K:=K) (M:=M) hB.len.symm (by have:=hB.len;omega) rfl dm gu (by have:=hB.len;omega) (show 1<=c.op/\c.op<=4 by omega) (fun h=>absurd h (show c.op≠4 by omega)) _ _ _ _ _ _ _ _ _ _ _ _ _ _ _ _ _ _ _ _ fun K' hN =>?_
   refine P_no o4 ?_;have:=puts K' M _ (by omega) (bring K' ⟨hN.len,hN.out,fun q hq=>by
    rcases hN.ins q hq with h|⟨h,_⟩|⟨h,_⟩
    .exact .inl h
    .exact absurd h h2
    .exact absurd h (show c.op≠4 by omega)⟩)
   rw[oe]at this;exact this
 | stay g z0 z x am he hca dm gu dz ia hhx hz=>
  rw[dB he,dA (by omega),dB (by omega)]at hx
  cases hx;have oe:csz c=c.size:=by unfold csz;rw[dA (by omega)]
  have Mm:g+x.ext<=8*n:=hHG.ext1 hhx;obtain⟨p,hp,f1,f2⟩:=hB.find ia;have o7:(getI (evRow me c x1 x2 x3 x4 r) 1==7)=false:=by show(c.op==7)=false;rw[am];rfl
  have o8:(getI (evRow me c x1 x2 x3 x4 r) 1==8)=false:=by show(c.op==8)=false;rw[am];rfl
  refine P_no o7 (P_no o8 (P_no (show(c.op==2)=false by rw[am];rfl) (xh cut (xy (xJ (by omega)) ?_))))
  have Lw:wl M (getI (evRow me c x1 x2 x3 x4 r) 5)=some p:=by
   have h:=f1;rw[<- hca]at h;exact h
  rw[Lw,Nat.zero_add (64*n)];have erm:rmA M ((8*g:Nat):Int)=M.eraseIdx p:=by unfold rmA;rw[f1]
  have ov:=xom M ((8*g:Nat):Int);rw[erm]at ov;refine byt3 (K:=K) (M:=M) hB.len.symm (by have:=hB.len;omega) rfl dm gu (by have:=hB.len;omega) (show 1<=c.op/\c.op<=4 by omega) (fun _=>⟨p,8*g,hp,rfl,hca,by omega⟩) _ _ _ _ _ _ _ _ _ _ _ _ _ _ _ _ _ _ _ _ fun K' hN =>?_
  refine xh (show(c.op==4)=true by rw[am];rfl) (xh (show decide (((p:Nat):Int)>=0)=true from dD (by omega)) (xy (wu hp (by omega)) ?_))
  refine puts K' (M.eraseIdx p) _ ov ?_;rw[show getI (evRow me c x1 x2 x3 x4 r) 2=csz c from oe.symm,dz,dm];rw[<- erm];refine By.put (Kn (Kn hB.nd _) _) (xvt (Kn hB.nd _)) (fun q w hq =>?_) (hN.len.trans hB.len) fun i hi =>?_
  .by_cases bv:q=g
   .subst bv;rw[xx]at hq;cases hq;exact .inl ⟨rfl,rfl⟩
   .rw[xG _ _ bv]at hq;obtain⟨r',h1,h2,h3⟩:=hB.lv q w hq;exact .inr ⟨r',xbl (xbl h1 (by omega)) (by omega),h2,h3⟩
  .by_cases fu:8*g<=i/\i<8*g+8*x.ext
   .have:=hN.ins (i-8*g) (by omega)
    rw[show 8*g+(i-8*g)=i by omega]at this
    rcases this with h|⟨h2,_⟩|⟨_,_,k,h3,h4,h5,h6⟩
    .exact .inl h
    .exact absurd h2 (show c.op≠2 by omega)
    .have:Int.toNat (c.at_+((i-8*g:Nat):Int))=i:=by
      rw[hca];omega
     rw[this]at h6;rw[h6];exact hB.kn i hi
   .rw[hN.out i (by have:=hB.len;omega) (by omega)]
    exact hB.kn i hi
 | go g z0 x g' z y am he hca dm gu dz ia hhx fe F8 aq hz hxz hHG'=>
  rw[dB he,dA (by omega),dB (by omega)]at hx
  cases hx;have oe:csz c=c.size:=by unfold csz;rw[dA (by omega)]
  have Mm:g+x.ext<=8*n:=hHG.ext1 hhx;have hy8:g'+y.ext<=8*n:=hHG'.ext1 (xC _ _ _);obtain⟨x',q1,q2,q3⟩:=room g z0 ia;have z9:x'=x:=by rw[hhx]at q1;cases q1;rfl
  subst z9;have apart:8*g+z0<=8*g'\/8*g'+z0<=8*g:=by
   have k1:upd held g' (some y) g=some x':=by rw[upd_ne _ _ aq];exact hhx
   have k2:upd held g' (some y) g'=some y:=xC _ _ _;rcases Nat.lt_or_gt_of_ne aq with an|an
   .have:=hHG'.disj _ _ _ _ k1 k2 an;omega
   .have:=hHG'.disj _ _ _ _ k2 k1 an;omega
  obtain⟨p,hp,f1,f2⟩:=hB.find ia;have o7:(getI (evRow me c x1 x2 x3 x4 r) 1==7)=false:=by show(c.op==7)=false;rw[am];rfl
  have o8:(getI (evRow me c x1 x2 x3 x4 r) 1==8)=false:=by show(c.op==8)=false;rw[am];rfl
  refine P_no o7 (P_no o8 (P_no (show(c.op==2)=false by rw[am];rfl) (xh cut (xy (xJ (by omega)) ?_))))
  have Lw:wl M (getI (evRow me c x1 x2 x3 x4 r) 5)=some p:=by
   have h:=f1;rw[<- hca]at h;exact h
  rw[Lw,Nat.zero_add (64*n)];have erm:rmA M ((8*g:Nat):Int)=M.eraseIdx p:=by unfold rmA;rw[f1]
  have ov:=xom M ((8*g:Nat):Int);rw[erm]at ov;have w1:K.length<=1000:=by have:=hB.len;omega
  have w2:8*g'+8*y.ext<=K.length:=by have:=hB.len;omega
  have w3:1<=c.op/\c.op<=4:=by omega
  have w4:8*g<1000000:=by omega
  refine byt3 (K:=K) (M:=M) (p:=8*g') (N:=8*y.ext) hB.len.symm w1 rfl dm gu w2 w3 (fun _=>⟨p,8*g,hp,rfl,hca,w4⟩) _ _ _ _ _ _ _ _ _ _ _ _ _ _ _ _ _ _ _ _ fun K' hN =>?_
  refine xh (show(c.op==4)=true by rw[am];rfl) (xh (show decide (((p:Nat):Int)>=0)=true from dD (by omega)) (xy (wu hp (by omega)) ?_))
  refine puts K' (M.eraseIdx p) _ ov ?_;rw[show getI (evRow me c x1 x2 x3 x4 r) 2=csz c from oe.symm,dz,dm];rw[<- erm];refine By.put (Kn (Kn hB.nd _) _) (xvt (Kn hB.nd _)) (fun q w hq =>?_) (hN.len.trans hB.len) fun i hi =>?_
  .by_cases bv:q=g
   .subst bv;rw[xx]at hq;cases hq
   .rw[xG _ _ bv]at hq;by_cases Fd:q=g'
    .subst Fd;rw[xx]at hq;cases hq;exact .inl ⟨rfl,rfl⟩
    .rw[xG _ _ Fd]at hq;obtain⟨r',h1,h2,h3⟩:=hB.lv q w hq;exact .inr ⟨r',xbl (xbl h1 (by omega)) (by omega),h2,h3⟩
  .rw[xk3 _ _ _ _ _ apart (by omega)]
   by_cases fu:8*g'<=i/\i<8*g'+8*y.ext
   .have:=hN.ins (i-8*g') (by omega)
    rw[show 8*g'+(i-8*g')=i by omega]at this
    rcases this with h|⟨h2,_⟩|⟨_,_,k,h3,h4,h5,h6⟩
    .exact .inl h
    .exact absurd h2 (show c.op≠2 by omega)
    .obtain rfl:k=p:=by
      have:((p:Nat):Int)=(k:Int):=h3;omega
     rw[ya hp,f2]at h4;have:Int.toNat (c.at_+((i-8*g':Nat):Int))=8*g+(i-8*g'):=by
      rw[hca];omega
     rw[this]at h6;rw[h6,dB (by omega)]
     rcases hB.kn (8*g+(i-8*g')) (by omega)with h|h
     .exact .inl h
     .right;rw[List.getD_eq_getElem?_getD,h];rfl
   .rw[hN.out i (by have:=hB.len;omega) (by omega),dA (by omega)]
    exact hB.kn i hi
end
end
end Go.Proofs.YtcicjcggclhbfaaGreat
