/- Part. -/
import Derived.Test.YtaegelbaghaooaaGreatCbPMp
import Derived.Test.YtaegelbaghaooaaGreatCbPBegun
import Derived.Test.YtaegelbaghaooaaGreatCbPTrod
import Derived.Test.YtaegelbaghaooaaGreatCbQBk
set_option linter.all false
open Go.IntKind (i64 u64 u32 u8)
namespace Go.Proofs.YtaegelbaghaooaaGreat
open Go Go.RowKit Go.ChangeShapes Lx
set_option maxRecDepth 100000
theorem bk0_yes{H:RowsL}(hH:H.length<=1000)(hk : ∀row∈H,Wd row){b0:Bool}{a1 a2:Int}{n5 n8 n9 n10 n11:Nat}{q6:RowsL}{g7:Geo}{l12 l13:IntsL}{κ0:RowsL->T Bool}(h0:Yes (κ0 (mapM H))) :
  Yes (Xt b0 a1 a2 H.length n5 q6 g7 n8 n9 n10 n11 l12 l13 H 0 [] κ0):=by
 unfold Xt
 refine Yg Yes (fun k i =>∃j:Nat,i=((j:Int),mapM (H.take j))/\j<=H.length/\k=H.length-j) ?_ xa H.length _ (by unfold xa;omega) ⟨0,rfl,by omega,by omega⟩
 rintro k i κ ⟨j,rfl,hj,rfl⟩ ih
 unfold xsI
 simp only
 by_cases h:j<H.length
 case neg=>
  obtain rfl:j=H.length:=by omega
  rw[List.take_length]
  exact Yes.no (decide_eq_false (by omega)) h0
 have ej:i64.wrap ((j:Int)+1)=((j+1:Nat):Int):=xq3 (by omega)
 have next:Yes (κ (((j+1:Nat):Int),mapM (H.take (j+1)))):=ih (H.length-(j+1)) _ (by omega) ⟨j+1,rfl,by omega,rfl⟩
 have hl:=mapM_length H j hj
 have hko:=hk _ (List.getElem_mem h)
 rw[xiR h]at next
 rw[show Int.toNat (j:Int)=j from rfl,xtg h,ej]
 generalize H[j]=row at next hko |-
 generalize mapM (H.take j)=m at next hl |-
 have hi:=xq4 h
 have hr:=xkO h
 have hlen : ∀m':RowsL,m'.length<=j->Nat.ble m'.length 1000000=true:=fun m' h=>Nat.ble_eq_true_of_le (by omega)
 obtain⟨hk1,hk2⟩:=hko
 refine Yes.yes (decide_eq_true (by omega)) (Yes.yes hi (Yes.yes hr (Yes.yes hi (Yes.yes hr ?_))))
 by_cases e0:getI row 21=0
 ·have b0':(getI row 21==0)=true:=by simpa using e0
  refine Yes.yes b0' ?_
  by_cases e4:getI row 1=4
  ·refine Yes.yes (by simpa using e4) (Yes.yes hi (Yes.yes hr (Yes.yes (hk1 e0 (.inl e4)) (Yes.yes hi (Yes.yes hr (Yes.yes b0' (Yes.yes (decide_eq_true (by omega)) (Yes.yes (decide_eq_true (by omega)) (Yes.yes hi (Yes.yes hr (Yes.yes ?_ ?_)))))))))))
   ·rw[Bool.and_eq_true]
    exact⟨hk2 e0 (by omega) (by omega),hlen _ (Nat.le_trans (jz _ _) hl)⟩
   ·unfold vG delM at next
    rw[if_pos ⟨e0,by omega,by omega⟩,if_pos ⟨e0,.inl e4⟩]at next
    exact next
  ·refine Yes.no (by simpa using e4) ?_
   by_cases e5:getI row 1=5
   ·refine Yes.yes (by simpa using e5) (Yes.yes hi (Yes.yes hr (Yes.yes (hk1 e0 (.inr e5)) (Yes.yes hi (Yes.yes hr (Yes.yes b0' (Yes.yes (decide_eq_true (by omega)) (Yes.no (decide_eq_false (by omega)) ?_))))))))
    unfold vG delM at next
    rw[if_neg (fun h=>by omega),if_pos ⟨e0,.inr e5⟩]at next
    exact next
   ·refine Yes.no (by simpa using e5) (Yes.yes hi (Yes.yes hr (Yes.yes b0' ?_)))
    by_cases e1:getI row 1>=1
    ·refine Yes.yes (decide_eq_true e1) ?_
     by_cases e2:getI row 1<=4
     ·refine Yes.yes (decide_eq_true e2) (Yes.yes hi (Yes.yes hr (Yes.yes ?_ ?_)))
      ·rw[Bool.and_eq_true]
       exact⟨hk2 e0 e1 e2,hlen _ hl⟩
      ·unfold vG delM at next
       rw[if_pos ⟨e0,e1,e2⟩,if_neg (fun h=>by omega)]at next
       exact next
     ·refine Yes.no (decide_eq_false e2) ?_
      unfold vG delM at next
      rw[if_neg (fun h=>e2 h.2.2),if_neg (fun h=>by omega)]at next
      exact next
    ·refine Yes.no (decide_eq_false e1) ?_
     unfold vG delM at next
     rw[if_neg (fun h=>e1 h.2.1),if_neg (fun h=>by omega)]at next
     exact next
 ·have b0':(getI row 21==0)=false:=by simpa using e0
  refine Yes.no b0' (Yes.yes hi (Yes.yes hr (Yes.no b0' ?_)))
  unfold vG delM at next
  rw[if_neg (fun h=>e0 h.1),if_neg (fun h=>e0 h.1)]at next
  exact next
section
variable{n t:Nat}(hf:Small n t)(hn60:n<=60){A:AS}{held:Nat->Option HK}{live:Nat->Option Nat}
include hf hn60
theorem cal5(op a s:Int)(hs:s<9223372036854775808):CalOk ⟨op,s,0,0,a,0,0⟩:=⟨hs,by show(0:Int)<_;omega,by show(0:Int)<_;omega,by show(0:Int)<=0/\(0:Int)<=255;omega⟩
theorem bk1_yes{W B:List Int}(hM0:MemH n t A held live W B)(hc0:CI (8*n) (A.w 2) live){m:RowsL}(hm:MapOk m live){b0:Bool}{n4:Nat}{q5:RowsL}{κ0 κ1:Nat->Nat->Nat->Nat->IntsL->IntsL->T Bool}
  (h1 : ∀ (W B:List Int) (A:AS) (held:Nat->Option HK),MemH n t A held (fun _=>none) W B->CI (8*n) (A.w 2) (fun _=>none)->Yes (κ1 W.length W.length B.length B.length W B)) :
  Yes (Xu b0 (n:Int) (t:Int) n4 q5 (xb n t) m 0 W.length W.length B.length B.length W B κ0 κ1):=by
 have hn1:=hf.n1
 have ht1:=hf.t1
 have ht2:=hf.t2
 have e64:i64.wrap (64*(n:Int))=((64*n:Nat):Int):=by rw[show 64*(n:Int)=((64*n:Nat):Int)by omega,wN _ (by omega)]
 have gone : ∀g,8*n<=g->live g=none:=fun g hg=>by
  cases hl:live g with
  | none=>rfl
  | some z=>have:=(hM0.hp.lives hf hn60 hl).1;omega
 unfold Xu
 refine Yg Yes (fun k i =>∃ (j:Nat) (W B:List Int) (A:AS) (held:Nat->Option HK) (lv:Nat->Option Nat),i=(((8*j:Nat):Int),W.length,W.length,B.length,B.length,W,B)/\j<=8*n/\k=8*n-j/\(∀g,lv g=if g<j then none else live g)/\MemH n t A held lv W B/\CI (8*n) (A.w 2) lv)
  ?_ xa (8*n) _ (by unfold xa;omega) ⟨0,W,B,A,held,live,rfl,by omega,by omega,fun g=>by rw[if_neg (by omega)],hM0,hc0⟩
 clear hM0 hc0 W B
 rintro k i κ ⟨j,W,B,A,held,lv,rfl,hj,rfl,hlv,hM,hc⟩ ih
 unfold xsJ
 simp only
 rw[e64]
 by_cases h:j<8*n
 case neg=>
  refine Yes.no (decide_eq_false (by omega)) (h1 W B A held ?_ ?_)
  all_goals
   have:lv=fun _=>none:=funext fun g=>by
    rw[hlv]
    by_cases hg:g<j
    ·rw[if_pos hg]
    ·rw[if_neg hg];exact gone g (by omega)
   rw[<- this];assumption
 have ej:i64.wrap (((8*j:Nat):Int)+8)=((8*(j+1):Nat):Int):=by rw[show((8*j:Nat):Int)+8=((8*(j+1):Nat):Int)by omega,wN _ (by omega)]
 have et:Int.tmod ((8*j:Nat):Int) (t:Int)=((8*j%t:Nat):Int):=by rw[Int.tmod_eq_emod_of_nonneg (by omega)];omega
 rw[ej,et]
 obtain⟨r,s',A',held',live',was,hv,hC,hM',hs'⟩:=YR hf hn60 (me:=8*j%t) (Nat.mod_lt _ (by omega)) (cal5 hf hn60 5 ((8*j:Nat):Int) 0 (by omega)) hM
 have hc':=hC.cnt_live hf hn60 (hM.hp.port _) hc
 refine Yes.yes (decide_eq_true (by omega)) (Yes.yes (by simp;omega) (Yes.run hv (Yes.yes (Xr (by omega)) ?_)))
 simp only
 have next:(∀g,live' g=if g<j+1 then none else live g)->Yes (κ (((8*(j+1):Nat):Int),s'.m.words.length,s'.m.words.length,s'.m.bytes.length,s'.m.bytes.length,s'.m.words,s'.m.bytes)):=fun hh=>
  ih (8*n-(j+1)) _ (by omega) ⟨j+1,s'.m.words,s'.m.bytes,A',held',live',rfl,by omega,rfl,hh,hM',hc'⟩
 have hd:=hC.did
 generalize A'.b=b' at hd
 generalize(A.port ((8*j%t:Nat):Int)).b=b0' at hd
 generalize(A.port ((8*j%t:Nat):Int)).w 2=f0 at hd
 clear hC hc' hv
 cases hd with
 | ask _ _ _ _ hop=>exfalso;have:(5:Int)=1\/(5:Int)=2\/(5:Int)=3:=hop;omega
 | renew _ _ _ _ _ hop=>exfalso;have:(5:Int)=4:=hop;omega
 | bad l _ h2=>
  have hno:live j=none:=by
   cases hl:live j with
   | none=>rfl
   | some z=>exact absurd rfl (h2 j z (by rw[hlv,if_neg (by omega),hl]))
  have hg:vW ((8*j:Nat):Int) m [0] = [0]:=by
   unfold vW
   rw[hm.no _ fun g z hl he=>(by
    have:g=j:=by omega
    subst this
    rw[hno]at hl
    cases hl)]
  rw[hg]
  refine Yes.no rfl (next fun g =>?_)
  rw[hlv]
  by_cases hg:g<j
  ·rw[if_pos hg,if_pos (by omega)]
  ·rw[if_neg hg]
   by_cases hgj:g=j
   ·subst hgj;rw[if_pos (by omega),hno]
   ·rw[if_neg (by omega)]
 | free l g z _ h2 h3=>
  have h2':((8*j:Nat):Int)=((8*g:Nat):Int):=h2
  obtain rfl:g=j:=by omega
  rw[hlv,if_neg (by omega)]at h3
  have hg:vW ((8*g:Nat):Int) m [0] = [1]:=by
   unfold vW
   rw[hm.yes g z h3]
  rw[hg]
  refine Yes.no rfl (next fun q =>?_)
  by_cases hq:q=g
  ·subst hq;rw[xD,if_pos (by omega)]
  ·rw[xG _ _ hq,hlv]
   by_cases hq2:q<g
   ·rw[if_pos hq2,if_pos (by omega)]
   ·rw[if_neg hq2,if_neg (by omega)]
 | use _ _ _ _ hop=>exfalso;have:(5:Int)=6:=hop;omega
 | out _ _ _ hop=>exfalso;have:(5:Int)=7\/(5:Int)=8:=hop;omega
 | write _ _ _ _ _ hop=>exfalso;have:(5:Int)=7:=hop;omega
 | read _ _ _ _ _ _ hop=>exfalso;have:(5:Int)=8:=hop;omega
 | tidy _ hop=>exfalso;have:(5:Int)=9\/(5:Int)=10:=hop;omega
 | stats _ hop=>exfalso;have:(5:Int)=11:=hop;omega
 | other _ hop=>exfalso;have:(5:Int)<1\/11<(5:Int):=hop;omega
theorem xtJ{me:Int}{c:Cal}{r:Res}{A':AS}{held':Nat->Option HK}{live':Nat->Option Nat}{was:Int}(hC:Called n t (A.port me) held live c r A' held' live' was)(hop:c.op=9\/c.op=10):r.e=0/\held'=held/\live'=live:=by
 have hd:=hC.did
 generalize A'.b=b' at hd
 generalize(A.port me).b=b0' at hd
 generalize(A.port me).w 2=f0 at hd
 clear hC
 cases hd with
 | tidy l h1=>exact⟨rfl,rfl,rfl⟩
 | ask _ _ _ _ h1 hA hb=>clear hA hb;omega
 | renew _ _ _ _ _ h1 hR=>clear hR;omega
 | bad _ h1 h2=>clear h2;omega
 | free _ _ _ h1=>omega
 | use _ _ _ _ h1=>omega
 | out _ _ _ h1=>omega
 | write _ _ _ _ _ h1=>omega
 | read _ _ _ _ _ _ h1=>omega
 | stats _ h1=>omega
 | other _ h1=>omega
theorem bk2_yes{W B:List Int}(hM0:MemH n t A held (fun _=>none) W B)(hc0:CI (8*n) (A.w 2) (fun _=>none)){b0:Bool}{n4:Nat}{q5:RowsL}{κ0:Nat->Nat->Nat->Nat->IntsL->IntsL->T Bool}
  (h1 : ∀ (W B:List Int) (A:AS) (held:Nat->Option HK),MemH n t A held (fun _=>none) W B->CI (8*n) (A.w 2) (fun _=>none)->Yes (κ0 W.length W.length B.length B.length W B)) :
  Yes (Xv b0 (n:Int) (t:Int) n4 q5 (xb n t) 0 W.length W.length B.length B.length W B κ0):=by
 have ht2:=hf.t2
 unfold Xv
 refine Yg Yes (fun k i =>∃ (j:Nat) (W B:List Int) (A:AS) (held:Nat->Option HK),i=((j:Int),W.length,W.length,B.length,B.length,W,B)/\j<=t/\k=t-j/\MemH n t A held (fun _=>none) W B/\CI (8*n) (A.w 2) (fun _=>none))
  ?_ xa t _ (by unfold xa;omega) ⟨0,W,B,A,held,rfl,by omega,by omega,hM0,hc0⟩
 clear hM0 hc0 W B
 rintro k i κ ⟨j,W,B,A,held,rfl,hj,rfl,hM,hc⟩ ih
 unfold xsK
 simp only
 by_cases h:j<t
 case neg=>exact Yes.no (decide_eq_false (by omega)) (h1 W B A held hM hc)
 rw[xq3 (x:=j) (by omega)]
 obtain⟨r,s',A',held',live',was,hv,hC,hM',hs'⟩:=YR hf hn60 (me:=j) h (cal5 hf hn60 9 0 0 (by omega)) hM
 have hc':=hC.cnt_live hf hn60 (hM.hp.port _) hc
 obtain⟨_,rfl,rfl⟩:=xtJ hf hn60 hC (.inl rfl)
 exact Yes.yes (decide_eq_true (by omega)) (Yes.run hv (ih (t-(j+1)) _ (by omega) ⟨j+1,s'.m.words,s'.m.bytes,A',held',rfl,by omega,rfl,hM',hc'⟩))
theorem xxS{me:Int}{r:Res}{A':AS}{held':Nat->Option HK}{live':Nat->Option Nat}{was:Int}(hp:Hp n t A held (fun _=>none))(hC:Called n t (A.port me) held (fun _=>none) ⟨1,((64*n:Nat):Int),0,0,0,0,0⟩ r A' held' live' was):r.e=0/\r.at_=0/\r.n=((64*n:Nat):Int):=by
 have hn1:=hf.n1
 have hheld:held=fun _=>none:=funext fun g=>by
  cases hh:held g with
  | none=>rfl
  | some x=>obtain⟨z,hz⟩:=hp.lh.hl g x hh;cases hz
 have hp':=hC.hp
 have hd:=hC.did
 generalize A'.b=b' at hd
 generalize(A.port me).b=b0' at hd
 generalize(A.port me).w 2=f0 at hd
 clear hC
 subst hheld
 cases hd with
 | ask r held' live' b' hop hA hb=>
  rw[if_neg (by show ¬ (1:Int)=2;omega),if_neg (by show ¬ (1:Int)=3;omega)]at hA
  simp only at hA
  rcases hA with⟨_,_,_,⟨_,hz⟩|⟨h1,h2,⟨_,h3⟩|⟨_,_,h3⟩⟩⟩|⟨g,x,hr,_,rfl,_,h1,h2,_,h4⟩
  ·omega
  ·cases h3
  ·exact absurd h3 (xsB hn1 (by omega) (by omega))
  ·have hb:=YQ h1 h4
   have he:=hp'.hi.hg.ext1 (g:=g) (x:=x) (xC _ _ _)
   rw[hr]
   refine⟨rfl,?_,?_⟩
   ·show((8*g:Nat):Int)=0
    omega
   ·show((8*x.ext:Nat):Int)=_
    omega
 | renew _ _ _ _ _ hop=>exfalso;have:(1:Int)=4:=hop;omega
 | bad _ hop=>exfalso;have:(1:Int)=5\/(1:Int)=6\/(1:Int)=7\/(1:Int)=8:=hop;omega
 | free _ _ _ hop=>exfalso;have:(1:Int)=5:=hop;omega
 | use _ _ _ _ hop=>exfalso;have:(1:Int)=6:=hop;omega
 | out _ _ _ hop=>exfalso;have:(1:Int)=7\/(1:Int)=8:=hop;omega
 | write _ _ _ _ _ hop=>exfalso;have:(1:Int)=7:=hop;omega
 | read _ _ _ _ _ _ hop=>exfalso;have:(1:Int)=8:=hop;omega
 | tidy _ hop=>exfalso;have:(1:Int)=9\/(1:Int)=10:=hop;omega
 | stats _ hop=>exfalso;have:(1:Int)=11:=hop;omega
 | other _ hop=>exfalso;have:(1:Int)<1\/11<(1:Int):=hop;omega
end
theorem bk_yes{pages threads:Int}(h0:0<=pages)(h1:pages<=255)(ht0:0<=threads)(ht1:threads<=255){Q:RowsL}(hQ : ∀r∈Q,TurnOk r){o c:Nat}{z:Xi}:Yes (bkT pages threads o z Q.length c o Q):=by
 unfold bkT bkTK
 by_cases h30:Q.length>30
 ·exact Yes.yes (decide_eq_true (by omega)) Yes.ret
 refine Yes.no (decide_eq_false (by omega)) ?_
 obtain⟨n,hn⟩ : ∃n:Nat,pages%10+1=(n:Int):=⟨(pages%10+1).toNat,by omega⟩
 obtain⟨t,ht⟩ : ∃t:Nat,threads%4+1=(t:Int):=⟨(threads%4+1).toNat,by omega⟩
 have hn1:1<=n:=by omega
 have hn5:n<=10:=by omega
 have hn60:n<=60:=by omega
 have hf:Small n t:=by
  have:t=1\/t=2\/t=3\/t=4:=by omega
  rcases this with rfl|rfl|rfl|rfl<;>exact⟨⟨hn1,by omega,by omega,by omega⟩,by unfold nodesN;omega⟩
 have htt:=hf.t1
 have ht5:t<=4:=by omega
 have e1:i64.wrap (i64.wrap (Int.tmod pages 10)+1)=(n:Int):=by
  rw[Int.tmod_eq_emod_of_nonneg h0,w64 (x:=pages%10) (by omega) (by omega),w64 (by omega) (by omega)];omega
 have e1t:i64.wrap (i64.wrap (Int.tmod threads 4)+1)=(t:Int):=by
  rw[Int.tmod_eq_emod_of_nonneg ht0,w64 (x:=threads%4) (by omega) (by omega),w64 (by omega) (by omega)];omega
 have e64:i64.wrap (64*(n:Int))=((64*n:Nat):Int):=by rw[show 64*(n:Int)=((64*n:Nat):Int)by omega,wN _ (by omega)]
 have et1:i64.wrap ((t:Int)-1)=((t-1:Nat):Int):=by rw[show(t:Int)-1=((t-1:Nat):Int)by omega,wN _ (by omega)]
 rw[e1,e1t,e64,et1]
 obtain⟨u3,s3,u4,s4,A0,g3,g4,hM0,hz⟩:=xxT hf
 refine Yes.run (xxY (t:=t) hf.toFew) (Yes.guard (xpm hf) (Yes.run g3 (Yes.run g4 ?_)))
 obtain⟨R,hs,W,B,A,held,live,H,st,rfl,hHl,hst,hM,hS⟩:=ser_eq hf hn60 hM0 hQ (by omega) (o:=o) (c:=c) (z:=z)
 refine Yes.run hs ?_
 obtain⟨_,hmap,hkeys,hci⟩:=hS.mapd hf hn60 hM0.hp hz
 refine bk0_yes (by omega) hkeys (bk1_yes hf hn60 hM hci hmap fun W1 B1 A1 held1 hM1 hc1=>bk2_yes hf hn60 hM1 hc1 fun W2 B2 A2 held2 hM2 hc2 =>?_)
 obtain⟨r3,s3',A3,held3,live3,was3,v3,C3,M3,_⟩:=YR hf hn60 (me:=0) (by omega) (cal5 hf hn60 10 0 0 (by omega)) hM2
 have c3:=C3.cnt_live hf hn60 (hM2.hp.port _) hc2
 obtain⟨t1,rfl,rfl⟩:=xtJ hf hn60 C3 (.inr rfl)
 refine Yes.run v3 ?_
 obtain⟨r5,s5,A5,held5,live5,was5,v5,C5,M5,_⟩:=YR hf hn60 (me:=0) (by omega) (cal5 hf hn60 11 0 0 (by omega)) M3
 obtain⟨d1,d2,d3,d4,d5,rfl,rfl,_,_⟩:=xxU hf hn60 C5 rfl
 refine Yes.run v5 ?_
 obtain⟨r6,s6,A6,held6,live6,was6,v6,C6,M6,_⟩:=YR hf hn60 (me:=t-1) (by omega) (cal5 hf hn60 1 0 ((64*n:Nat):Int) (by omega)) M5
 obtain⟨f1,f2,f3⟩:=xxS hf hn60 M5.hp C6
 refine Yes.run v6 ?_
 obtain⟨z3,z4,z01⟩:=c3.none
 simp only[AS.port_w]at d1 d2 d4 d5
 exact Yes.yes (by simp only[t1];rfl) (Yes.yes (by simp only[d4,z3];rfl) (Yes.yes (by simp only[d5,z4];rfl) (Yes.yes (by simp only[d1,d2,z01,beq_self_eq_true]) (Yes.yes (by simp only[f1];rfl) (Yes.yes (by simp only[f2];rfl) (Yes.yes (by simp only[f3,beq_self_eq_true]) Yes.ret))))))
theorem xlG {pages threads:Int} (h0:0<=pages) (h1:pages<=255) (ht0:0<=threads) (ht1:threads<=255) {k off:Nat} {z:Option Addr} {n c:Nat} {M:RowsL} (hn:M.length=n) (hM : ∀r∈M,TurnOk r) (w:World) (hw:WinAt w k ⟨[], 116,false,some (.wrows off shT M)⟩) :
  Calls Tryz.prog 14 #[.int .u8 pages,.int .u8 threads,winV k off z n c] w fun e w'=>e = .returned (.bool true)/\Below w.heap.size w w':=by
 subst hn
 refine xuL (s_m_bkT s_kx0) (args :=[.c (.int .u8 pages),.c (.int .u8 threads),.c (.slw 0 off z M.length c)]) [(k,⟨[], 116,false,some (.wrows off shT M)⟩)] rfl (fun p hp =>?_) rfl (bk_yes h0 h1 ht0 ht1 hM) rfl
 rw[List.mem_singleton]at hp
 subst hp
 exact hw
end Go.Proofs.YtaegelbaghaooaaGreat
