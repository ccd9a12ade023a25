/- Part. -/
import Derived.Test.YtcicjcggclhbfaaGreatCsM21
import Derived.Test.YtcicjcggclhbfaaGreatCsM23
set_option linter.all false
open Go.IntKind (i64 u64 u32 u8)
namespace Go.Proofs.YtcicjcggclhbfaaGreat
open Go Go.RowKit Lx
set_option maxRecDepth 100000
section
variable{n t:Nat}(hf:Small n t)(aj:n<=60){A:AS}{held:Nat->Option HK}{live:Nat->Option Nat}
theorem xwe{c:Cal}{r:Res}{was:Int}{ab:Nat->Option HK}{ac:Nat->Option Nat}{A':AS}(hC:Called n t A held live c r A' ab ac was):r.e≠5:=by
 have hd:=hC.did
 generalize A'.b=b1 at hd
 clear hC
 cases hd with
 | ask r ab ac b' am hA hb=>
  rcases hA with⟨_,_,_,he⟩|⟨g,x,hr,_⟩
  .rcases he with⟨he,_⟩|⟨_,_,⟨he,_⟩|⟨he,_⟩⟩<;>omega
  .rw[hr];show(0:Int)≠5;omega
 | renew r was ab ac b' am hR=>
  generalize hx:(r,was)=x at hR
  cases hR with
  | size l h1=>simp only[dH]at hx;obtain⟨rfl,rfl⟩:=hx;show(11:Int)≠5;omega
  | bad l h1 h2 h3=>simp only[dH]at hx;obtain⟨rfl,rfl⟩:=hx;show(13:Int)≠5;omega
  | none l g z x h1 h2 h3 h4 h5 h6 h7=>simp only[dH]at hx;obtain⟨rfl,rfl⟩:=hx;show(15:Int)≠5;omega
  | stay l g z x h1 h2 h3 h4 h5 h6=>simp only[dH]at hx;obtain⟨rfl,rfl⟩:=hx;show(0:Int)≠5;omega
  | go l g z x g' y h1 h2 h3 h4 h5 h6 h7 h8 h9=>simp only[dH]at hx;obtain⟨rfl,rfl⟩:=hx;show(0:Int)≠5;omega
 | free l g z am dm ia=>show(0:Int)≠5;omega
 | bad l am h2=>show(13:Int)≠5;omega
 | use l g z x h1 h2 h3 h4=>show(0:Int)≠5;omega
 | out l g z h1 h2 h3 h4=>show(14:Int)≠5;omega
 | write l m g z k h1 h2 h3 h4 h5=>show(0:Int)≠5;omega
 | read l m g z k y h1 h2 h3 h4 h5 h6=>show(0:Int)≠5;omega
 | tidy l h1=>show(0:Int)≠5;omega
 | stats l h1=>show(0:Int)≠5;omega
 | other l h1=>show(1:Int)≠5;omega
end
theorem busy_no{β:Type}{P:T β->Prop}{H:RowsL}(hH:H.length<=1000)(hk : ∀row∈H,getI row 21≠5){b0:Bool}{a1:Int}{n4:Nat}{q5:RowsL}{κ0 κ1:Unit->T β}(h:P (κ1 ())):P (Yh b0 a1 H.length n4 q5 H 0 κ0 κ1):=by
 unfold Yh
 refine xZ P (fun k i =>∃m:Nat,i=(m:Int)/\m<=H.length/\k=H.length-m) ?_ xa H.length _ (by unfold xa;omega) ⟨0,rfl,by omega,by omega⟩
 rintro k i κ ⟨m,rfl,hm,rfl⟩ ih
 unfold xvx
 by_cases an:m<H.length
 .have hg:getR H (Int.toNat (m:Int))=H[m]:=by rw[show Int.toNat (m:Int)=m from rfl,ya an]
  refine xh (dD (by omega)) (xh (xU an) (xh (xM an) (P_no ?_ ?_)))
  .rw[hg];simpa using hk _ (List.getElem_mem an)
  .rw[yO (by omega)]
   exact ih (H.length-(m+1)) _ (by omega) ⟨m+1,rfl,by omega,rfl⟩
 .obtain rfl:m=H.length:=by omega
  exact P_no (dC (by omega)) h
theorem sl_yes{pages threads:Int}(h0:0<=pages)(h1:pages<=255)(uk:0<=threads)(zk:threads<=255){Q:RowsL}(hQ : ∀r∈Q,TurnOk r){o c:Nat}{z:Yi}:Yes (slT pages threads o z Q.length c o Q):=by
 unfold slT slTK
 by_cases h40:Q.length>40
 .exact Yes.yes (dD (by omega)) Yes.ret
 refine Yes.no (dC (by omega)) ?_
 obtain⟨n,hn⟩ : ∃n:Nat,pages%12+1=(n:Int):=⟨(pages%12+1).toNat,by omega⟩
 obtain⟨t,ht⟩ : ∃t:Nat,threads%4+1=(t:Int):=⟨(threads%4+1).toNat,by omega⟩
 have lu:1<=n:=by omega
 have hn5:n<=12:=by omega
 have aj:n<=60:=by omega
 have hf:Small n t:=by
  have:t=1\/t=2\/t=3\/t=4:=by omega
  rcases this with rfl|rfl|rfl|rfl<;>exact⟨⟨lu,by omega,by omega,by omega⟩,by unfold nodesN;omega⟩
 have htt:=hf.t1
 have e1:i64.wrap (i64.wrap (Int.tmod pages 12)+1)=(n:Int):=by
  rw[dR h0,w64 (x:=pages%12) (by omega) (by omega),w64 (by omega) (by omega)];omega
 have e1t:i64.wrap (i64.wrap (Int.tmod threads 4)+1)=(t:Int):=by
  rw[dR uk,w64 (x:=threads%4) (by omega) (by omega),w64 (by omega) (by omega)];omega
 rw[e1,e1t]
 obtain⟨u3,s3,u4,s4,A0,g3,g4,hM0,hz⟩:=xBk hf
 refine Yes.run (xCh (t:=t) hf.toFew) (Yes.guard (xrY hf) (Yes.run g3 (Yes.run g4 ?_)))
 obtain⟨R,hs,W,B,A,held,live,H,st,rfl,hHl,ce,hM,hS⟩:=ser_eq hf aj hM0 hQ (by omega) (o:=o) (c:=c) (z:=z)
 refine Yes.run hs (Yes.no rfl ?_)
 have Jo:st<=9000000000000000000:=by omega
 have hT:=hS.tld
 have hS9 : ∀r∈H,getI r 9<=9000000000000000000:=fun r hr=>by have:=hT.2 r hr;omega
 obtain⟨hA,hh,hl,e0,e2,e3,e4,hq⟩:=hS.seq hM0.hp
 have hj:=jdg_eq hf aj hS hM0.hp (by omega) Jo
 refine Yes.run hj (Yes.no rfl ?_)
 obtain⟨r5,s5,A5,Nh,Me,Nz,v5,C5,M5,_⟩:=xw5 hf aj (me:=0) (by omega) (cal5 hf aj 11 0 0 (by omega)) hM
 obtain⟨d1,d2,d3,d4,d5,rfl,rfl,_,_⟩:=xBi hf aj C5 rfl
 refine Yes.run v5 ?_
 have E7:=sta_eq hf aj hq hT.1 hS9 (by omega) (by rw[e0];exact hz)
 rw[e2]at E7
 refine Yes.run E7 (Yes.no ?_ ?_)
 .simp only[d1,d2,d3,d4,d5,AS.port_w,beq_self_eq_true,Bool.and_self];rfl
 refine busy_no (P:=Yes) (by omega) (fun row ba =>?_) (Yes.run (byt_eq hf aj (by omega) hq hT.1 hS9 (by omega) hj) (Yes.yes rfl (Yes.yes rfl Yes.ret)))
 obtain⟨j,pb,rfl⟩:=List.mem_iff_getElem.1 ba
 obtain⟨me,cc,r,was,x1,x2,x3,x4,ah,hc,hC,e⟩:=hq.step j pb
 rw[e]
 exact xwe hC
theorem xix {pages threads:Int} (h0:0<=pages) (h1:pages<=255) (uk:0<=threads) (zk:threads<=255) {k off:Nat} {z:Option Addr} {n c:Nat} {M:RowsL} (hn:M.length=n) (hM : ∀r∈M,TurnOk r) (w:World) (hw:WinAt w k ⟨[], 120,false,some (.wrows off shT M)⟩) :
  Calls Tryz.prog 4 #[.int .u8 pages,.int .u8 threads,winV k off z n c] w fun e w'=>e = .returned (.bool true)/\Below w.heap.size w w':=by
 subst hn
 refine xyk (s_m_slT s_kj6) (args :=[.c (.int .u8 pages),.c (.int .u8 threads),.c (.slw 0 off z M.length c)]) [(k,⟨[], 120,false,some (.wrows off shT M)⟩)] rfl (fun p hp =>?_) rfl (sl_yes h0 h1 uk zk hM) rfl
 rw[List.mem_singleton]at hp
 subst hp
 exact hw
end Go.Proofs.YtcicjcggclhbfaaGreat
