/- Part. -/
import Derived.Test.YtfagfflkgmcnpaaGreatDoorStM28
import Derived.Conc.Beside
import Derived.Conc.AppendEvents
set_option linter.all false
open Go.IntKind (i64 u64 u32 u8)
set_option maxRecDepth 1000000
namespace Go.Proofs.YtfagfflkgmcnpaaGreatDoor.Mx
open Go Go.Conc Lx Kx Tx
open Go.ConcN (sumTo upd sumTo_upd upd_ne upd_same)
variable{Goal:Machine->Trace->Prop}{kd kd':Kd}{ps ps':List WC}{F F' Fs:Fo}{R R':Rg}{n n' nc:Nat}{w w' ws w₃:World}{i:Nat}{t:Th}{g:Gh}{S:Nat->Prop}{ts:List Th}{gs:List Gh}{s s':MS}{fr caller:Frame}{cs:List Frame}{c:WC}{p j:Nat}
theorem Yg{pre fg r r':List Value}(h:WorkAt c pre r w)(h':WorkAt c fg r' w):pre=fg/\r=r':=by
 have e:=h.2.symm.trans h'.2
 simp only[oI,Obj.cells.injEq,and_true]at e
 have e2:pre++r=fg++r':=by simpa using e
 exact List.append_inj e2 (by rw[h.1.1,h'.1.1])
theorem WorkAt.same{pre r:List Value}(h:WorkAt c pre r w)(hs:w'.heap[c.wb]? = w.heap[c.wb]?):WorkAt c pre r w':=⟨h.1,hs.trans h.2⟩
theorem WorkAt.obj{pre:List Value}{r:List Int}(h:WorkAt c pre (resV r) w):w.heap[c.wb]? = some (vP pre r):=h.2
theorem xfI{F3:Fo}{m q:Nat}(has : ∀b,F b ↔ ∃x,kd b=some x)(hm : ∀b,F3 b↔F b\/(n<=b/\b<m))(b:Nat):F3 b ↔ ∃x,kdN kd n m q b=some x:=by
 rw[hm]
 unfold kdN
 by_cases e:n<=b/\b<m
 .rw[dB e];exact⟨fun _=>⟨_,rfl⟩,fun _ =>.inr e⟩
 .rw[dA e];exact⟨fun h=>(has b).1 (h.resolve_right e),fun h =>.inl ((has b).2 h)⟩
theorem xiE{x:Nat}{sx:Seat}{g₃:Goroutine}(hx:upd R.Inb j (some (seatW c (· = g₃))) x=some sx):(x=j/\sx=seatW c (· = g₃))\/(R.Inb x=some sx/\x≠j):=by
 by_cases e:x=j
 .subst e;rw[upd_same]at hx;cases hx;exact .inl ⟨rfl,rfl⟩
 .rw[upd_ne _ _ e]at hx;exact .inr ⟨hx,e⟩
theorem xeF{x:Nat}{sx:Seat}(hx:upd R.Inb j none x=some sx):R.Inb x=some sx/\x≠j:=by
 by_cases e:x=j
 .subst e;rw[upd_same]at hx;cases hx
 .rw[upd_ne _ _ e]at hx;exact⟨hx,e⟩
theorem xeG{tb wb:Nat}{pre:List Value}{e:Tx.Ask}{L:List Tx.Ask}{v:Int}(hR:RepM s F w)(ht:s.ths[i]? = some t)(hk:F.A.tok i=some tb)(hb:t.busy=true)(ho:t.orc=e::L)(hv:e.v=v)(hw:F.A.cap t.cap=some wb/\ ¬F wb/\pre.length=3/\t.r0.length=11/\w.heap[wb]? = some (vP pre t.r0))
  (h : ∀rv F' w',(rv = .bool true/\w'.heap[wb]? = some (vP pre (t.res L))/\After ⟨s.ths.set i (t.went L),s.plans,s.nc⟩ F w F' w' (fun _=>False) (fun b=>b=wb))->F.A.le F'.A->OkM Goal ⟨s.ths.set i (t.went L),s.plans,s.nc⟩ F' (caller.finish rv) cs w') :
  OkM Goal s F (Frame.enter Tryz.prog 76 #[ptr0 tb,.int .u64 v] .normal) (caller::cs) w:=by
 intro gs ps kd R n L₀
 obtain⟨g,hg,T⟩:=L₀.find ht
 obtain rfl:g.c.tb=tb:=Option.some.inj (T.tok.symm.trans hk)
 obtain⟨port,done,pend,O⟩:=T.thr
 have B:=T.body hb
 have P:=T.port B.bg
 have kp:=L₀.pk _ _ P.pp
 obtain⟨cb,hwF,mz,my,B7⟩:=hw
 obtain rfl:g.c.wb=wb:=Option.some.inj (B.tk.symm.trans cb)
 have dh:kd g.c.wb=none:=by
  cases e:kd g.c.wb with
  | none=>rfl
  | some y=>exact absurd (L₀.inF e) hwF
 obtain⟨px,e',L',x1,rfl,x2,x3⟩:=O.asks hb
 rw[ho]at x1
 cases x1
 have B9:=O.at_
 rw[hb,B.nc,(O.prt B.bg).1,(O.prt B.bg).2]at B9
 have hT0:ThrAt g.c (.pointer (some ⟨px,0,none⟩)) true false w:=B9
 obtain⟨e0,L1,g2,g1,Hq,N⟩:=B.now
 rw[ho]at Hq
 cases Hq
 have R₀:=L₀.round ht hg hb (A:=⟨g.F.A.tok,capM g kd w.heap.size⟩) dh (sH:=yG g.c) fun x hx=>vk.1 hx
 have ap:g.c∈ps:=List.mem_of_getElem? P.pp
 have az : ∀k,3<=k->R.Still (.cell ⟨g.c.pb,k,none⟩):=fun k hk=>(L₀.St _).2 ⟨g.c,ap,k,hk,rfl⟩
 have hKg : ∀d k,Keeps (fun b=>b=g.c.grant) w ((w.at d).setChan g.c.grant 0 #[] false (k+1) (k+1) false):=fun d k=>⟨rfl,rfl,rfl,Nat.le_of_eq (size_setChan _ _ _ _ _ _ _ _).symm,fun b _ hb=>heap_setChan_ne (w.at d) _ _ _ _ _ _ (Ne.symm hb)⟩
 have kold : ∀m b y,kd b=some y->kdN kd w.heap.size m g.p b=some y:=fun m=>kdN_old fun b x h=>L₀.kdlt h
 have hgF:FsOf g w.heap.size g.c.grant:=B.fs (L₀.kdlt B.kg) B.kg (r_ne (by omega))
 -- what both ends have in common
 have both : ∀ {w' w₃:World} {d kg:Nat} {ch:Nat} {r:Nat},kd ch=some (g.p,r)->r=3\/r=5->Turned g.c ⟨FsOf g w.heap.size,⟨g.F.A.tok,capM g kd w.heap.size⟩⟩ ((w.at d).setChan g.c.grant 0 #[] false (kg+1) (kg+1) false) true false w'->Keeps (fun b=>b=g.c.tb\/b=ch) w' w₃->
   Keeps (fun b=> ¬FsOf g w.heap.size b\/b=g.c.pb\/b=g.c.wb\/b=g.c.done\/b=g.c.tb\/b=g.c.grant\/b=ch) w w₃/\CapIs g.c.grant 0 w₃:=fun {w' w₃ d kg ch r} de hr fb d7=>by
  have k1:Keeps (fun b=> ¬FsOf g w.heap.size b\/b=g.c.pb\/b=g.c.wb\/b=g.c.done\/b=g.c.tb\/b=g.c.grant\/b=ch) w w₃:=(((hKg d kg).mono (S':=fun b=> ¬FsOf g w.heap.size b\/b=g.c.pb\/b=g.c.wb\/b=g.c.done\/b=g.c.tb\/b=g.c.grant\/b=ch) fun b hb =>.inr (.inr (.inr (.inr (.inr (.inl hb)))))).trans fb.keeps fun b hb =>.inl (by rcases hb with x|x|x|x|x;exact .inl x;exact .inr (.inl x);exact .inr (.inr (.inl x));exact .inr (.inr (.inr (.inl x)));exact .inr (.inr (.inr (.inr (.inl x)))))).trans d7 fun b hb =>.inl (by rcases hb with x|x;exact .inr (.inr (.inr (.inr (.inl x))));exact .inr (.inr (.inr (.inr (.inr (.inr x))))))
  have C5:=L₀.kdlt B.kg
  have g1:CapIs g.c.grant 0 ((w.at d).setChan g.c.grant 0 #[] false (kg+1) (kg+1) false):=by
   obtain⟨a1,a2,a3,a4,a5,e1⟩:=B.gr
   exact⟨_,_,_,_,_,Go.Conc.heap_setChan_self (w.at d) e1 _ _ _ _ _ _⟩
  have s1:((w.at d).setChan g.c.grant 0 #[] false (kg+1) (kg+1) false).heap.size=w.heap.size:=size_setChan _ _ _ _ _ _ _ _
  have g2:CapIs g.c.grant 0 w':=g1.same (fb.keeps.block _ (by rw[s1];exact C5) fun z=>by
   rcases z with z|z|z|z|z
   .exact z hgF
   .exact xM B.kg kp (r_ne (by omega)) z
   .exact yV B.kg dh z
   .exact xM B.kg P.kdn (r_ne (by omega)) z
   .exact xM B.kg T.kt (r_ne (by omega)) z)
  refine⟨k1,g2.same (d7.block _ (Nat.lt_of_lt_of_le (by rw[s1];exact C5) fb.keeps.size) fun z=>z.elim (xM B.kg T.kt (r_ne (by omega))) (xM B.kg de (r_ne (by omega))))⟩
 have hM : ∀ {ch r:Nat},kd ch=some (g.p,r)->2<=r ->∀b,(¬FsOf g w.heap.size b\/b=g.c.pb\/b=g.c.wb\/b=g.c.done\/b=g.c.tb\/b=g.c.grant\/b=ch)->b<w.heap.size->kd b=none\/Mine kd i t g b:=fun {ch r} de hr b gu gt=>by
  rcases gu with z|rfl|rfl|rfl|rfl|rfl|rfl
  .exact .inr (.inr (.inr ⟨B.bg,8,by omega,B.nfs gt z⟩))
  .exact .inr (.inr (.inr ⟨B.bg,2,by omega,kp⟩))
  .exact .inl dh
  .exact .inr (.inr (.inr ⟨B.bg,5,by omega,P.kdn⟩))
  .exact .inr (.inl T.kt)
  .exact .inr (.inr (.inr ⟨B.bg,4,by omega,B.kg⟩))
  .exact .inr (.inr (.inr ⟨B.bg,r,hr,de⟩))
 have same : ∀ {w₃:World} {ch r:Nat},kd ch=some (g.p,r)->r=3\/r=5->Keeps (fun b=> ¬FsOf g w.heap.size b\/b=g.c.pb\/b=g.c.wb\/b=g.c.done\/b=g.c.tb\/b=g.c.grant\/b=ch) w w₃->w₃.heap[g.c.quit]? = w.heap[g.c.quit]? :=fun {w₃ ch r} de hr hK=>
  hK.block _ (L₀.kdlt T.kq) fun z=>by
   rcases z with z|z|z|z|z|z|z
   .exact z (B.fs (L₀.kdlt T.kq) T.kq (r_ne (by omega)))
   .exact xM T.kq kp (r_ne (by omega)) z
   .exact yV T.kq dh z
   .exact xM T.kq P.kdn (r_ne (by omega)) z
   .exact xM T.kq T.kt (r_ne (by omega)) z
   .exact xM T.kq B.kg (r_ne (by omega)) z
   .exact xM T.kq de (r_ne (by omega)) z
 have tol : ∀ {F'':Fo} {m:Nat},(∀b,FsOf g w.heap.size b->F'' b)->F''.A=⟨g.F.A.tok,capM g kd w.heap.size⟩ ->∀x,F'' x->F''.A.cap x=none->x<m->kdN kd w.heap.size m g.p x=some (g.p,8):=fun {F'' m} h2 h3 x hx hc hl=>by
  by_cases e:x<w.heap.size
  .refine kold _ _ _ ?_
   by_cases hf:FsOf g w.heap.size x
   .exact xg4 hf (by rw[h3]at hc;exact hc)
   .exact B.nfs e hf
  .exact xbH (by omega) hl
 have fin : ∀ {w₃:World} {t':Th},Keeps (fun b=>F b\/b=g.c.wb) w w₃->After ⟨s.ths.set i t',s.plans,s.nc⟩ F w ⟨fun b=>F b\/(w.heap.size<=b/\b<w₃.heap.size),F.A⟩ w₃ (fun _=>False) (fun b=>b=g.c.wb):=fun {w₃ t'} hK=>
  ⟨⟨fun b hb=>hb.elim (fun h=>Nat.lt_of_lt_of_le (hR.lt b h) hK.size) (·.2),(hR.set (ps:=s.plans)).tok,hR.cap⟩,fun _ h =>.inl h,fun b hb=>hb.imp id fun h =>.inr h.1,hK,Toks.le.refl _⟩
 have kF : ∀ {w₃:World} {ch r:Nat},kd ch=some (g.p,r)->Keeps (fun b=> ¬FsOf g w.heap.size b\/b=g.c.pb\/b=g.c.wb\/b=g.c.done\/b=g.c.tb\/b=g.c.grant\/b=ch) w w₃->Keeps (fun b=>F b\/b=g.c.wb) w w₃:=fun {w₃ ch r} de hK=>⟨hK.os,hK.tape,hK.output,hK.size,fun b gt hb=>hK.block b gt fun z=>by
  rcases z with z|rfl|rfl|rfl|rfl|rfl|rfl
  .exact hb (.inl (L₀.inF (B.nfs gt z)))
  .exact hb (.inl (L₀.inF kp))
  .exact hb (.inr rfl)
  .exact hb (.inl (L₀.inF P.kdn))
  .exact hb (.inl (L₀.inF T.kt))
  .exact hb (.inl (L₀.inF B.kg))
  .exact hb (.inl (L₀.inF de))⟩
 have w0at : ∀d kg,WorkAt g.c pre (resV t.r0) ((w.at d).setChan g.c.grant 0 #[] false (kg+1) (kg+1) false):=fun d kg=>⟨⟨mz,Zk my⟩,((hKg d kg).block _ (Array.getElem?_eq_some_iff.1 B7).1 fun e=>yV B.kg dh e.symm).trans B7⟩
 refine xim (Fs:=⟨FsOf g w.heap.size,⟨g.F.A.tok,capM g kd w.heap.size⟩⟩) (s:=g.s.next L) (rv:=resV t.rv) (tf:=t.tf) L₀.env B.j0 B.jn R₀ ⟨xM T.kt kp (r_ne (by omega)),yV T.kt dh⟩ B.seat B.mem (fun w h=>(L₀.K w).1 h g.c ap) (az 3 (by omega)) (az 4 (by omega)) (az 5 (by omega))
  (fun k=>⟨⟨L₀.stNe B.ka (by simp),L₀.stNe P.kdn (by simp)⟩,L₀.stNe B.kg (by simp),L₀.stNe T.kq (by simp)⟩) (xM B.ka P.kdn (r_ne (by omega))) (fun x sx c tg hx hc =>?_) ⟨B.oa,P.od⟩ B.gr ⟨xM B.kg B.ka (r_ne (by omega)),xM B.kg P.kdn (r_ne (by omega)),hgF⟩ (L₀.free T.kt)
  ⟨⟨xM B.kg T.kt (r_ne (by omega)),xM T.kq T.kt (r_ne (by omega))⟩,xM B.ka T.kt (r_ne (by omega)),xM P.kdn T.kt (r_ne (by omega)),xM B.kg kp (r_ne (by omega))⟩ hT0 (L₀.now _ ap) caller cs (fun d k =>?_) ?ask ?done
 .obtain⟨k,tk,gk,e1,e2,e3,e4,e5⟩:=L₀.chan hx hc
  rcases e5 with⟨_,e5⟩|⟨_,e5⟩<;>exact⟨xM e5 B.ka (r_ne (by omega)),xM e5 P.kdn (r_ne (by omega))⟩
 .refine⟨_,fun _ h=>h,rfl,?_⟩
  have hl:=L₀.later ht hg hb capM_le (capM_fs B.at_.ml) capM_8 dh ⟨mz,my⟩ B7 ((hKg d k).mono fun b hb =>.inr (.inr hb)) (size_setChan (w.at d) _ _ _ _ _ _ _)
  have:=N.hgrant _ _ hl
  rw[hv]at this
  exact this
 case ask=>
  intro d kg w' ws k sw F'' e' L' Ln g₃ gx h1 h2 h3 N' hRJ zl fb w₃ px' e1 e2 e3 e4 e5
  obtain⟨zl,kdk,Gg⟩:=zl
  have hL:L=e'::L':=h1.symm.trans N'.hL
  subst hL
  have ip:(w'.setChan g.c.ask 0 #[] false (k+1) (k+1) false).heap.size=w'.heap.size:=size_setChan _ _ _ _ _ _ _ _
  have Am:Keeps (fun b=>b=g.c.ask) w' (w'.setChan g.c.ask 0 #[] false (k+1) (k+1) false):=⟨rfl,rfl,rfl,Nat.le_of_eq ip.symm,fun b _ hb=>heap_setChan_ne w' _ _ _ _ _ _ (Ne.symm hb)⟩
  have k3:Keeps (fun b=>b=g.c.tb\/b=g.c.ask) w' w₃:=(Am.mono fun b hb =>.inr hb).trans e3 fun b hb =>.inl (.inl hb)
  have k4:Keeps (fun b=>b=g.c.tb\/b=g.c.ask) ws w₃:=(hRJ.1.mono fun b hb =>.inl hb).trans k3 fun b hb =>.inl hb
  obtain⟨kall,eo⟩:=both B.ka (.inl rfl) fb k3
  have E':=L₀.env.asks (c:=g.c) (g₃:=g₃) B.j0 fun k=>⟨L₀.stNe B.kg (by simp),L₀.stNe T.kq (by simp)⟩
  have fy:=L₀.kdlt B.ka
  have zt:w.heap.size<=w'.heap.size:=by
   have:=fb.keeps.size
   rw[size_setChan]at this
   exact this
  have rt:OpenC g.c.ask 0 w₃:=⟨k+1,(e3.block _ (by rw[ip];omega) (xM B.ka T.kt (r_ne (by omega)))).trans (Go.Conc.heap_setChan_self w' zl _ _ _ _ _ _)⟩
  have w6:OpenC g.c.done 1 w₃:=⟨kdk,(k3.block _ (Nat.lt_of_lt_of_le (L₀.kdlt P.kdn) zt) fun z=>z.elim (xM P.kdn T.kt (r_ne (by omega))) (xM P.kdn B.ka (r_ne (by omega)))).trans Gg⟩
  refine Runs.known E' fun lx =>?_
  have T':LkT (kdN kd w.heap.size w₃.heap.size g.p) ps ⟨fun b=>F b\/(w.heap.size<=b/\b<w₃.heap.size),F.A⟩ (R.asks g.c g.j g₃) n w₃ i (t.went (e'::L')) ⟨g.c,g.p,g.j,g₃,sw,F'',ws⟩:=by
   refine xfH (kold _ _ _ T.kt) (kold _ _ _ T.kq) T.self T.tok e4 (xbH (by rw[e1];exact zt) (by omega)) e2 ?_ P.pp (kold _ _ _ P.kdn) w6 N' k4 (kold _ _ _ kp) (kold _ _ _ B.ka) (kold _ _ _ B.kg) (kold _ _ _ B.kwc) (kold _ _ _ B.kdb) rt eo B.tk (upd_same _ _ _) B.mem B.j0 B.jn B.r0 (fun b gt hbF =>?_) (tol h2 h3) hb B.bg B.nc rfl rfl (h2 _ (B.fs fy B.ka (r_ne (by omega))))
   .obtain⟨kq,hq⟩:=T.quit B.nc
    exact⟨kq,(same B.ka (.inl rfl) kall).trans hq⟩
   .by_cases e:b<w.heap.size
    .exact kold _ _ _ (B.nfs e fun x=>hbF (h2 _ x))
    .exact xbH (by omega) (Nat.lt_of_lt_of_le gt k4.size)
  have im:w₃.heap[g.c.wb]? = some (vP pre t.r0):=by
   obtain⟨r',y1⟩:=fb.work pre _ (w0at d kg)
   obtain⟨fg,r,y2,y3⟩:=N'.hR.wk
   have y3:=y3 (by rw[N'.hL];simp)
   subst y3
   have y4:WorkAt g.c fg g.c.r0 w':=WorkAt.same y2 (hRJ.1.block _ (Array.getElem?_eq_some_iff.1 y2.2).1 fun e=>yV T.kt dh e.symm)
   obtain⟨rfl,rfl⟩:=Yg y1 y4
   have y5:WorkAt g.c pre g.c.r0 w₃:=WorkAt.same y4 (k3.block _ (Array.getElem?_eq_some_iff.1 y4.2).1 fun z=>z.elim (fun e=>yV T.kt dh e.symm) fun e=>yV B.ka dh e.symm)
   rw[B.r0]at y5
   exact WorkAt.obj y5
  have L₁:=L₀.put (t':=t.went (e'::L')) (g':=⟨g.c,g.p,g.j,g₃,sw,F'',ws⟩) (F':=⟨fun b=>F b\/(w.heap.size<=b/\b<w₃.heap.size),F.A⟩) (kd':=kdN kd w.heap.size w₃.heap.size g.p) (nc':=s.nc) ht hg E' (dJ _) kall (fun b hb=>hb.elim (fun h=>Nat.lt_of_lt_of_le (L₀.lt b h) kall.size) (·.2)) (xfI L₀.has fun b=>Iff.rfl) (kold _) (Toks.le.refl _) (fun _ _ h=>h) L₀.K ((L₀.K w₃).1 lx) L₀.St (fun p c h=>kold _ _ _ (L₀.pk p c h))
   (hM B.ka (by omega)) (fun x hx _=>⟨upd_ne _ _ (hx hb),id⟩) (fun x sx hx=>(xiE hx).imp (fun h=>⟨hb,h.1,h.2⟩) fun h=>⟨h.1,fun _=>h.2⟩) (fun _ k tk gk ae h1 h2 h3 e=>ae (L₀.jinj k i tk t gk g h1 ht h2 hg h3 hb e.symm)) (fun _ k tk gk ae h1 h2 h3 e=>ae (L₀.pinj k i tk t gk g h1 ht h2 hg h3 B.bg e.symm)) T' L₀.tokN L₀.capN
  exact h _ _ w₃ ⟨rfl,im,fin (kF B.ka kall)⟩ (Toks.le.refl _) _ _ _ _ _ L₁
 case done=>
  intro d kg w' ws k sw F'' gx h1 h2 h3 N' hKd ai fb w₃ e3 e4 e5
  have hL:L = []:=h1.symm.trans N'.fin
  subst hL
  have ip:(w'.setChan g.c.done 1 #[] false (k+1) (k+1) false).heap.size=w'.heap.size:=size_setChan _ _ _ _ _ _ _ _
  have Am:Keeps (fun b=>b=g.c.done) w' (w'.setChan g.c.done 1 #[] false (k+1) (k+1) false):=⟨rfl,rfl,rfl,Nat.le_of_eq ip.symm,fun b _ hb=>heap_setChan_ne w' _ _ _ _ _ _ (Ne.symm hb)⟩
  have k3:Keeps (fun b=>b=g.c.tb\/b=g.c.done) w' w₃:=(Am.mono fun b hb =>.inr hb).trans e3 fun b hb =>.inl (.inl hb)
  have k4:Keeps (fun b=>b=g.c.tb\/b=g.c.done) ws w₃:=hKd.trans k3 fun b hb =>.inl hb
  obtain⟨kall,eo⟩:=both P.kdn (.inr rfl) fb k3
  have E':=L₀.env.gone (j:=g.j) B.j0
  have zt:w.heap.size<=w'.heap.size:=by
   have:=fb.keeps.size
   rw[size_setChan]at this
   exact this
  have C9:g.c.done<w'.heap.size:=Nat.lt_of_lt_of_le (L₀.kdlt P.kdn) zt
  have w6:OpenC g.c.done 1 w₃:=⟨k+1,(e3.block _ (by rw[ip];exact C9) (xM P.kdn T.kt (r_ne (by omega)))).trans (Go.Conc.heap_setChan_self w' (Array.getElem?_eq_getElem C9) _ _ _ _ _ _)⟩
  refine Runs.known E' fun lx =>?_
  have T':LkT (kdN kd w.heap.size w₃.heap.size g.p) ps ⟨fun b=>F b\/(w.heap.size<=b/\b<w₃.heap.size),F.A⟩ (R.gone g.j) n w₃ i (t.went []) ⟨g.c,g.p,g.j,g.g₃,sw,F'',ws⟩:=by
   refine xiD (t:=t.went []) (kold _ _ _ T.kt) (kold _ _ _ T.kq) T.self T.tok e4 ?_ P.pp (kold _ _ _ P.kdn) w6 N' k4 (kold _ _ _ kp) (tol h2 h3) rfl B.bg B.nc rfl
   obtain⟨kq,hq⟩:=T.quit B.nc
   exact⟨kq,(same P.kdn (.inr rfl) kall).trans hq⟩
  have im:w₃.heap[g.c.wb]? = some (vP pre t.rv):=by
   obtain⟨r',y1⟩:=fb.work pre _ (w0at d kg)
   obtain⟨fg,y2⟩:=N'.hres
   have y4:WorkAt g.c fg (resV t.rv) w':=WorkAt.same y2 (hKd.block _ (Array.getElem?_eq_some_iff.1 y2.2).1 fun z=>z.elim (fun e=>yV T.kt dh e.symm) fun e=>yV P.kdn dh e.symm)
   obtain⟨rfl,rfl⟩:=Yg y1 y4
   exact WorkAt.obj (WorkAt.same y4 (k3.block _ (Array.getElem?_eq_some_iff.1 y4.2).1 fun z=>z.elim (fun e=>yV T.kt dh e.symm) fun e=>yV P.kdn dh e.symm))
  have L₁:=L₀.put (t':=t.went []) (g':=⟨g.c,g.p,g.j,g.g₃,sw,F'',ws⟩) (F':=⟨fun b=>F b\/(w.heap.size<=b/\b<w₃.heap.size),F.A⟩) (kd':=kdN kd w.heap.size w₃.heap.size g.p) (nc':=s.nc) ht hg E' (dJ _) kall (fun b hb=>hb.elim (fun h=>Nat.lt_of_lt_of_le (L₀.lt b h) kall.size) (·.2)) (xfI L₀.has fun b=>Iff.rfl) (kold _) (Toks.le.refl _) (fun _ _ h=>h) L₀.K ((L₀.K w₃).1 lx) L₀.St (fun p c h=>kold _ _ _ (L₀.pk p c h))
   (hM P.kdn (by omega)) (fun x hx _=>⟨upd_ne _ _ (hx hb),fun hm=>⟨hm,hx hb⟩⟩) (fun x sx hx =>.inr ⟨(xeF hx).1,fun _=>(xeF hx).2⟩) (fun h=>by cases h) (fun _ k tk gk ae h1 h2 h3 e=>ae (L₀.pinj k i tk t gk g h1 ht h2 hg h3 B.bg e.symm)) T' L₀.tokN L₀.capN
  exact h _ _ w₃ ⟨rfl,im,fin (kF P.kdn kall)⟩ (Toks.le.refl _) _ _ _ _ _ L₁
end Go.Proofs.YtfagfflkgmcnpaaGreatDoor.Mx
namespace Go.Proofs.YtfagfflkgmcnpaaGreatDoor.Mx
open Go Go.Conc Lx Kx Tx
variable{Goal:Machine->Trace->Prop}{R:Rg}{n:Nat}{a:Act}{w:World}{c:WC}{cl:Value}{port done pend:Value}{busy closed:Bool}{b:Frame}{k:List Item}{cs:List Frame}
noncomputable def st7:Code:=match Tryz.f46.body with
 | some (.seq _ (.seq _ (.seq _ (.seq _ (.seq _ (.seq _ x))))))=>x
 | _ =>.skip
theorem xfJ(w:World):(Instr.makeChan 115 (.int .i64 1)).run Tryz.prog w = .ok (.chan (some w.heap.size)) (w.alloc (.chan 1 #[] false 0 0 false))/\(Instr.makeChan 115 (.int .i64 1)).events Tryz.prog w #[] = #[]:=
 WK (k:=1) ⟨_,_,_,rfl,rfl,by decide⟩ (by decide) w
theorem xiF{x:Nat}{self:Int}{port done pend v:Value}{busy closed:Bool}{quit:Nat}{w:World}(h:w.heap[x]? = some (thrO self port done pend busy closed quit)):(w.setCell ⟨x,2,none⟩ v).heap[x]? = some (thrO self port v pend busy closed quit)/\(∀y,y≠x->(w.setCell ⟨x,2,none⟩ v).heap[y]? = w.heap[y]?)/\(w.setCell ⟨x,2,none⟩ v).heap.size=w.heap.size:=by
 refine⟨?_,fun y hy =>?_,?_⟩
 .simp[World.setCell,Array.getElem?_modify,h,thrO,thrC]
 .show(w.heap.modify x _)[y]? = _
  rw[Array.getElem?_modify,dA fun h=>hy h.symm]
 .simp[World.setCell]
def mkD(c:WC)(qa qg pb qd:Nat):WC :={c with ask:=qa,grant:=qg,pb:=pb,done:=qd}
structure Made4(R:Rg)(w w':World)(c:WC)(qa qg pb qd:Nat):Prop where
 ka:w'.heap[qa]? = some (.chan 0 #[] false 0 0 false)/\w.heap.size<=qa/\Own1 R qa
 kg:w'.heap[qg]? = some (.chan 0 #[] false 0 0 false)/\w.heap.size<=qg/\Own1 R qg
 ag:qa≠qg
 kp:w'.heap[pb]? = some (waitsO (mkD c qa qg pb qd) 0 (.pointer none))/\w.heap.size<=pb/\Own1 R pb/\pb≠qa/\pb≠qg
 kd:w'.heap[qd]? = some (.chan 1 #[] false 0 0 false)/\w.heap.size<=qd/\Own1 R qd/\qd≠qa/\qd≠qg/\qd≠pb
 size:w'.heap.size=w.heap.size+4
theorem ZZ(P:Program)(w:World)(es:Array Event)(a:Addr)(m:Mode)(p:Option Nat):(store a (.chan p) m).events P w es=storedEv P w es a (.chan p) m:=events_store P w es a _ m rfl
set_option maxHeartbeats 4000000 in
theorem xiG(E:Env R)(hF:Free R c.tb)(hm : Tryz.prog.follows .mixedOrders=true)(hT:w.heap[c.tb]? = some (thrO c.self port done pend false false c.quit))(mc cc wc:Nat)(caller:Frame)(cs:List Frame)
  (fu : ∀a' w' qa qg pb qd,Env (R.born (mkD c qa qg pb qd))->Free (R.born (mkD c qa qg pb qd)) c.tb->a'.tmps.size=56->a'.defers = []->TV a' 0 (.pointer (some ⟨c.tb,0,none⟩))->TV a' 45 (.func (.func 47) #[] #[.pointer (some ⟨mc,0,none⟩),.pointer (some ⟨cc,0,none⟩),.pointer (some ⟨wc,0,none⟩)])->TV a' 49 (.pointer (some ⟨pb,0,none⟩))->TV a' 53 (.chan (some qd))->Keeps (fun b=>b=c.tb) w w'->Made4 R w w' c qa qg pb qd->
   w'.heap[c.tb]? = some (thrO c.self (ptrN pb) (.chan (some qd)) pend true false c.quit)->Runs Goal (R.born (mkD c qa qg pb qd)) n (G ((base 46).at a' [.inRegion st6 [9],.code st7]) (caller::cs)) w') :
  Runs Goal R n (G (Frame.enter Tryz.prog 46 #[.pointer (some ⟨c.tb,0,none⟩),.func (.func 47) #[] #[.pointer (some ⟨mc,0,none⟩),.pointer (some ⟨cc,0,none⟩),.pointer (some ⟨wc,0,none⟩)]] .normal) (caller::cs)) w:=by
 have hO:=E.ok
 rw[enter_at _ Tryz.func46 (by rfl)]
 simp only[Tryz.f46]
 refine xe hO (fun _=>stepG_seq) rfl ?_
 refine xe hO (fun _=>stepG_region) rfl ?_
 simp only[List.size_toArray,List.length_cons,List.length_nil,Nat.reduceAdd,Nat.zero_add,List.range,List.range.loop]
 refine xL (v :=.bool false) hO rfl rfl ?_
 walk_nrm
 refine xe hO (fun _=>stepG_region_end) rfl ?_
 refine xe hO (fun _=>stepG_seq) rfl ?_
 refine xe hO (fun _=>stepG_seq) rfl ?_
 refine xe hO (fun _=>stepG_region) rfl ?_
 simp only[List.size_toArray,List.length_cons,List.length_nil,Nat.reduceAdd,Nat.zero_add,List.range,List.range.loop]
 refine xp hO rfl rfl ?_
 walk_nrm
 refine m_op (v :=.bool false) hO rfl rfl (by decide) (fun w₄ h₄=>⟨by simp[go_sem,execOp,Act.eval],by
  simp[go_sem,execOp,Act.eval]
  rw[show Sem.events Tryz.prog (binOp BinOp.eql 74 (.pointer (some ⟨c.tb,0,none⟩)) (.pointer none)) w₄ #[] = #[]from by kernel_rfl]
  simp⟩) ?_
 walk_nrm
 refine xL (v :=.bool false) hO rfl rfl ?_
 walk_nrm
 refine xp hO rfl rfl ?_
 walk_nrm
 refine xp hO rfl rfl ?_
 walk_nrm
 refine xp hO rfl rfl ?_
 walk_nrm
 refine m_op (v :=.bool false) hO rfl rfl (by decide) (fun w₄ h₄ =>?_) ?_
 .obtain⟨hc,hz⟩:=xy (w:=w₄) (by rw[h₄];exact hT) 5
  simp only[thrC]at hc
  exact⟨by simp[go_sem,execOp,Act.eval,hc,hz],fun ev he=>by
   simp[go_sem,execOp,Act.eval,hc,hz]at he
   subst he
   exact xl (by rw[h₄];exact(Array.getElem?_eq_some_iff.1 hT).1) (fun e=>by cases e)⟩
 walk_nrm
 refine xL (v :=.bool false) hO rfl rfl ?_
 walk_nrm
 refine xL (v :=.bool false) hO rfl rfl ?_
 walk_nrm
 refine xp hO rfl rfl ?_
 walk_nrm
 refine xp hO rfl rfl ?_
 walk_nrm
 refine xp hO rfl rfl ?_
 walk_nrm
 refine m_op (v :=.bool false) hO rfl rfl (by decide) (fun w₄ h₄ =>?_) ?_
 .obtain⟨hc,hz⟩:=xy (w:=w₄) (by rw[h₄];exact hT) 4
  simp only[thrC]at hc
  exact⟨by simp[go_sem,execOp,Act.eval,hc,hz],fun ev he=>by
   simp[go_sem,execOp,Act.eval,hc,hz]at he
   subst he
   exact xl (by rw[h₄];exact(Array.getElem?_eq_some_iff.1 hT).1) (fun e=>by cases e)⟩
 walk_nrm
 refine xL (v :=.bool false) hO rfl rfl ?_
 walk_nrm
 refine xL (v :=.bool false) hO rfl rfl ?_
 walk_nrm
 refine xp hO rfl rfl ?_
 walk_nrm
 refine m_op (v :=.bool false) hO rfl rfl (by decide) (fun w₄ h₄=>⟨by kernel_rfl,by
  rw[show Sem.events Tryz.prog _ w₄ #[] = #[]from by kernel_rfl]
  simp⟩) ?_
 walk_nrm
 refine xL (v :=.bool false) hO rfl rfl ?_
 walk_nrm
 refine xe hO (fun _=>stepG_region_end) rfl ?_
 refine xe hO (fun _=>stepG_cond (t:=false) rfl) rfl ?_
 simp only[Bool.false_eq_true,if_false]
 refine xe hO (fun _=>stepG_skip) rfl ?_
 refine xe hO (fun _=>stepG_seq) rfl ?_
 refine xiy (c:=c) (port:=port) (done:=done) (pend:=pend) (busy:=false) (closed:=false) E hF hm (by decide) hT (by rfl) rfl (by rfl) fun a w' qa qg pb hE ai bf hold hK hs ka kg Le kp hT' =>?_
 have hO:=hE.ok
 have t0:TV a 0 (.pointer (some ⟨c.tb,0,none⟩)):=(hold 0 (by omega)).trans (by rfl)
 have t1:TV a 1 (.func (.func 47) #[] #[.pointer (some ⟨mc,0,none⟩),.pointer (some ⟨cc,0,none⟩),.pointer (some ⟨wc,0,none⟩)]):=(hold 1 (by omega)).trans (by rfl)
 have hFb:Free (R.born (mkW c qa qg pb)) c.tb:=Free.born E hF (Nat.ne_of_lt (Nat.lt_of_lt_of_le (Array.getElem?_eq_some_iff.1 hT).1 kp.2.1)) kp.2.2.1.ch
 clear hold
 refine xe hO (fun _=>stepG_region_end) rfl ?_
 refine xe hO (fun _=>stepG_seq) rfl ?_
 refine xe hO (fun _=>stepG_region) rfl ?_
 simp only[List.size_toArray,List.length_cons,List.length_nil,Nat.reduceAdd,Nat.zero_add,List.range,List.range.loop]
 refine m_op (v :=.pointer (some ⟨c.tb,0,none⟩)) hO rfl rfl (by decide) (fun w₄ h₄=>⟨by simp[go_sem,execOp,show a.tmps[0]? = some _ from t0],by simp[go_sem,execOp,show a.tmps[0]? = some _ from t0]⟩) ?_
 show Runs Goal (R.born (mkW c qa qg pb)) n (G (Frame.at _ (a.put (some 38) (.pointer (some ⟨c.tb,0,none⟩))) _) _) _
 have Bs:TV (a.put (some 38) (.pointer (some ⟨c.tb,0,none⟩))) 38 (.pointer (some ⟨c.tb,0,none⟩)):=TV.put_same (by omega)
 have t0:TV (a.put (some 38) (.pointer (some ⟨c.tb,0,none⟩))) 0 (.pointer (some ⟨c.tb,0,none⟩)):=t0.put_ne (by decide)
 have t1:TV (a.put (some 38) (.pointer (some ⟨c.tb,0,none⟩))) 1 (.func (.func 47) #[] #[.pointer (some ⟨mc,0,none⟩),.pointer (some ⟨cc,0,none⟩),.pointer (some ⟨wc,0,none⟩)]):=t1.put_ne (by decide)
 have ai:(a.put (some 38) (.pointer (some ⟨c.tb,0,none⟩))).tmps.size=56:=by rw[put_size];exact ai
 have bf:(a.put (some 38) (.pointer (some ⟨c.tb,0,none⟩))).defers = []:=bf
 generalize a.put (some 38) (.pointer (some ⟨c.tb,0,none⟩))=a at Bs t0 t1 ai bf |-
 refine kR hE (v :=.chan (some w'.heap.size)) (ob :=.chan 1 #[] false 0 0 false) rfl rfl (by decide) (fun d=>⟨by simp[go_sem,execOp,(xfJ (w'.at d)).1],by simp[go_sem,execOp,(xfJ (w'.at d)).2]⟩) fun d' hx =>?_
 have nr:((w'.at d').alloc (.chan 1 #[] false 0 0 false)).heap.size=w'.heap.size+1:=World.size_alloc _ _
 have old : ∀x o,w'.heap[x]? = some o->((w'.at d').alloc (.chan 1 #[] false 0 0 false)).heap[x]? = some o:=fun x o h=>(alloc_old (w:=w'.at d') (Array.getElem?_eq_some_iff.1 h).1).trans h
 have ux:((w'.at d').alloc (.chan 1 #[] false 0 0 false)).heap[w'.heap.size]? = some (.chan 1 #[] false 0 0 false):=heap_alloc_new (w'.at d') _
 have ao:=fun x o (h:w'.heap[x]? = some o)=>(Array.getElem?_eq_some_iff.1 h).1
 have dr:w'.heap.size≠qa:=Nat.ne_of_gt (ao _ _ ka.1)
 have H4:w'.heap.size≠qg:=Nat.ne_of_gt (ao _ _ kg.1)
 have H3:w'.heap.size≠pb:=Nat.ne_of_gt (ao _ _ kp.1)
 have Bl:w'.heap.size≠c.tb:=Nat.ne_of_gt (ao _ _ hT')
 have hK2:Keeps (fun b=>b=c.tb) w ((w'.at d').alloc (.chan 1 #[] false 0 0 false)):=hK.trans (S':=fun b=>False) ⟨rfl,rfl,rfl,by rw[nr];exact Nat.le_succ _,fun b hb _=>alloc_old (w:=w'.at d') hb⟩ (fun b hb=>hb.elim)
 have ka:=And.intro (old _ _ ka.1) ka.2
 have kg:=And.intro (old _ _ kg.1) kg.2
 have kp:=And.intro (old _ _ kp.1) kp.2
 have hT2:=old _ _ hT'
 have hdR:Own1 R w'.heap.size:=⟨fun k hk=>hx.st k (.inl hk),hx.ch⟩
 have Hz:w.heap.size<=w'.heap.size:=hK.size
 have hs:((w'.at d').alloc (.chan 1 #[] false 0 0 false)).heap.size=w.heap.size+4:=by rw[nr,hs]
 clear hK hT' old ao nr
 generalize hQ:w'.heap.size=qd at ux dr H4 H3 Bl hdR Hz hx |-
 clear hx
 generalize(w'.at d').alloc (.chan 1 #[] false 0 0 false)=W at ux ka kg kp hT2 hK2 hs |-
 show Runs Goal (R.born (mkW c qa qg pb)) n (G (Frame.at _ (a.put (some 39) (.chan (some qd))) _) _) _
 have uu:TV (a.put (some 39) (.chan (some qd))) 39 (.chan (some qd)):=TV.put_same (by omega)
 have t0:TV (a.put (some 39) (.chan (some qd))) 0 (.pointer (some ⟨c.tb,0,none⟩)):=t0.put_ne (by decide)
 have t1:TV (a.put (some 39) (.chan (some qd))) 1 (.func (.func 47) #[] #[.pointer (some ⟨mc,0,none⟩),.pointer (some ⟨cc,0,none⟩),.pointer (some ⟨wc,0,none⟩)]):=t1.put_ne (by decide)
 have Bs:TV (a.put (some 39) (.chan (some qd))) 38 (.pointer (some ⟨c.tb,0,none⟩)):=Bs.put_ne (by decide)
 have ai:(a.put (some 39) (.chan (some qd))).tmps.size=56:=by rw[put_size];exact ai
 have bf:(a.put (some 39) (.chan (some qd))).defers = []:=bf
 generalize a.put (some 39) (.chan (some qd))=a at uu t0 t1 Bs ai bf |-
 refine m_op (v :=.pointer (some ⟨c.tb,0,none⟩)) hO rfl rfl (by decide) (fun w₄ h₄=>⟨by simp[go_sem,execOp,show a.tmps[38]? = some _ from Bs],by simp[go_sem,execOp,show a.tmps[38]? = some _ from Bs]⟩) ?_
 show Runs Goal (R.born (mkW c qa qg pb)) n (G (Frame.at _ (a.put (some 40) (.pointer (some ⟨c.tb,0,none⟩))) _) _) _
 have Ee:TV (a.put (some 40) (.pointer (some ⟨c.tb,0,none⟩))) 40 (.pointer (some ⟨c.tb,0,none⟩)):=TV.put_same (by omega)
 have t0:TV (a.put (some 40) (.pointer (some ⟨c.tb,0,none⟩))) 0 (.pointer (some ⟨c.tb,0,none⟩)):=t0.put_ne (by decide)
 have t1:TV (a.put (some 40) (.pointer (some ⟨c.tb,0,none⟩))) 1 (.func (.func 47) #[] #[.pointer (some ⟨mc,0,none⟩),.pointer (some ⟨cc,0,none⟩),.pointer (some ⟨wc,0,none⟩)]):=t1.put_ne (by decide)
 have uu:TV (a.put (some 40) (.pointer (some ⟨c.tb,0,none⟩))) 39 (.chan (some qd)):=uu.put_ne (by decide)
 have ai:(a.put (some 40) (.pointer (some ⟨c.tb,0,none⟩))).tmps.size=56:=by rw[put_size];exact ai
 have bf:(a.put (some 40) (.pointer (some ⟨c.tb,0,none⟩))).defers = []:=bf
 generalize a.put (some 40) (.pointer (some ⟨c.tb,0,none⟩))=a at Ee t0 t1 uu ai bf |-
 refine m_op (v :=.pointer (some ⟨c.tb,2,none⟩)) hO rfl rfl (by decide) (fun w₄ h₄=>⟨by simp[go_sem,execOp,show a.tmps[40]? = some _ from Ee],by simp[go_sem,execOp,show a.tmps[40]? = some _ from Ee]⟩) ?_
 show Runs Goal (R.born (mkW c qa qg pb)) n (G (Frame.at _ (a.put (some 41) (.pointer (some ⟨c.tb,2,none⟩))) _) _) _
 have Ed:TV (a.put (some 41) (.pointer (some ⟨c.tb,2,none⟩))) 41 (.pointer (some ⟨c.tb,2,none⟩)):=TV.put_same (by omega)
 have t0:TV (a.put (some 41) (.pointer (some ⟨c.tb,2,none⟩))) 0 (.pointer (some ⟨c.tb,0,none⟩)):=t0.put_ne (by decide)
 have t1:TV (a.put (some 41) (.pointer (some ⟨c.tb,2,none⟩))) 1 (.func (.func 47) #[] #[.pointer (some ⟨mc,0,none⟩),.pointer (some ⟨cc,0,none⟩),.pointer (some ⟨wc,0,none⟩)]):=t1.put_ne (by decide)
 have uu:TV (a.put (some 41) (.pointer (some ⟨c.tb,2,none⟩))) 39 (.chan (some qd)):=uu.put_ne (by decide)
 have ai:(a.put (some 41) (.pointer (some ⟨c.tb,2,none⟩))).tmps.size=56:=by rw[put_size];exact ai
 have bf:(a.put (some 41) (.pointer (some ⟨c.tb,2,none⟩))).defers = []:=bf
 generalize a.put (some 41) (.pointer (some ⟨c.tb,2,none⟩))=a at Ed t0 t1 uu ai bf |-
 refine wj hO rfl rfl (by decide) fun hl d am =>?_
 obtain⟨hc₂,hz⟩:=xy (w:=W.at d) hT2 2
 simp only[thrC]at hc₂
 obtain⟨p1,p2,p3⟩:=xiF (v :=.chan (some qd)) (w:=W.at d) hT2
 have hKK:Keeps (fun b=>b=c.tb) (W.at d) ((W.at d).setCell ⟨c.tb,2,none⟩ (.chan (some qd))):=⟨rfl,rfl,rfl,Nat.le_of_eq p3.symm,fun b _ hn=>p2 b hn⟩
 refine⟨(W.at d).setCell ⟨c.tb,2,none⟩ (.chan (some qd)),by simp[go_sem,execOp,show a.tmps[41]? = some _ from Ed,show a.tmps[39]? = some _ from uu,hc₂,hz],hFb.keeps hKK am,fun i s c' hi ah=>hFb.seats (w:=W.at d) hl hKK i s c' hi ah,Nat.le_of_eq p3.symm,fun ev he=>by
  simp[go_sem,execOp,show a.tmps[41]? = some _ from Ed,show a.tmps[39]? = some _ from uu,hc₂,hz,storedEv,ZZ,yq]at he
  subst he
  exact xl (by rw[p3];exact(Array.getElem?_eq_some_iff.1 hT2).1) fun _=>hFb.st _,?_⟩
 have hK2:Keeps (fun b=>b=c.tb) w ((W.at d).setCell ⟨c.tb,2,none⟩ (.chan (some qd))):=hK2.trans (S':=fun b=>b=c.tb) ⟨rfl,rfl,rfl,hKK.size,hKK.block⟩ fun b hb =>.inl hb
 have hs:((W.at d).setCell ⟨c.tb,2,none⟩ (.chan (some qd))).heap.size=w.heap.size+4:=p3.trans hs
 have ltb:=(Array.getElem?_eq_some_iff.1 hT).1
 have ka:=And.intro ((p2 qa (Nat.ne_of_gt (Nat.lt_of_lt_of_le ltb ka.2.1))).trans ka.1) ka.2
 have kg:=And.intro ((p2 qg (Nat.ne_of_gt (Nat.lt_of_lt_of_le ltb kg.2.1))).trans kg.1) kg.2
 have kp:=And.intro ((p2 pb (Nat.ne_of_gt (Nat.lt_of_lt_of_le ltb kp.2.1))).trans kp.1) kp.2
 have ux:=(p2 qd Bl).trans ux
 have hT2:=p1
 clear hKK p1 p2 p3 hc₂ hz am hl
 generalize(W.at d).setCell ⟨c.tb,2,none⟩ (.chan (some qd))=W₂ at ux ka kg kp hT2 hK2 hs |-
 show Runs Goal (R.born (mkW c qa qg pb)) n (G (Frame.at _ a _) _) W₂
 refine xe hO (fun _=>stepG_region_end) rfl ?_
 refine xe hO (fun _=>stepG_seq) rfl ?_
 refine xe hO (fun _=>stepG_region) rfl ?_
 simp only[List.size_toArray,List.length_cons,List.length_nil,Nat.reduceAdd,Nat.zero_add,List.range,List.range.loop]
 refine m_op (v :=.pointer (some ⟨c.tb,0,none⟩)) hO rfl rfl (by decide) (fun w₄ h₄=>⟨by simp[go_sem,execOp,show a.tmps[0]? = some _ from t0],by simp[go_sem,execOp,show a.tmps[0]? = some _ from t0]⟩) ?_
 show Runs Goal (R.born (mkW c qa qg pb)) n (G (Frame.at _ (a.put (some 42) (.pointer (some ⟨c.tb,0,none⟩))) _) _) _
 have Ec:TV (a.put (some 42) (.pointer (some ⟨c.tb,0,none⟩))) 42 (.pointer (some ⟨c.tb,0,none⟩)):=TV.put_same (by omega)
 have t0:TV (a.put (some 42) (.pointer (some ⟨c.tb,0,none⟩))) 0 (.pointer (some ⟨c.tb,0,none⟩)):=t0.put_ne (by decide)
 have t1:TV (a.put (some 42) (.pointer (some ⟨c.tb,0,none⟩))) 1 (.func (.func 47) #[] #[.pointer (some ⟨mc,0,none⟩),.pointer (some ⟨cc,0,none⟩),.pointer (some ⟨wc,0,none⟩)]):=t1.put_ne (by decide)
 have ai:(a.put (some 42) (.pointer (some ⟨c.tb,0,none⟩))).tmps.size=56:=by rw[put_size];exact ai
 have bf:(a.put (some 42) (.pointer (some ⟨c.tb,0,none⟩))).defers = []:=bf
 generalize a.put (some 42) (.pointer (some ⟨c.tb,0,none⟩))=a at Ec t0 t1 ai bf |-
 refine m_op (v :=.pointer (some ⟨c.tb,0,none⟩)) hO rfl rfl (by decide) (fun w₄ h₄=>⟨by simp[go_sem,execOp,show a.tmps[42]? = some _ from Ec],by simp[go_sem,execOp,show a.tmps[42]? = some _ from Ec]⟩) ?_
 show Runs Goal (R.born (mkW c qa qg pb)) n (G (Frame.at _ (a.put (some 43) (.pointer (some ⟨c.tb,0,none⟩))) _) _) _
 have Eb:TV (a.put (some 43) (.pointer (some ⟨c.tb,0,none⟩))) 43 (.pointer (some ⟨c.tb,0,none⟩)):=TV.put_same (by omega)
 have t0:TV (a.put (some 43) (.pointer (some ⟨c.tb,0,none⟩))) 0 (.pointer (some ⟨c.tb,0,none⟩)):=t0.put_ne (by decide)
 have t1:TV (a.put (some 43) (.pointer (some ⟨c.tb,0,none⟩))) 1 (.func (.func 47) #[] #[.pointer (some ⟨mc,0,none⟩),.pointer (some ⟨cc,0,none⟩),.pointer (some ⟨wc,0,none⟩)]):=t1.put_ne (by decide)
 have ai:(a.put (some 43) (.pointer (some ⟨c.tb,0,none⟩))).tmps.size=56:=by rw[put_size];exact ai
 have bf:(a.put (some 43) (.pointer (some ⟨c.tb,0,none⟩))).defers = []:=bf
 generalize a.put (some 43) (.pointer (some ⟨c.tb,0,none⟩))=a at Eb t0 t1 ai bf |-
 refine m_op (v :=.pointer (some ⟨c.tb,4,none⟩)) hO rfl rfl (by decide) (fun w₄ h₄=>⟨by simp[go_sem,execOp,show a.tmps[43]? = some _ from Eb],by simp[go_sem,execOp,show a.tmps[43]? = some _ from Eb]⟩) ?_
 show Runs Goal (R.born (mkW c qa qg pb)) n (G (Frame.at _ (a.put (some 44) (.pointer (some ⟨c.tb,4,none⟩))) _) _) _
 have Ea:TV (a.put (some 44) (.pointer (some ⟨c.tb,4,none⟩))) 44 (.pointer (some ⟨c.tb,4,none⟩)):=TV.put_same (by omega)
 have t0:TV (a.put (some 44) (.pointer (some ⟨c.tb,4,none⟩))) 0 (.pointer (some ⟨c.tb,0,none⟩)):=t0.put_ne (by decide)
 have t1:TV (a.put (some 44) (.pointer (some ⟨c.tb,4,none⟩))) 1 (.func (.func 47) #[] #[.pointer (some ⟨mc,0,none⟩),.pointer (some ⟨cc,0,none⟩),.pointer (some ⟨wc,0,none⟩)]):=t1.put_ne (by decide)
 have ai:(a.put (some 44) (.pointer (some ⟨c.tb,4,none⟩))).tmps.size=56:=by rw[put_size];exact ai
 have bf:(a.put (some 44) (.pointer (some ⟨c.tb,4,none⟩))).defers = []:=bf
 generalize a.put (some 44) (.pointer (some ⟨c.tb,4,none⟩))=a at Ea t0 t1 ai bf |-
 refine wj hO rfl rfl (by decide) fun hl d am =>?_
 obtain⟨hc₂,hz⟩:=xy (w:=W₂.at d) hT2 4
 simp only[thrC]at hc₂
 obtain⟨p1,p2,p3⟩:=VZ (b:=true) (w:=W₂.at d) hT2
 have hKK:Keeps (fun b=>b=c.tb) (W₂.at d) ((W₂.at d).setCell ⟨c.tb,4,none⟩ (.bool true)):=⟨rfl,rfl,rfl,Nat.le_of_eq p3.symm,fun b _ hn=>p2 b hn⟩
 refine⟨(W₂.at d).setCell ⟨c.tb,4,none⟩ (.bool true),by simp[go_sem,execOp,show a.tmps[44]? = some _ from Ea,hc₂,hz],hFb.keeps hKK am,fun i s c' hi ah=>hFb.seats (w:=W₂.at d) hl hKK i s c' hi ah,Nat.le_of_eq p3.symm,fun ev he=>by
  simp[go_sem,execOp,show a.tmps[44]? = some _ from Ea,hc₂,hz,storedEv,ZZ,yq]at he
  subst he
  exact xl (by rw[p3];exact(Array.getElem?_eq_some_iff.1 hT2).1) fun _=>hFb.st _,?_⟩
 have hK2:Keeps (fun b=>b=c.tb) w ((W₂.at d).setCell ⟨c.tb,4,none⟩ (.bool true)):=hK2.trans (S':=fun b=>b=c.tb) ⟨rfl,rfl,rfl,hKK.size,hKK.block⟩ fun b hb =>.inl hb
 have hs:((W₂.at d).setCell ⟨c.tb,4,none⟩ (.bool true)).heap.size=w.heap.size+4:=p3.trans hs
 have ltb:=(Array.getElem?_eq_some_iff.1 hT).1
 have ka:=And.intro ((p2 qa (Nat.ne_of_gt (Nat.lt_of_lt_of_le ltb ka.2.1))).trans ka.1) ka.2
 have kg:=And.intro ((p2 qg (Nat.ne_of_gt (Nat.lt_of_lt_of_le ltb kg.2.1))).trans kg.1) kg.2
 have kp:=And.intro ((p2 pb (Nat.ne_of_gt (Nat.lt_of_lt_of_le ltb kp.2.1))).trans kp.1) kp.2
 have ux:=(p2 qd Bl).trans ux
 have hT2:=p1
 clear hKK p1 p2 p3 hc₂ hz am hl
 generalize(W₂.at d).setCell ⟨c.tb,4,none⟩ (.bool true)=W₃ at ux ka kg kp hT2 hK2 hs |-
 show Runs Goal (R.born (mkW c qa qg pb)) n (G (Frame.at _ a _) _) W₃
 refine xe hO (fun _=>stepG_region_end) rfl ?_
 refine xe hO (fun _=>stepG_seq) rfl ?_
 have hE':Env (R.born (mkD c qa qg pb qd)):=hE
 refine xiq (c:=mkD c qa qg pb qd) (cl :=.func (.func 47) #[] #[.pointer (some ⟨mc,0,none⟩),.pointer (some ⟨cc,0,none⟩),.pointer (some ⟨wc,0,none⟩)]) hE'.ok hm (by decide) (show ThrAt (mkD c qa qg pb qd) pend true false W₃ from hT2) ai bf t0 t1 fun a' z1 z2 z3 z4 z5 z6 =>?_
 exact fu a' W₃ qa qg pb qd hE' hFb z1 z2 ((z3 0 (by omega)).trans t0) z4 z5 z6 hK2 ⟨ka,kg,Le,kp,⟨ux,Hz,hdR,dr,H4,H3⟩,hs⟩ hT2
end Go.Proofs.YtfagfflkgmcnpaaGreatDoor.Mx
namespace Go.Proofs.YtfagfflkgmcnpaaGreatDoor.Mx
open Go Go.Conc Lx Kx Tx
open Go.ConcN (sumTo upd sumTo_upd upd_ne upd_same)
variable{Goal:Machine->Trace->Prop}{R:Rg}{n:Nat}{a:Act}{w:World}{c:WC}{cl:Value}{port done pend:Value}{busy closed:Bool}{b:Frame}{k:List Item}{cs:List Frame}{rv:List Value}{tf:Option (List C)}{s:WS}{F Fs:Fo}
theorem st6_o9 : ∃o tys,st6[9]? = some o/\o.dst=none/\o.guard=none/\o.op = .go {callee :=.value (.func 58),args:= #[.tmp 45,.tmp 49,.tmp 53],argTypes:=tys}:=⟨_,_,rfl,rfl,rfl,rfl⟩
theorem st6_go(mc cc:Nat)(mi:TV a 45 (Yb c mc cc))(mh:TV a 49 (.pointer (some ⟨c.pb,0,none⟩)))(mf:TV a 53 (.chan (some c.done)))(cs:List Frame)(w:World) :
  stepG Tryz.prog true (G ((base 46).at a [.inRegion st6 [9],.code st7]) cs) w = .spawn (G ((base 46).at a [.inRegion st6 [],.code st7]) cs) (born Tryz.prog (wQ c mc cc)) w #[]:=by
 obtain⟨o,tys,ho,hd,hg,ab⟩:=st6_o9
 have hr:(execOp a.eval o).run Tryz.prog w = .ok (.spawn (wQ c mc cc)) w:=by
  simp[go_sem,execOp,ab,show a.tmps[45]? = some _ from mi,show a.tmps[49]? = some _ from mh,show a.tmps[53]? = some _ from mf,resolve,Deferred.ofValue,wQ]
 have he:(execOp a.eval o).events Tryz.prog w #[] = #[]:=by
  simp[go_sem,execOp,ab,show a.tmps[45]? = some _ from mi,show a.tmps[49]? = some _ from mh,show a.tmps[53]? = some _ from mf,resolve,Deferred.ofValue,wQ]
 rw[stepG_spawn (f :=.func 58) (c:= #[]) ho (by simp[Region.wanted,hg]) (by decide) hr rfl,hd,listed_none he]
 rfl
theorem Ke(hO:R.Ok){A:Act}{ops:Array Oper}(ai:4<A.tmps.size)(hd:A.defers = []){caller:Frame}(h:Runs Goal R n (G (caller.finish (.bool true)) cs) w) :
  Runs Goal R n (G ((base 46).at (A.put (some 4) (.bool true)) (.inRegion ops [] :: [.code .ret])) (caller::cs)) w:=by
 have h4:(A.put (some 4) (.bool true)).tmps.getD 4 undef = .bool true:=by
  have:=TV.put_same (a:=A) (u :=.bool true) ai
  unfold TV at this
  rw[Array.getD_eq_getD_getElem?,this]
  rfl
 refine xe hO (fun _=>stepG_region_end) rfl ?_
 refine xe hO (fun _=>stepG_ret') rfl ?_
 refine xe hO (fun w₄=>stepG_leave rfl hd Tryz.func46 (results_tmp rfl _ _ _) (events_results_tmp rfl _ _)) rfl ?_
 rw[h4]
 exact h
set_option maxHeartbeats 2000000 in
theorem xg5(E:Env R)(dc:0<n)(ci:R.Inb n=none)(R₀:Round c Fs R.K (upd (upd R.Inb n (some (kJ c))) 0 (some (yG c))) R.Still)(hp:c.tb≠c.pb/\c.tb≠c.wb)
  (hSt : ∀w,R.K w->StillAt c w) (hS3:R.Still (.cell ⟨c.pb,3,none⟩)) (hS4:R.Still (.cell ⟨c.pb,4,none⟩)) (hS5:R.Still (.cell ⟨c.pb,5,none⟩)) (de : ∀k,(¬R.Still (.cell ⟨c.ask,k,none⟩)/\ ¬R.Still (.cell ⟨c.done,k,none⟩))/\ ¬R.Still (.cell ⟨c.grant,k,none⟩)/\ ¬R.Still (.cell ⟨c.quit,k,none⟩))
  (oc:c.ask≠c.done/\c.grant≠c.quit/\c.grant≠c.ask/\c.grant≠c.done/\c.quit≠c.ask/\c.quit≠c.done) (bw : ∀i t x,i≠0->R.Inb i=some t->t.has x->x≠c.ask/\x≠c.done/\x≠c.grant/\x≠c.quit) (ho:OpenC c.ask 0 w/\OpenC c.done 1 w/\OpenC c.grant 0 w/\OpenC c.quit 0 w)
  (hFr:Free R c.tb) (r8:(c.grant≠c.tb/\c.quit≠c.tb)/\c.ask≠c.tb/\c.done≠c.tb) (hT:ThrAt c pend true false w) (hS:StillAt c w) {mc cc:Nat} (ai:a.tmps.size=56) (bf:a.defers = []) (t0:TV a 0 (.pointer (some ⟨c.tb,0,none⟩))) (mi:TV a 45 (Yb c mc cc)) (mh:TV a 49 (.pointer (some ⟨c.pb,0,none⟩))) (mf:TV a 53 (.chan (some c.done))) (caller:Frame) (cs:List Frame)
  (hW : ∀d,∃F,(∀b,Fs b->F b)/\F.A=Fs.A/\WOk c rv tf s F (born Tryz.prog (wQ c mc cc)) (w.at d))
  (d9 : ∀ (d:Nat) (w' ws:World) (k:Nat) (s':WS) (F':Fo) (e:Tx.Ask) (L:List Tx.Ask) (g₂ g₃ g:Goroutine),s'.orc=s.orc->(∀b,Fs b->F' b)->F'.A=Fs.A->AskNow c rv tf s' F' e L g₂ g₃ g ws->RJt c.tb ws w'->(w'.heap[c.ask]? = some (.chan 0 #[] false k k false)/\ ∃kd,w'.heap[c.done]? = some (.chan 1 #[] false kd kd false))->Turned c Fs (w.at d) true false w'->
   ∀w₃ px,px=w'.heap.size->w₃.heap[px]? = some (.cells #[.int .u8 e.k,.int .i64 e.at_,.int .u64 e.a,.int .u64 e.b] 143 (0,0))->Keeps (fun b=>b=c.tb) (w'.setChan c.ask 0 #[] false (k+1) (k+1) false) w₃->ThrAt c (.pointer (some ⟨px,0,none⟩)) true false w₃->w₃.heap.size=w'.heap.size+1->Runs Goal ((R.more c n).asks c n g₃) (n+1) (G (caller.finish (.bool true)) cs) w₃)
  (bl : ∀ (d:Nat) (w' ws:World) (k:Nat) (s':WS) (F':Fo) (g:Goroutine),s'.orc=s.orc->(∀b,Fs b->F' b)->F'.A=Fs.A->DoneNow c rv tf s' F' g ws->Keeps (fun b=>b=c.tb\/b=c.done) ws w'->w'.heap.size=ws.heap.size->Turned c Fs (w.at d) true false w'->
   ∀w₃,Keeps (fun b=>b=c.tb) (w'.setChan c.done 1 #[] false (k+1) (k+1) false) w₃->ThrAt c (.pointer none) false false w₃->w₃.heap.size=w'.heap.size->Runs Goal ((R.more c n).gone n) (n+1) (G (caller.finish (.bool true)) cs) w₃) :
  Runs Goal R n (G ((base 46).at a [.inRegion st6 [9],.code st7]) (caller::cs)) w:=by
 have lu:c.pb<w.heap.size:=by obtain⟨n₂,told,h⟩:=hS;exact(Array.getElem?_eq_some_iff.1 h).1
 have dy:c.tb<w.heap.size:=(Array.getElem?_eq_some_iff.1 hT).1
 have EM:Env (R.more c n):=E.more dc fun k=>(de k).2
 obtain⟨Nf,hk⟩:=Classical.axiomOfChoice fun x:Frame=>xc2 (Goal:=Goal) (sH:=yG c) (B:=w.heap.size) R₀ hp (fun w w' h hk=>hFr.keeps h.1 hk) hFr.st hS3 ⟨dy,lu⟩ ⟨rfl,rfl⟩ pend true false x (caller::cs)
 obtain⟨af,hk⟩:=Classical.axiomOfChoice hk
 apply xg0 (s:=s) (rv:=rv) (tf:=tf) (busy:=true) (closed:=false) E dc ci R₀ hp hSt hS4 hS5 de oc bw ho lu rfl (fun d=>st6_go mc cc mi mh mf (caller::cs) (w.at d)) hW ?gh ?ask ?done
 case gh=>
  intro d
  simp only[st7,Tryz.f46]
  apply yO (fun _=>stepG_region_end) rfl
  apply yO (fun _=>stepG_seq) rfl
  apply yO (fun _=>stepG_region) rfl
  simp only[List.size_toArray,List.length_cons,List.length_nil,Nat.reduceAdd,Nat.zero_add,List.range,List.range.loop]
  apply jA (v :=.pointer (some ⟨c.tb,0,none⟩)) rfl rfl (by decide) (fun w₂ h₂=>⟨by simp[go_sem,execOp,show a.tmps[0]? = some _ from t0],by simp[go_sem,execOp,show a.tmps[0]? = some _ from t0]⟩)
  have Ha:TV (a.put (some 54) (.pointer (some ⟨c.tb,0,none⟩))) 54 (.pointer (some ⟨c.tb,0,none⟩)):=TV.put_same (by omega)
  apply xc1 (f:= 59) (args:= #[.pointer (some ⟨c.tb,0,none⟩)]) rfl rfl (by decide) (fun w₄=>⟨by simp[go_sem,execOp,ai,Ha.eval,resolve,Deferred.ofValue,invoke,callFunc,Tryz.func59,ZG,WI],by simp[go_sem,execOp,ai,Ha.eval,resolve,Deferred.ofValue,invoke,callFunc,Tryz.func59,ZG,WI]⟩)
  exact(hk _).1 _ hT hS
 case ask=>
  intro d w' ws k s' F' e L g₂ g₃ g h1 h2 h3 h4 h5 h6 ht
  have hO:=(EM.asks (c:=c) dc (g₃:=g₃) fun k=>(de k).2).ok
  have hFm:Free (R.more c n) c.tb:=⟨hFr.st,hFr.keep,fun i s x hi hx e=>by
   by_cases ei:i=n
   .subst ei
    have hi:upd R.Inb i (some (kJ c)) i=some s:=hi
    rw[upd_same]at hi
    cases hi
    rcases vl.1 hx with rfl|rfl
    .exact r8.1.1 e
    .exact r8.1.2 e
   .have hi:upd R.Inb n (some (kJ c)) i=some s:=hi
    rw[upd_ne _ _ ei]at hi
    exact hFr.chans i s x hi hx e,hFr.low⟩
  refine(hk _).2.1 hO (hFm.asks r8.1) (ht.thr.chan (d:=w'.drawn) r8.2.1) fun w₃ px e1 e2 e3 e4 e5 =>?_
  rw[size_setChan]at e1 e5
  rw[Frame.finish_at]
  refine xe hO (fun _=>stepG_region_end) rfl ?_
  refine xe hO (fun _=>stepG_seq) rfl ?_
  refine xe hO (fun _=>stepG_region) rfl ?_
  simp only[List.size_toArray,List.length_cons,List.length_nil,Nat.reduceAdd,Nat.zero_add,List.range,List.range.loop]
  refine xL (v :=.bool true) hO rfl rfl ?_
  refine Ke (A:=(a.put (some 54) (.pointer (some ⟨c.tb,0,none⟩))).put (some 55) (.tuple #[])) hO (by rw[put_size,put_size];omega) bf ?_
  .exact d9 d w' ws k s' F' e L g₂ g₃ g h1 h2 h3 h4 h5 h6 ht w₃ px e1 e2 e3 e4 e5
 case done=>
  intro d w' ws k s' F' g h0 h1 h2 h3 h4 h5 ht
  have hO:=(EM.gone dc).ok
  have hFm:Free (R.more c n) c.tb:=⟨hFr.st,hFr.keep,fun i s x hi hx e=>by
   by_cases ei:i=n
   .subst ei
    have hi:upd R.Inb i (some (kJ c)) i=some s:=hi
    rw[upd_same]at hi
    cases hi
    rcases vl.1 hx with rfl|rfl
    .exact r8.1.1 e
    .exact r8.1.2 e
   .have hi:upd R.Inb n (some (kJ c)) i=some s:=hi
    rw[upd_ne _ _ ei]at hi
    exact hFr.chans i s x hi hx e,hFr.low⟩
  refine(hk _).2.2 hO hFm.gone (ht.thr.chan (d:=w'.drawn) r8.2.2) fun w₃ e3 e4 e5 =>?_
  rw[size_setChan]at e5
  rw[Frame.finish_at]
  refine xe hO (fun _=>stepG_region_end) rfl ?_
  refine xe hO (fun _=>stepG_seq) rfl ?_
  refine xe hO (fun _=>stepG_region) rfl ?_
  simp only[List.size_toArray,List.length_cons,List.length_nil,Nat.reduceAdd,Nat.zero_add,List.range,List.range.loop]
  refine xL (v :=.bool true) hO rfl rfl ?_
  refine Ke (A:=(a.put (some 54) (.pointer (some ⟨c.tb,0,none⟩))).put (some 55) (.tuple #[])) hO (by rw[put_size,put_size];omega) bf ?_
  .exact bl d w' ws k s' F' g h0 h1 h2 h3 h4 h5 ht w₃ e3 e4 e5
end Go.Proofs.YtfagfflkgmcnpaaGreatDoor.Mx
namespace Go.Proofs.YtfagfflkgmcnpaaGreatDoor.Mx
open Go Go.Conc Lx Kx Tx
open Go.ConcN (sumTo upd sumTo_upd upd_ne upd_same)
variable{Goal:Machine->Trace->Prop}{kd kd':Kd}{ps ps':List WC}{F F' Fs:Fo}{R R':Rg}{n n' nc:Nat}{w w' ws w₃:World}{i:Nat}{t:Th}{g:Gh}{S:Nat->Prop}{ts:List Th}{gs:List Gh}{s s':MS}{fr caller:Frame}{cs:List Frame}{c:WC}{j:Nat}
def kdS(kd:Kd)(P pb qa qg qd wc mc cc lo hi b:Nat):Option (Nat×Nat):=
 if b=pb then some (P,2)else if b=qa then some (P,3)else if b=qg then some (P,4)else if b=qd then some (P,5)else if b=wc then some (P,6)else if b=mc\/b=cc\/(lo<=b/\b<hi)then some (P,8)else kd b
section
variable{P pb qa qg qd wc mc cc lo hi b n0:Nat}
theorem kdS_old{y:Nat×Nat}(h:kd b=some y)(hb:b<n0)(h1:n0<=pb/\n0<=qa/\n0<=qg/\n0<=qd/\n0<=lo)(h2:b≠wc/\b≠mc/\b≠cc):kdS kd P pb qa qg qd wc mc cc lo hi b=some y:=by
 unfold kdS
 rw[dA (by omega),dA (by omega),dA (by omega),dA (by omega),dA h2.1,dA (by omega)]
 exact h
theorem kdS_new(h1:pb<lo/\qa<lo/\qg<lo/\qd<lo/\wc<lo)(h2:lo<=b)(h3:b<hi):kdS kd P pb qa qg qd wc mc cc lo hi b=some (P,8):=by
 unfold kdS
 rw[dA (by omega),dA (by omega),dA (by omega),dA (by omega),dA (by omega),dB (.inr (.inr ⟨h2,h3⟩))]
theorem xaE{y:Nat×Nat}(h:kdS kd P pb qa qg qd wc mc cc lo hi b=some y):kd b=some y\/(b=mc\/b=cc\/b=wc)\/(b=pb\/b=qa\/b=qg\/b=qd\/(lo<=b/\b<hi)):=by
 unfold kdS at h
 split at h
 .rename_i e;exact .inr (.inr (.inl e))
 .split at h
  .rename_i e;exact .inr (.inr (.inr (.inl e)))
  .split at h
   .rename_i e;exact .inr (.inr (.inr (.inr (.inl e))))
   .split at h
    .rename_i e;exact .inr (.inr (.inr (.inr (.inr (.inl e)))))
    .split at h
     .rename_i e;exact .inr (.inl (.inr (.inr e)))
     .split at h
      .rename_i e
       rcases e with e|e|e
       .exact .inr (.inl (.inl e))
       .exact .inr (.inl (.inr (.inl e)))
       .exact .inr (.inr (.inr (.inr (.inr (.inr e)))))
      .exact .inl h
end
theorem xeH{tb wb mb mc cc wc:Nat}{pre:List Value}{p:Plan}{pl:List Plan}{gv cv:Value}{r0:List Int}(hR:RepM s F w)(ht:s.ths[i]? = some t)(hk:F.A.tok i=some tb)(hb:t.busy=false)(hc:t.closed=false)(hp:s.plans=p::pl)(hV:xaD t.self gv cv p)
  (hF : ¬F mc/\ ¬F cc/\ ¬F wc/\ ¬F wb/\ ¬F mb) (ae:mc≠wb/\cc≠wb/\wc≠wb/\mb≠wb/\mc≠cc/\mc≠wc/\cc≠wc) (hl:pre.length=3/\r0.length=11) (dh:w.heap[wb]? = some (vP pre r0)) (Ao:w.heap[wc]? = some (.cells #[ptr0 wb] 73 (0,0)))
  (B0:ReadX mc w 42 (ptr0 mc) (ptr0 mb)) (uo:ReadX mb w 60 (ptr0 mb) gv) (Af:ReadX cc w 24 (ptr0 cc) cv) (ao:mc<w.heap.size/\cc<w.heap.size/\mb<w.heap.size)
  (h : ∀rv F' w',(rv = .bool true/\F'.A.cap s.nc=some wb/\w'.heap[wb]? = some (vP pre (if p.orc = []then p.rv else r0))/\After ⟨s.ths.set i (t.start p r0 s.nc),pl,s.nc+1⟩ F w F' w' (fun b=>b=mc\/b=cc\/b=wc) (fun b=>b=wb))->F.A.le F'.A->OkM Goal ⟨s.ths.set i (t.start p r0 s.nc),pl,s.nc+1⟩ F' (caller.finish rv) cs w') :
  OkM Goal s F (Frame.enter Tryz.prog 46 #[ptr0 tb,cloB mc cc wc] .normal) (caller::cs) w:=by
 intro gs ps kd R n L₀
 obtain⟨g,hg,T⟩:=L₀.find ht
 obtain rfl:g.c.tb=tb:=Option.some.inj (T.tok.symm.trans hk)
 obtain⟨port,done,pend,O⟩:=T.thr
 have B9:=O.at_
 rw[hb,hc]at B9
 have kn : ∀ {b},¬F b->kd b=none:=fun {b} hb=>by
  cases e:kd b with
  | none=>rfl
  | some y=>exact absurd (L₀.inF e) hb
 have zt:=(Array.getElem?_eq_some_iff.1 dh).1
 have cq:=(Array.getElem?_eq_some_iff.1 Ao).1
 have htl:=L₀.kdlt T.kt
 have Fa:=L₀.kdlt T.kq
 have nt : ∀ {b},¬F b->b≠g.c.tb:=fun {b} hb e=>hb (e▸L₀.inF T.kt)
 have nq : ∀ {b},¬F b->b≠g.c.quit:=fun {b} hb e=>hb (e▸L₀.inF T.kq)
 refine xiG (c :={tb:=g.c.tb,pb:=0,wb:=wb,wc:=wc,db:=w.heap.size+4,ask:=0,grant:=0,quit:=g.c.quit,done:=0,self:=g.c.self,r0:=resV r0}) L₀.env (L₀.free T.kt) (by kernel_rfl) B9 mc cc wc caller cs fun a' W qa qg pb qd hE hFb ai bf t0 mi mh mf hK M hTb =>?_
 obtain⟨⟨ma,la,oa⟩,⟨mg,lg,og⟩,nag,⟨mp,lp,op,npa,npg⟩,⟨md,ld,od,nda,ndg,ndp⟩,hWs⟩:=M
 have sa:=(Array.getElem?_eq_some_iff.1 ma).1
 have sg:=(Array.getElem?_eq_some_iff.1 mg).1
 have sp:=(Array.getElem?_eq_some_iff.1 mp).1
 have sd:=(Array.getElem?_eq_some_iff.1 md).1
 obtain⟨c,dg⟩ : ∃c:WC,c=mkD {tb:=g.c.tb,pb:=0,wb:=wb,wc:=wc,db:=w.heap.size+4,ask:=0,grant:=0,quit:=g.c.quit,done:=0,self:=g.c.self,r0:=resV r0} qa qg pb qd:=⟨_,rfl⟩
 rw[<- dg]at hE hFb mp |-
 have c1:c.tb=g.c.tb:=by rw[dg];rfl
 have c2:c.pb=pb:=by rw[dg];rfl
 have c3:c.wb=wb:=by rw[dg];rfl
 have c4:c.wc=wc:=by rw[dg];rfl
 have c5:c.db=w.heap.size+4:=by rw[dg];rfl
 have c6:c.ask=qa:=by rw[dg];rfl
 have c7:c.grant=qg:=by rw[dg];rfl
 have c8:c.quit=g.c.quit:=by rw[dg];rfl
 have c9:c.done=qd:=by rw[dg];rfl
 have c10:c.self=g.c.self:=by rw[dg];rfl
 have Bq:c.r0=resV r0:=by rw[dg];rfl
 clear dg
 subst c2 c3 c4 c6 c7 c9
 have hn:R.Inb n=none:=by
  cases e:R.Inb n with
  | none=>rfl
  | some sx=>
   obtain⟨k,tk,gk,h1,h2,h3,h4,_⟩:=L₀.inb n sx e
   have:=((L₀.th k tk gk h1 h2).body h3).jn
   omega
 have chl : ∀ {x sx Ia},R.Inb x=some sx->sx.has Ia->Ia<w.heap.size:=fun hx bx=>L₀.lt _ (L₀.chanF hx bx)
 have onlyq : ∀ {x sx},R.Inb x=some sx ->¬sx.has g.c.quit:=fun {x sx} hx bx=>by
  obtain⟨k,tk,gk,e1,e2,e3,e4,e5⟩:=L₀.chan hx bx
  rcases e5 with⟨_,e5⟩|⟨_,e5⟩
  .rw[T.kq]at e5;exact absurd (Option.some.inj e5) (r_ne (by omega))
  .rw[T.kq]at e5
   have:i=k:=(Prod.mk.inj (Option.some.inj e5)).1
   subst this
   rw[ht]at e1
   cases e1
   rw[hb]at e3
   cases e3
 obtain⟨kq,hq⟩:=T.quit hc
 have hqW:W.heap[g.c.quit]? = some (.chan 0 #[] false kq kq false):=(hK.block _ Fa (xM T.kq T.kt (r_ne (by omega)))).trans hq
 have stn : ∀ {x k:Nat},x≠c.pb ->¬R.Still (.cell ⟨x,k,none⟩) ->¬ (R.born c).Still (.cell ⟨x,k,none⟩):=fun {x k} h1 h2 hh=>by
  rcases hh with hh|⟨k',_,e⟩
  .exact h2 hh
  .cases e;exact h1 rfl
 have hold : ∀ {b},b<w.heap.size->b≠g.c.tb->W.heap[b]? = w.heap[b]? :=fun hb h=>hK.block _ hb h
 have R₀:Round c ⟨fun b=>b<W.heap.size,⟨fun i=>if i=0 then some c.pb else none,fun b=>if b<W.heap.size then some 0 else none⟩⟩ (R.born c).K (upd (upd (R.born c).Inb n (some (kJ c))) 0 (some (yG c))) (R.born c).Still:=by
  refine⟨show c.tb<_ by rw[c1];omega,sp,show c.wb<_ by omega,fun w₁ w₂ hh hk=>⟨(L₀.K w₂).2 fun c' ah =>?_,hh.still hk.2⟩,fun x sx c' hx ah =>?_,⟨sd,ndp,by omega,by rw[c1];omega⟩,fun l hl =>?_⟩
  .obtain⟨p',Bx⟩:=List.getElem?_of_mem ah
   have k1:=L₀.pk p' c' Bx
   have k2:=L₀.kdlt k1
   have hs:=(L₀.K w₁).1 hk.1 c' ah
   refine Tx.StillAt.same hs (hh.keeps.block _ (Tx.StillAt.lt hs) fun z=>z.elim (fun y=>y (show c'.pb<W.heap.size by omega)) fun z=>z.elim (by omega) fun z=>z.elim (yV k1 (kn hF.2.2.2.1)) (by omega))
  .by_cases e0:x=0
   .subst e0
    rw[upd_same]at hx
    cases hx
    rcases vk.1 ah with rfl|rfl
    .exact⟨sa,by omega,by omega,by rw[c1];omega⟩
    .exact⟨sd,ndp,by omega,by rw[c1];omega⟩
   .rw[upd_ne _ _ e0]at hx
    by_cases en:x=n
    .subst en
     rw[upd_same]at hx
     cases hx
     rcases vl.1 ah with rfl|rfl
     .exact⟨sg,by omega,by omega,by rw[c1];omega⟩
     .exact⟨show c.quit<_ by rw[c8];omega,by rw[c8];omega,by rw[c8];exact(nq hF.2.2.2.1).symm,by rw[c8,c1];exact xM T.kq T.kt (r_ne (by omega))⟩
    .rw[upd_ne _ _ en]at hx
     have hf:=L₀.chanF hx ah
     have Cy:=L₀.lt _ hf
     exact⟨show c'<W.heap.size by omega,by omega,fun e=>hF.2.2.2.1 (e▸hf),fun e=>(hFb.chans x sx c' hx ah) (by rw[e,c1])⟩
  .rcases hl with hl|⟨k,hk,rfl⟩
   .obtain⟨c',ah,k,hk,rfl⟩:=(L₀.St l).1 hl
    obtain⟨p',Bx⟩:=List.getElem?_of_mem ah
    have k1:=L₀.pk p' c' Bx
    have k2:=L₀.kdlt k1
    exact⟨_,rfl,show c'.pb<W.heap.size by omega,yV k1 (kn hF.2.2.2.1),by rw[c1];exact xM k1 T.kt (r_ne (by omega)),fun e=>by have:c'.pb=c.pb:=e;omega⟩
   .exact⟨_,rfl,sp,show c.pb≠c.wb by omega,show c.pb≠c.tb by rw[c1];omega,fun _=>hk⟩
 obtain⟨s1,v1,v2,v3⟩:=hV.2 c (c10.trans T.self)
 have kcw:W.heap[c.wc]? = some (capO c):=(hold cq (nt hF.2.2.1)).trans Ao
 have kww:WorkAt c pre c.r0 W:=⟨⟨hl.1,by rw[Bq];exact Zk hl.2⟩,by rw[Bq];exact(hold zt (nt hF.2.2.2.1)).trans dh⟩
 have rdx : ∀ {x:Nat} {ty:TypeId} {a v:Value} {d:Nat},x<w.heap.size ->¬F x->ReadX x w ty a v->ReadX x (W.at d) ty a v:=fun {x ty a v d} hx hf hr w₁ e=>hr w₁ (e.trans (hold hx (nt hf)))
 have hW : ∀d,∃F':Fo,(∀b,b<W.heap.size->F' b)/\F'.A=⟨fun i=>if i=0 then some c.pb else none,fun b=>if b<W.heap.size then some 0 else none⟩/\WOk c (resV p.rv) p.tf ⟨0,none,p.orc⟩ F' (born Tryz.prog (wQ c mc cc)) (W.at d):=fun d=>by
  refine⟨⟨fun b=>b<W.heap.size,_⟩,fun b hb=>hb,rfl,born_ok mc cc mb ⟨fun b hb=>hb,show c.tb<W.heap.size by rw[c1];omega,sp,show c.wb<W.heap.size by omega,by rw[c1];omega,by omega,by rw[c1];exact nt hF.2.2.2.1,rfl,fun b y hy =>?_,⟨show c.wc<W.heap.size by omega,by rw[c1];exact nt hF.2.2.1,by omega,ae.2.2.1,kcw⟩,⟨pre,kww⟩,mp,by rw[c5];exact hWs.symm⟩ ⟨rfl,rfl⟩ ⟨show mc<W.heap.size by omega,show cc<W.heap.size by omega,show mb<W.heap.size by omega⟩ ⟨by rw[c1];exact nt hF.1,by rw[c1];exact nt hF.2.1,by rw[c1];exact nt hF.2.2.2.2⟩ (rdx ao.1 hF.1 B0) (rdx ao.2.2 hF.2.2.2.2 uo) (rdx ao.2.1 hF.2.1 Af) v3 (Zk hV.1) xc9 v1 v2⟩
  show b<W.heap.size
  have hy:(if b<W.heap.size then some 0 else none)=some y:=hy
  split at hy
  .assumption
  .cases hy
 have kold : ∀ (m:Nat) (b:Nat) (y:Nat×Nat),kd b=some y->kdS kd ps.length c.pb c.ask c.grant c.done c.wc mc cc W.heap.size m b=some y:=fun m b y hy=>by
  have hf:=L₀.inF hy
  refine kdS_old (n0:=w.heap.size) hy (L₀.kdlt hy) ⟨lp,la,lg,ld,by omega⟩ ⟨fun e=>hF.2.2.1 (e▸hf),fun e=>hF.1 (e▸hf),fun e=>hF.2.1 (e▸hf)⟩
 have knew : ∀ {m b:Nat},W.heap.size<=b->b<m->kdS kd ps.length c.pb c.ask c.grant c.done c.wc mc cc W.heap.size m b=some (ps.length,8):=fun h1 h2=>kdS_new ⟨sp,sa,sg,sd,by omega⟩ h1 h2
 have kpb : ∀m,kdS kd ps.length c.pb c.ask c.grant c.done c.wc mc cc W.heap.size m c.pb=some (ps.length,2):=fun m=>dB rfl
 have kqa : ∀m,kdS kd ps.length c.pb c.ask c.grant c.done c.wc mc cc W.heap.size m c.ask=some (ps.length,3):=fun m=>by unfold kdS;rw[dA (by omega),dB rfl]
 have kqg : ∀m,kdS kd ps.length c.pb c.ask c.grant c.done c.wc mc cc W.heap.size m c.grant=some (ps.length,4):=fun m=>by unfold kdS;rw[dA (by omega),dA (by omega),dB rfl]
 have kqd : ∀m,kdS kd ps.length c.pb c.ask c.grant c.done c.wc mc cc W.heap.size m c.done=some (ps.length,5):=fun m=>by unfold kdS;rw[dA (by omega),dA (by omega),dA (by omega),dB rfl]
 have kwc : ∀m,kdS kd ps.length c.pb c.ask c.grant c.done c.wc mc cc W.heap.size m c.wc=some (ps.length,6):=fun m=>by unfold kdS;rw[dA (by omega),dA (by omega),dA (by omega),dA (by omega),dB rfl]
 have hA:F.A.le ⟨F.A.tok,fun m=>if m=s.nc then some c.wb else F.A.cap m⟩:=⟨fun _ _ h=>h,fun m b hb=>by
  show(if m=s.nc then some c.wb else F.A.cap m)=some b
  rw[dA fun e=>by rw[L₀.capN m (by omega)]at hb;cases hb]
  exact hb⟩
 have hC : ∀m,s.nc+1<=m->(if m=s.nc then some c.wb else F.A.cap m)=none:=fun m hm=>by
  rw[dA (by omega)]
  exact L₀.capN m (by omega)
 have hM : ∀b,(b=g.c.tb\/b=c.wb\/w.heap.size<=b)->b<w.heap.size->kd b=none\/Mine kd i t g b:=fun b gu gt=>by
  rcases gu with rfl|rfl|gu
  .exact .inr (.inl T.kt)
  .exact .inl (kn hF.2.2.2.1)
  .omega
 have hSt : ∀l,(R.born c).Still l ↔ ∃c'∈ps ++ [c],∃k,3<=k/\l = .cell ⟨c'.pb,k,none⟩:=fun l=>by
  constructor
  .rintro (hl|⟨k,hk,e⟩)
   .obtain⟨c',ah,x⟩:=(L₀.St l).1 hl
    exact⟨c',by simp[ah],x⟩
   .exact⟨c,by simp,k,hk,e⟩
  .rintro ⟨c',ah,k,hk,e⟩
   rcases List.mem_append.1 ah with ah|ah
   .exact .inl ((L₀.St l).2 ⟨c',ah,k,hk,e⟩)
   .simp only[List.mem_singleton]at ah
    subst ah
    exact .inr ⟨k,hk,e⟩
 have hKK : ∀w,(R.born c).K w ↔ ∀c'∈ps ++ [c],StillAt c' w:=fun w=>by
  constructor
  .rintro ⟨h1,h2⟩ c' ah
   rcases List.mem_append.1 ah with ah|ah
   .exact(L₀.K w).1 h1 c' ah
   .simp only[List.mem_singleton]at ah
    subst ah
    exact h2
  .intro hh
   exact⟨(L₀.K w).2 fun c' ah=>hh c' (by simp[ah]),hh c (by simp)⟩
 have Bw : ∀ (m p':Nat) (c':WC),(ps ++ [c])[p']? = some c'->kdS kd ps.length c.pb c.ask c.grant c.done c.wc mc cc W.heap.size m c'.pb=some (p',2):=fun m p' c' hh=>by
  rcases kD hh with⟨rfl,rfl⟩|⟨_,hh⟩
  .exact kpb m
  .exact kold m _ _ (L₀.pk p' c' hh)
 have Cm:(ps ++ [c])[ps.length]? = some c:=by simp
 have A1 : ∀ {w₃:World},W.heap.size<=w₃.heap.size ->∀b,(∃x,kdS kd ps.length c.pb c.ask c.grant c.done c.wc mc cc W.heap.size w₃.heap.size b=some x)->b<w₃.heap.size:=fun {w₃} Hg b ⟨x,hx⟩=>by
  rcases xaE hx with hx|hx|hx
  .have:=L₀.kdlt hx;omega
  .rcases hx with rfl|rfl|rfl<;>omega
  .rcases hx with rfl|rfl|rfl|rfl|hx<;>omega
 have newF : ∀ {m b:Nat},(∃x,kdS kd ps.length c.pb c.ask c.grant c.done c.wc mc cc W.heap.size m b=some x)->F b\/(b=mc\/b=cc\/b=c.wc)\/w.heap.size<=b:=fun {m b} ⟨x,hx⟩=>by
  rcases xaE hx with hx|hx|hx
  .exact .inl (L₀.inF hx)
  .exact .inr (.inl hx)
  .exact .inr (.inr (by rcases hx with rfl|rfl|rfl|rfl|hx<;>omega))
 have tol : ∀ {F'':Fo} {m:Nat},F''.A=⟨fun i=>if i=0 then some c.pb else none,fun b=>if b<W.heap.size then some 0 else none⟩ ->∀x,F'' x->F''.A.cap x=none->x<m->kdS kd ps.length c.pb c.ask c.grant c.done c.wc mc cc W.heap.size m x=some (ps.length,8):=fun {F'' m} h3 x hx Db Cy=>by
  rw[h3]at Db
  have Db:(if x<W.heap.size then some 0 else none)=none:=Db
  split at Db
  .cases Db
  .exact knew (by omega) Cy
 have fin : ∀ {w₃:World},W.heap.size<=w₃.heap.size->Keeps (fun b=>b=g.c.tb\/b=c.wb\/w.heap.size<=b) w w₃->After ⟨s.ths.set i (t.start p r0 s.nc),pl,s.nc+1⟩ F w ⟨fun b =>∃x,kdS kd ps.length c.pb c.ask c.grant c.done c.wc mc cc W.heap.size w₃.heap.size b=some x,⟨F.A.tok,fun m=>if m=s.nc then some c.wb else F.A.cap m⟩⟩ w₃ (fun b=>b=mc\/b=cc\/b=c.wc) (fun b=>b=c.wb):=fun {w₃} Hg hK3=>
  ⟨⟨A1 Hg,(hR.set (ps:=pl)).tok,hC⟩,fun b hb=>by
   obtain⟨x,hx⟩:=(L₀.has b).1 hb
   exact⟨x,kold _ _ _ hx⟩,fun b hb=>newF hb,⟨hK3.os,hK3.tape,hK3.output,hK3.size,fun b gt hb=>hK3.block b gt fun z=>by
   rcases z with rfl|rfl|z
   .exact hb (.inl (L₀.inF T.kt))
   .exact hb (.inr rfl)
   .omega⟩,hA⟩
 have EM:Env ((R.born c).more c n):=hE.more L₀.n0 fun k=>⟨stn (by omega) (og.st k),stn (by rw[c8];omega) (by rw[c8];exact L₀.stNe T.kq (by simp))⟩
 have turnK : ∀ {w' w₃:World} {d ch:Nat},w.heap.size<=ch->Turned c ⟨fun b=>b<W.heap.size,⟨fun i=>if i=0 then some c.pb else none,fun b=>if b<W.heap.size then some 0 else none⟩⟩ (W.at d) true false w'->Keeps (fun b=>b=c.tb\/b=ch) w' w₃->Keeps (fun b=>b=g.c.tb\/b=c.wb\/w.heap.size<=b) w w₃:=fun {w' w₃ d ch} de fb d7=>by
  have k0:Keeps (fun b=>b=g.c.tb\/b=c.wb\/w.heap.size<=b) w W:=hK.mono fun b hb =>.inl hb
  have k1:Keeps (fun b=> ¬ (b<W.heap.size)\/b=c.pb\/b=c.wb\/b=c.done\/b=c.tb) W w':=⟨fb.keeps.os,fb.keeps.tape,fb.keeps.output,fb.keeps.size,fun b gt hb=>fb.keeps.block b gt hb⟩
  refine(k0.trans k1 fun b hb =>?_).trans d7 fun b hb =>?_
  .rcases hb with z|z|z|z|z
   .by_cases e:w.heap.size<=b
    .exact .inr e
    .exact absurd (show b<W.heap.size by omega) z
   .exact .inr (by omega)
   .exact .inl (.inr (.inl z))
   .exact .inr (by omega)
   .exact .inl (.inl (by rw[z,c1]))
  .rcases hb with z|z
   .exact .inl (.inl (by rw[z,c1]))
   .exact .inr (by omega)
 refine xg5 (c:=c) (Fs:=⟨fun b=>b<W.heap.size,⟨fun i=>if i=0 then some c.pb else none,fun b=>if b<W.heap.size then some 0 else none⟩⟩) (s:=⟨0,none,p.orc⟩) (rv:=resV p.rv) (tf:=p.tf) (mc:=mc) (cc:=cc) (pend:=pend) hE L₀.n0 hn R₀ ⟨by rw[c1];omega,by rw[c1];exact(nt hF.2.2.2.1).symm⟩ (fun w hh=>hh.2) (.inr ⟨3,by omega,rfl⟩) (.inr ⟨4,by omega,rfl⟩) (.inr ⟨5,by omega,rfl⟩)
  (fun k=>⟨⟨stn (by omega) (oa.st k),stn (by omega) (od.st k)⟩,stn (by omega) (og.st k),stn (by rw[c8];omega) (by rw[c8];exact L₀.stNe T.kq (by simp))⟩) ⟨by omega,by rw[c8];omega,by omega,by omega,by rw[c8];omega,by rw[c8];omega⟩ (fun x sx y tg hx hy =>?_) ⟨⟨0,ma⟩,⟨0,md⟩,⟨0,mg⟩,⟨kq,by rw[c8];exact hqW⟩⟩ (by rw[c1];exact hFb) ⟨⟨by rw[c1];omega,by rw[c8,c1];exact xM T.kq T.kt (r_ne (by omega))⟩,by rw[c1];omega,by rw[c1];omega⟩ (by unfold ThrAt;rw[c1,c8,c10];exact hTb) ⟨0,_,mp⟩ ai bf (by rw[c1];exact t0) mi mh mf caller cs hW ?ask ?done
 .have Cy:=chl hx hy
  refine⟨by omega,by omega,by omega,fun e=>onlyq hx ?_⟩
  rw[e,c8]at hy
  exact hy
 case ask=>
  intro d w' ws k sw F'' e L Ln g₃ gx h1 h2 h3 N hRJ zl fb w₃ px e1 e2 e3 e4 e5
  obtain⟨zl,kdk,Gg⟩:=zl
  have hL:p.orc=e::L:=h1.symm.trans N.hL
  have ip:(w'.setChan c.ask 0 #[] false (k+1) (k+1) false).heap.size=w'.heap.size:=size_setChan _ _ _ _ _ _ _ _
  have Am:Keeps (fun b=>b=c.ask) w' (w'.setChan c.ask 0 #[] false (k+1) (k+1) false):=⟨rfl,rfl,rfl,Nat.le_of_eq ip.symm,fun b _ hb=>heap_setChan_ne w' _ _ _ _ _ _ (Ne.symm hb)⟩
  have k3:Keeps (fun b=>b=c.tb\/b=c.ask) w' w₃:=(Am.mono fun b hb =>.inr hb).trans e3 fun b hb =>.inl (.inl hb)
  have k4:Keeps (fun b=>b=c.tb\/b=c.ask) ws w₃:=(hRJ.1.mono fun b hb =>.inl hb).trans k3 fun b hb =>.inl hb
  have kall:=turnK la fb k3
  have B8:W.heap.size<=w'.heap.size:=fb.keeps.size
  have ig:W.heap.size<w'.heap.size:=by
   have:=(Array.getElem?_eq_some_iff.1 N.hR.dn.at_).1
   rw[hRJ.2]
   omega
  have E':=EM.asks (c:=c) (g₃:=g₃) L₀.n0 fun k=>⟨stn (by omega) (og.st k),stn (by rw[c8];omega) (by rw[c8];exact L₀.stNe T.kq (by simp))⟩
  have rt:OpenC c.ask 0 w₃:=⟨k+1,(e3.block _ (by rw[ip];omega) (by rw[c1];omega)).trans (Go.Conc.heap_setChan_self w' zl _ _ _ _ _ _)⟩
  have w6:OpenC c.done 1 w₃:=⟨kdk,(k3.block _ (by omega) fun z=>z.elim (by rw[c1];omega) (by omega)).trans Gg⟩
  have eo:CapIs c.grant 0 w₃:=by
   have g0:CapIs c.grant 0 (W.at d):=⟨_,_,_,_,_,mg⟩
   have g1:CapIs c.grant 0 w':=g0.same (fb.keeps.block _ sg fun z=>by
    rcases z with z|z|z|z|z
    .exact z sg
    .omega
    .omega
    .omega
    .rw[c1]at z;omega)
   exact g1.same (k3.block _ (by omega) fun z=>z.elim (by rw[c1];omega) (by omega))
  refine Runs.known E' fun lx =>?_
  have T':LkT (kdS kd ps.length c.pb c.ask c.grant c.done c.wc mc cc W.heap.size w₃.heap.size) (ps ++ [c]) ⟨fun b =>∃x,kdS kd ps.length c.pb c.ask c.grant c.done c.wc mc cc W.heap.size w₃.heap.size b=some x,⟨F.A.tok,fun m=>if m=s.nc then some c.wb else F.A.cap m⟩⟩ (((R.born c).more c n).asks c n g₃) (n+1) w₃ i (t.start p r0 s.nc) ⟨c,ps.length,n,g₃,sw,F'',ws⟩:=by
   have az:t.start p r0 s.nc = {t with begun:=true,busy:=true,rv:=p.rv,tf:=p.tf,r0:=r0,cap:=s.nc,told:=e.told,orc:=e::L}:=by
    unfold Th.start Th.went
    rw[hL]
   rw[az]
   refine xfH (by rw[c1];exact kold _ _ _ T.kt) (by rw[c8];exact kold _ _ _ T.kq) (c10.trans T.self) (by rw[c1];exact T.tok) e4 (knew (by omega) (by omega)) e2 ⟨kq,?_⟩ Cm (kqd _) w6 N k4 (kpb _) (kqa _) (kqg _) (kwc _) (knew (by omega) (by omega)) rt eo (dB rfl) (upd_same _ _ _) (.inr rfl) L₀.n0 (Nat.lt_succ_self n) Bq (fun b gt hbF =>?_) (tol h3) rfl rfl hc rfl rfl (h2 _ sa)
   .rw[c8]
    exact(kall.block _ Fa fun z=>by
     rcases z with z|z|z
     .exact xM T.kq T.kt (r_ne (by omega)) z
     .exact(nq hF.2.2.2.1) z.symm
     .omega).trans hq
   .refine knew (Nat.le_of_not_lt fun hh=>hbF (h2 _ hh)) (Nat.lt_of_lt_of_le gt k4.size)
  have im:w₃.heap[c.wb]? = some (vP pre r0):=by
   obtain⟨r',y1⟩:=fb.work pre c.r0 kww
   obtain⟨fg,r,y2,y3⟩:=N.hR.wk
   have y3:=y3 (by rw[N.hL];simp)
   subst y3
   have y4:WorkAt c fg c.r0 w':=WorkAt.same y2 (hRJ.1.block _ (Array.getElem?_eq_some_iff.1 y2.2).1 (by rw[c1];exact nt hF.2.2.2.1))
   obtain⟨rfl,rfl⟩:=Yg y1 y4
   have y5:WorkAt c pre c.r0 w₃:=WorkAt.same y4 (k3.block _ (Array.getElem?_eq_some_iff.1 y4.2).1 fun z=>z.elim (by rw[c1];exact nt hF.2.2.2.1) (by omega))
   rw[Bq]at y5
   exact WorkAt.obj y5
  have L₁:=L₀.put (t':=t.start p r0 s.nc) (g':=⟨c,ps.length,n,g₃,sw,F'',ws⟩) (F':=⟨fun b =>∃x,kdS kd ps.length c.pb c.ask c.grant c.done c.wc mc cc W.heap.size w₃.heap.size b=some x,⟨F.A.tok,fun m=>if m=s.nc then some c.wb else F.A.cap m⟩⟩) (kd':=kdS kd ps.length c.pb c.ask c.grant c.done c.wc mc cc W.heap.size w₃.heap.size) (ps':=ps ++ [c]) (nc':=s.nc+1) ht hg E' (Nat.le_succ n) kall (A1 (by omega)) (fun b=>Iff.rfl) (kold _) hA (fun _ _ h=>xbG h) hKK ((hKK w₃).1 lx) hSt (Bw _)
   hM (fun x _ hx =>?_) (fun x sx hx =>?_) (fun _ k tk gk ae h1 h2 h3=>Nat.ne_of_gt ((L₀.th k tk gk h1 h2).body h3).jn) (fun _ k tk gk ae h1 h2 h3 e =>?_) T' L₀.tokN hC
  .exact h _ _ w₃ ⟨rfl,dB rfl,by rw[hL,dA (by simp)];exact im,fin (by omega) kall⟩ hA _ _ _ _ _ L₁
  .obtain⟨sx,hx⟩:=hx
   have e:x≠n:=fun e=>by rw[e,hn]at hx;cases hx
   exact⟨(upd_ne _ _ e).trans (upd_ne _ _ e),fun hm =>.inl hm⟩
  .rcases xiE hx with⟨e1,e2⟩|⟨hx,e⟩
   .refine .inl ⟨?_,e1,e2⟩
    unfold Th.start Th.went
    rw[hL]
   .have hx:upd R.Inb n (some (kJ c)) x=some sx:=hx
    rw[upd_ne _ _ e]at hx
    exact .inr ⟨hx,fun h'=>by rw[hb]at h';cases h'⟩
  .have:=(List.getElem?_eq_some_iff.1 ((L₀.th k tk gk h1 h2).port h3).pp).1
   have e:ps.length=gk.p:=e
   omega
 case done=>
  intro d w' ws k sw F'' gx h1 h2 h3 N hKd ax fb w₃ e3 e4 e5
  have hL:p.orc = []:=h1.symm.trans N.fin
  have ip:(w'.setChan c.done 1 #[] false (k+1) (k+1) false).heap.size=w'.heap.size:=size_setChan _ _ _ _ _ _ _ _
  have Am:Keeps (fun b=>b=c.done) w' (w'.setChan c.done 1 #[] false (k+1) (k+1) false):=⟨rfl,rfl,rfl,Nat.le_of_eq ip.symm,fun b _ hb=>heap_setChan_ne w' _ _ _ _ _ _ (Ne.symm hb)⟩
  have k3:Keeps (fun b=>b=c.tb\/b=c.done) w' w₃:=(Am.mono fun b hb =>.inr hb).trans e3 fun b hb =>.inl (.inl hb)
  have k4:Keeps (fun b=>b=c.tb\/b=c.done) ws w₃:=hKd.trans k3 fun b hb =>.inl hb
  have kall:=turnK ld fb k3
  have B8:W.heap.size<=w'.heap.size:=fb.keeps.size
  have Hi:W.heap.size<=w₃.heap.size:=Nat.le_trans B8 k3.size
  have E':=EM.gone (j:=n) L₀.n0
  have C9:c.done<w'.heap.size:=by omega
  have w6:OpenC c.done 1 w₃:=⟨k+1,(e3.block _ (by rw[ip];exact C9) (by rw[c1];omega)).trans (Go.Conc.heap_setChan_self w' (Array.getElem?_eq_getElem C9) _ _ _ _ _ _)⟩
  refine Runs.known E' fun lx =>?_
  have az:t.start p r0 s.nc = {t with begun:=true,busy:=false,rv:=p.rv,tf:=p.tf,r0:=r0,cap:=s.nc,told:=p.tf,orc :=[]}:=by
   unfold Th.start Th.went
   rw[hL]
  have T':LkT (kdS kd ps.length c.pb c.ask c.grant c.done c.wc mc cc W.heap.size w₃.heap.size) (ps ++ [c]) ⟨fun b =>∃x,kdS kd ps.length c.pb c.ask c.grant c.done c.wc mc cc W.heap.size w₃.heap.size b=some x,⟨F.A.tok,fun m=>if m=s.nc then some c.wb else F.A.cap m⟩⟩ (((R.born c).more c n).gone n) (n+1) w₃ i (t.start p r0 s.nc) ⟨c,ps.length,n,gx,sw,F'',ws⟩:=by
   rw[az]
   refine xiD (by rw[c1];exact kold _ _ _ T.kt) (by rw[c8];exact kold _ _ _ T.kq) (c10.trans T.self) (by rw[c1];exact T.tok) e4 ⟨kq,?_⟩ Cm (kqd _) w6 N k4 (kpb _) (tol h3) rfl rfl hc rfl
   rw[c8]
   exact(kall.block _ Fa fun z=>by
    rcases z with z|z|z
    .exact xM T.kq T.kt (r_ne (by omega)) z
    .exact(nq hF.2.2.2.1) z.symm
    .omega).trans hq
  have im:w₃.heap[c.wb]? = some (vP pre p.rv):=by
   obtain⟨r',y1⟩:=fb.work pre c.r0 kww
   obtain⟨fg,y2⟩:=N.hres
   have y4:WorkAt c fg (resV p.rv) w':=WorkAt.same y2 (hKd.block _ (Array.getElem?_eq_some_iff.1 y2.2).1 fun z=>z.elim (by rw[c1];exact nt hF.2.2.2.1) (by omega))
   obtain⟨rfl,rfl⟩:=Yg y1 y4
   exact WorkAt.obj (WorkAt.same y4 (k3.block _ (Array.getElem?_eq_some_iff.1 y4.2).1 fun z=>z.elim (by rw[c1];exact nt hF.2.2.2.1) (by omega)))
  have L₁:=L₀.put (t':=t.start p r0 s.nc) (g':=⟨c,ps.length,n,gx,sw,F'',ws⟩) (F':=⟨fun b =>∃x,kdS kd ps.length c.pb c.ask c.grant c.done c.wc mc cc W.heap.size w₃.heap.size b=some x,⟨F.A.tok,fun m=>if m=s.nc then some c.wb else F.A.cap m⟩⟩) (kd':=kdS kd ps.length c.pb c.ask c.grant c.done c.wc mc cc W.heap.size w₃.heap.size) (ps':=ps ++ [c]) (nc':=s.nc+1) ht hg E' (Nat.le_succ n) kall (A1 Hi) (fun b=>Iff.rfl) (kold _) hA (fun _ _ h=>xbG h) hKK ((hKK w₃).1 lx) hSt (Bw _)
   hM (fun x _ hx =>?_) (fun x sx hx =>?_) (fun h'=>by rw[az]at h';cases h') (fun _ k tk gk ae h1 h2 h3 e =>?_) T' L₀.tokN hC
  .exact h _ _ w₃ ⟨rfl,dB rfl,by rw[dB hL];exact im,fin Hi kall⟩ hA _ _ _ _ _ L₁
  .obtain⟨sx,hx⟩:=hx
   have e:x≠n:=fun e=>by rw[e,hn]at hx;cases hx
   exact⟨(upd_ne _ _ e).trans (upd_ne _ _ e),fun hm=>⟨.inl hm,e⟩⟩
  .obtain⟨hx,e⟩:=xeF hx
   have hx:upd R.Inb n (some (kJ c)) x=some sx:=hx
   rw[upd_ne _ _ e]at hx
   exact .inr ⟨hx,fun h'=>by rw[hb]at h';cases h'⟩
  .have:=(List.getElem?_eq_some_iff.1 ((L₀.th k tk gk h1 h2).port h3).pp).1
   have e:ps.length=gk.p:=e
   omega
end Go.Proofs.YtfagfflkgmcnpaaGreatDoor.Mx
namespace Go.Proofs.YtfagfflkgmcnpaaGreatDoor.Mx
open Go Go.Conc Lx Kx Tx
open Go.ConcN (sumTo upd sumTo_upd upd_ne upd_same)
variable{Goal:Machine->Trace->Prop}{kd kd':Kd}{ps ps':List WC}{F F' Fs:Fo}{R R':Rg}{n n' nc:Nat}{w w' ws w₃:World}{i:Nat}{t:Th}{g:Gh}{ts:List Th}{gs:List Gh}{s s':MS}{fr caller:Frame}{cs:List Frame}
abbrev AskT:=Nat->List Int->MS->Option (List Int×MS)
theorem prim_ok{f:FuncId}{vs:Array Value}{Post:PostT}(h:PrimM f s F w vs s' Post)(hk : ∀rv F' w',Post rv F' w'->F.A.le F'.A->OkM Goal s' F' (caller.finish rv) cs w'):OkM Goal s F (Frame.enter Tryz.prog f vs .normal) (caller::cs) w:=by
 cases h with
 | new hR=>exact xiC hR hk
 | busy hR ht am=>exact xg3 hR ht am hk
 | pendN hR ht am hb=>exact xeA hR ht am hb hk
 | pendS hR ht am hb ho=>exact xeB hR ht am hb ho hk
 | toldN hR ht am hb hc ho=>exact xeC hR ht am hb hc ho hk
 | toldS hR ht am hb hc ho hl=>exact xeD hR ht am hb hc ho hl hk
 | close hR ht am hw=>exact xeE hR ht am hw hk
 | grant hR ht am hb ho hv hw=>exact xeG hR ht am hb ho hv hw hk
 | start hR ht am hb hc hp hV hF ae hl dh Ao B0 uo Af ao=>exact xeH hR ht am hb hc hp hV hF ae hl dh Ao B0 uo Af ao hk
theorem xeI{P:Program}{b:Frame}{a:Act}{w:World}{fn:Func}{todo:List Item}{v:Value}(hn:b.kind = .normal)(hd:a.defers = [])(hf:P.funcs[b.fn]? = some fn)(hi:P.inits.idxOf? b.fn=none)
  (hr:(results fn a.tmps).run P w = .ok v w):stepG P true (G {b.at a todo with mode :=.returning} []) w = .ended (.done v) w (seen P b.fn ((results fn a.tmps).events P w #[])):=by
 simp[G,stepG,unwind,doReturn,Frame.at,hn,hd,hf,hr,hi,GStep.after]
def xeJ(Post:Value->World->Prop)(m:Machine)(T:Trace):Prop :=∃N last o w' t',runNT Tryz.prog (N+1) m T=(.ended o w',t')/\runN Tryz.prog N m = .next last/\step Tryz.prog last = .ended o w'/\Go.Conc.Good Tryz.prog Post last o w' t'
theorem end_ok{Post:Value->World->Prop}{b:Frame}{a:Act}{fn:Func}{todo:List Item}{v:Value}(hn:b.kind = .normal)(hd:a.defers = [])(hf : Tryz.prog.funcs[b.fn]? = some fn)(hi : Tryz.prog.inits.idxOf? b.fn=none)
  (hr : ∀d,(results fn a.tmps).run Tryz.prog (w.at d) = .ok v (w.at d)/\ ∀e∈seen Tryz.prog b.fn ((results fn a.tmps).events Tryz.prog (w.at d) #[]),EvOff F w.heap.size e) (hP : ∀d,Post v (w.at d)) (hb : ∀t∈s.ths,t.busy=false):OkM (xeJ Post) s F {b.at a todo with mode :=.returning} [] w:=by
 intro gs ps kd R n L d ak T sl q Az ha C
 have hI : ∀i,i≠0->R.Inb i=none:=fun i hi=>by
  cases e:R.Inb i with
  | none=>rfl
  | some sx=>
   obtain⟨k,tk,gk,h1,h2,h3,_⟩:=L.inb i sx e
   rw[hb tk (List.mem_of_getElem? h1)]at h3
   cases h3
 obtain⟨hL,hPa⟩:=ring_end C L.env.main hI
 refine⟨0,_,T,rfl,?_⟩
 refine beside_ends (P:= Tryz.prog) (Shun:=fun _=>False) (B:=w.heap.size) (D:=fun _ _ es =>∀e∈es,EvL (fun _=>False) w.heap.size e) (Post:=Post) (sl:=sl) (n:=0) (fun _ _ _ h=>h) ha hL hPa ?_
 rintro w₁ ⟨d',rfl⟩
 refine⟨rfl,v,_,xeI hn hd hf hi (hr d').1,fun e he =>?_,hP d'⟩
 have:=xc8 (Still:=fun _=>False) (fun l hl=>hl.elim) (dJ _) ((hr d').2 e he)
 exact⟨fun x hx hs=>hs.elim,this.2.1,this.2.2.1,this.2.2.2⟩
def rg0:Rg:=⟨fun _=>True,fun _=>False,fun g=>g=0,fun _=>none⟩
def fo0:Fo:=⟨fun _=>False,⟨fun _=>none,fun _=>none⟩⟩
theorem lk0(W:World):Lk [] [] [] (fun _=>none) 0 fo0 rg0 1 W where
 env:=⟨rfl,rfl,fun _ _ _ _=>trivial,fun _ _ _ _ h=>h.elim,fun _ h=>h.elim,fun _ _ _ _ h=>by cases h⟩
 n0:=by omega
 lt:=fun _ h=>h.elim
 has:=fun b=>⟨fun h=>h.elim,fun⟨_,h⟩=>by cases h⟩
 K:=fun w=>⟨fun _ _ h=>by simp at h,fun _=>trivial⟩
 now:=fun _ h=>by simp at h
 St:=fun l=>⟨fun h=>h.elim,fun⟨_,h,_⟩=>by simp at h⟩
 pk:=fun _ _ h=>by simp at h
 len:=rfl
 inb:=fun _ _ h=>by cases h
 jinj:=fun _ _ _ _ _ _ h=>by simp at h
 pinj:=fun _ _ _ _ _ _ h=>by simp at h
 th:=fun _ _ _ h=>by simp at h
 tokN:=fun _ _=>rfl
 capN:=fun _ _=>rfl
theorem top_run{Post:Value->World->Prop}{fr:Frame}(W:World)(plans:List Plan)(h:OkM (xeJ Post) ⟨[],plans,0⟩ fo0 fr [] W) :
  ∃M last o w' t',runNT Tryz.prog (M+1) (solo (G fr []) W) #[]=(.ended o w',t')/\runN Tryz.prog M (solo (G fr []) W) = .next last/\step Tryz.prog last = .ended o w'/\Go.Conc.Good Tryz.prog Post last o w' t':=by
 have H:=h [] [] (fun _=>none) rg0 1 (lk0 W)
 have C:xfB rg0 W.heap.size #[] #[G fr []] (W.at W.drawn) (fun _=>0):=ring_begin (fun _ z=>z.elim) (leavers_one _ _) (past_nil.mono (Nat.zero_le _)) trivial
 obtain⟨N,m',T',r,N₂,last,o,w',t',e1,e2,e3,e4⟩:=H W.drawn #[G fr []] #[] none (fun _=>0) rfl rfl C
 rw[solo_eq_crowd]
 have hW:W.at W.drawn=W:=rfl
 rw[hW]at r
 refine⟨N+N₂,last,o,w',t',?_,?_,e3,e4⟩
 .rw[Nat.add_assoc,runNT_add,r];exact e1
 .rw[runN_add,<- runNT_fst Tryz.prog _ _ #[],r];exact e2
end Go.Proofs.YtfagfflkgmcnpaaGreatDoor.Mx
namespace Go.Proofs.YtfagfflkgmcnpaaGreatDoor.Mx
open Go Go.Conc Lx Kx Tx
variable{Goal:Machine->Trace->Prop}{F F' F1:Fo}{w w':World}{s s':MS}{g:Nat}{o:Obj}
structure Xp where
 Rep:MS->Fo->World->Prop
 D:Fo->World->World->Array Event->Prop
 prim:FuncId->MS->Fo->World->Array Value->MS->PostT->Prop
 rep : ∀ {s F w},Rep s F w->RepM s F w
 stable : ∀ {s F w w'},Rep s F w->(∀b,F b->w'.heap[b]? = w.heap[b]?)->Rep s F w'
 rRep : ∀ {s F w d},Rep s F w->Rep s F (w.at d)
 rd:Nat->Prop
 std:World->Prop
 rdLt : ∀ {w},std w ->∀b,rd b->b<w.heap.size
 stdK : ∀ {w w'},std w->(∀b,rd b->w'.heap[b]? = w.heap[b]?)->std w'
 rdOff : ∀ {s F w},Rep s F w ->∀b,rd b ->¬F b
 dOwn : ∀ {F:Fo} {w w' es},Keeps (fun b=> ¬F b/\ ¬rd b) w w'->(∀e∈es,EvOff F w.heap.size e)->D F w w' es
 primSome : ∀ {f s F w vs s' Post},prim f s F w vs s' Post ->∃rv F' w',Post rv F' w'/\F.A.le F'.A
 mkP : ∀ {f s F w vs s' P0 Post},Rep s F w->std w->PrimM f s F w vs s' P0->(∀rv F' w',P0 rv F' w' ->∀b,rd b ->¬F' b/\w'.heap[b]? = w.heap[b]?)->(∀rv F' w',P0 rv F' w'->Rep s' F' w'->Post rv F' w')->prim f s F w vs s' Post
def JX(ask:Nat->List Int->MS->Option (List Int×MS))(X:Xp):KBase Tryz.prog MS where
 base:=ZV wc0
 step:=fun p s=>match p with
  | .ask k l=>ask k l s
  | _=>none
 Rep:=X.Rep
 lt:=fun h=>(X.rep h).lt
 stable:=X.stable
 main:=true
 RF:=fun F w F₁ w₁=>F₁=F/\ ∃d,w₁=w.at d
 rRefl:=fun F w=>⟨rfl,w.drawn,rfl⟩
 rKeeps:=fun h=>by obtain⟨_,d,rfl⟩:=h;exact⟨rfl,rfl,rfl,dJ _,fun _ _ _=>rfl⟩
 rNew:=fun h b hb =>.inl (h.1▸hb)
 rRep:=fun h r=>by obtain⟨rfl,d,rfl⟩:=r;exact X.rRep h
 rTok:=fun h=>by rw[h.1]
 D:=X.D
 rd:=X.rd
 std:=X.std
 rdLt:=X.rdLt
 stdK:=X.stdK
 rdOff:=X.rdOff
 dOwn:=X.dOwn
 meth:=fun {name args p s s' x F w vs} h h'=>by
  cases p<;>first|(cases h';done)|exact(Ya h).elim
 bad:=badN
 some_:=⟨Tryz.prog.funcs.size,by kernel_rfl⟩
 prim:=X.prim
 primSome:=X.primSome
theorem Kg{f:FuncId}{vs:Array Value}{P0:PostT}(h:PrimM f s F w vs s' P0){rv:Value}(hp:P0 rv F' w'):RepM s' F' w':=by
 cases h with
 | new hR=>obtain⟨tb,_,_,h⟩:=hp;exact h.rep
 | busy hR ht hk=>exact hp.2.rep
 | pendN hR ht hk hb=>exact hp.2.rep
 | pendS hR ht hk hb ho=>exact hp.2.rep
 | toldN hR ht hk hb hc ho=>exact hp.2.rep
 | toldS hR ht hk hb hc ho hl=>exact hp.2.rep
 | close hR ht hk hw=>exact hp.2.rep
 | grant hR ht hk hb ho hv hw=>exact hp.2.2.rep
 | start hR ht hk hb hc Bx hV hF ae hl dh Ao B0 uo Af ao=>exact hp.2.2.2.rep
def xp0:Xp where
 Rep:=RepM
 D:=fun F w w' es=>Keeps (fun b=> ¬F b) w w'/\ ∀e∈es,EvOff F w.heap.size e
 prim:=fun f s F w vs s' Post =>∃P0,PrimM f s F w vs s' P0/\ ∀rv F' w',P0 rv F' w'->RepM s' F' w'->Post rv F' w'
 rep:=fun h=>h
 stable:=fun h hs=>(JN (fun _ _ _=>none)).stable h hs
 rRep:=fun h=>⟨h.lt,h.tok,h.cap⟩
 rd:=fun _=>False
 std:=fun _=>True
 rdLt:=fun _ _ h=>h.elim
 stdK:=fun _ _=>trivial
 rdOff:=fun _ _ h=>h.elim
 dOwn:=fun h h'=>⟨h.mono fun b hb=>hb.1,h'⟩
 primSome:=fun⟨P0,h,hk⟩=>by
  obtain⟨rv,F',w',h1,h2⟩:=Xs h
  exact⟨rv,F',w',hk _ _ _ h1 (Kg h h1),h2⟩
 mkP:=fun _ _ h _ hk=>⟨_,h,hk⟩
theorem Yh{rd N S:Nat->Prop}(h:After s' F w F1 w' N S)(hr : ∀b,rd b ->¬F b)(hl : ∀b,rd b->b<w.heap.size)(hN : ∀b,N b ->¬rd b)(hS : ∀b,S b ->¬rd b) : ∀b,rd b ->¬F1 b/\w'.heap[b]? = w.heap[b]? :=fun b hb=>
 ⟨fun hf=>(h.new b hf).elim (hr b hb) fun x=>x.elim (fun x=>hN b x hb) fun x=>by have:=hl b hb;omega,h.keeps.block b (hl b hb) fun x=>x.elim (hr b hb) fun x=>hS b x hb⟩
/-! ### a variable: nobody writes it, and it may be read -/
structure RepG(g:Nat)(s:MS)(F:Fo)(w:World):Prop where
 m:RepM s F w
 off : ¬F g
def xpG(g:Nat)(o:Obj):Xp where
 Rep:=RepG g
 D:=fun F w w' es=>Keeps (fun b=> ¬F b/\ ¬b=g) w w'/\ ∀e∈es,EvOff F w.heap.size e
 prim:=fun f s F w vs s' Post=>RepG g s F w/\w.heap[g]? = some o/\ ∃P0,PrimM f s F w vs s' P0/\(∀rv F' w',P0 rv F' w' ->¬F' g/\w'.heap[g]? = w.heap[g]?)/\ ∀rv F' w',P0 rv F' w'->RepG g s' F' w'->Post rv F' w'
 rep:=fun h=>h.m
 stable:=fun h hs=>⟨(JN (fun _ _ _=>none)).stable h.m hs,h.off⟩
 rRep:=fun h=>⟨⟨h.m.lt,h.m.tok,h.m.cap⟩,h.off⟩
 rd:=fun b=>b=g
 std:=fun w=>w.heap[g]? = some o
 rdLt:=fun h b hb=>by subst hb;exact(Array.getElem?_eq_some_iff.1 h).1
 stdK:=fun h hs=>(hs g rfl).trans h
 rdOff:=fun h b hb=>by subst hb;exact h.off
 dOwn:=fun h h'=>⟨h,h'⟩
 primSome:=fun⟨hR,ho,P0,h,hT,hk⟩=>by
  obtain⟨rv,F',w',h1,h2⟩:=Xs h
  exact⟨rv,F',w',hk _ _ _ h1 ⟨Kg h h1,(hT _ _ _ h1).1⟩,h2⟩
 mkP:=fun hR ho h hT hk=>⟨hR,ho,_,h,fun rv F' w' hp=>hT rv F' w' hp g rfl,hk⟩
def OG(Goal:Machine->Trace->Prop)(ask:AskT)(g:Nat)(o:Obj):KOk (JX ask (xpG g o)) where
 Ok:=fun s F fr cs w=> ¬F g->w.heap[g]? = some o->OkM Goal s F fr cs w
 Cs:=fun _=>True
 csCons:=fun _ _=>trivial
 csTail:=fun _ _=>trivial
 okStep:=fun {s F fr cs w} hb h hg ho=>xiA fun d=>by
  obtain⟨oz,cs',w',es,h2,⟨hK,bt⟩,_,h5⟩:=h F (w.at d) ⟨rfl,d,rfl⟩
  have ao:g<w.heap.size:=(Array.getElem?_eq_some_iff.1 ho).1
  exact⟨oz,cs',w',es,h2,hK.mono fun b hb=>hb.1,bt,h5 hg ((hK.block g ao fun x=>x.2 rfl).trans ho)⟩
 okRely:=fun {s F fr cs w F₁ w₁} h hr=>by
  obtain⟨rfl,d,rfl⟩:=hr
  exact fun hg ho=>xiB (h hg ho)
 does:=fun {name args p s s' x F w f recv rv vs} h h'=>by
  cases p<;>first|(cases h';done)|exact(Ya h).elim
 prim:=fun {f s F w vs s' Post} ⟨hR,_,P0,h,hT,J6⟩ caller cs hp hk hg ho=>prim_ok h fun rv F1 w' h1 bu=>
  hk rv F1 w' (J6 _ _ _ h1 ⟨Kg h h1,(hT _ _ _ h1).1⟩) bu (hT _ _ _ h1).1 ((hT _ _ _ h1).2.trans ho)
end Go.Proofs.YtfagfflkgmcnpaaGreatDoor.Mx
namespace Go.Proofs.YtfagfflkgmcnpaaGreatDoor.Kx
open Go Go.Conc Lx
section
variable{P:Program}{σ:Type}{J:KBase P σ}{Γ:xK}
theorem xiH (hΓ : ∀f m,Γ f=some m->xx J f m) (hq:OpsQuiet P) (hr:Ze P) (hm:P.follows .mixedOrders=true) {f:FuncId} {fn:Func} (bc:J.bad f=false) (hf:P.funcs[f]? = some fn) (be:(fn.name == "runtime.NumGoroutine")=false) (an:fn.body.isSome=true) (n:Fu) {args:List V} {H:Heap} {e:Env} {w:World} {s s':σ} {F:Fo} {vs:List Value} (E:Emb (J.pv F) e H w) (hv:allSome (denV (J.pv F) e) args=some vs) (hR:J.Rep s F w) (hF : ∀b,Own false e H b ->¬F b) (hO:J.Off e H w) {v:V} {H':Heap} (aa:(evF P Γ n fn args H).run J.step s=some ((v,H'),s')) (O:KOk J)
  (ni : ∀a' todo F' w',F.A.le F'.A->a'.defers = []->(∀F₁ w₁,J.RF F' w' F₁ w₁ ->∃rv e2,(results fn a'.tmps).run P w₁ = .ok rv w₁/\denV (J.pv F₁) e2 v=some rv/\(∀ev∈seen P f ((results fn a'.tmps).events P w₁ #[]),EvOff F₁ w₁.heap.size ev)/\Emb (J.pv F₁) e2 H' w₁/\J.Rep s' F₁ w₁/\Keeps (fun b=>Own true e H b\/F b) w w₁)->O.Ok s' F' {(base f).at a' todo with mode :=.returning} [] w') :
  O.Ok s F (Frame.enter P f vs.toArray .normal) [] w:=by
 obtain⟨c,hb⟩:=Option.isSome_iff_exists.1 an
 simp only[evF,hb,E.len]at aa
 have aj:=xV _ _ _ hv
 rw[enter_at _ hf hb]
 haveI:=OffS.of hR hO
 refine vi (fn:=f) (S0:=fun q b=>Own q e H b\/F b) (w0:=w) (e0:=e) hΓ hq hm n c _ _ (fun ex a' s1 F' w'=>s1=s'/\(ex = .normal\/ex = .ret)/\ ∃e' ac u,resV P fn ac=some u/\finish e.length u ac.heap=some (v,H')/\CfgK J (fun q b=>Own q e H b\/F b) w e e' ac s1 F' a' w')
  (fun ex e' ac s1 F' a' w' hk C =>?_) e ⟨Lx.begun fn args,H⟩ s F _ w ?_ aa (O.from F.A) (base f) [] [] ⟨rfl,bc⟩ rfl ?_ (Toks.le.refl _)
 .have lk : ∃u,resV P fn ac=some u/\ ∃r',finish e.length u ac.heap=some r'/\r'=(v,H')/\s1=s':=by
   cases ex with
   | exit i=>simp[endF,T.run]at hk
   | normal=>
    simp only[endF]at hk
    split at hk
    .rename_i u hu
     split at hk
     .rename_i r' ct
      simp only[T.run,oI,dI]at hk
      exact⟨u,hu,r',ct,hk.1,hk.2⟩
     .cases hk
    .cases hk
   | ret=>
    simp only[endF]at hk
    split at hk
    .rename_i u hu
     split at hk
     .rename_i r' ct
      simp only[T.run,oI,dI]at hk
      exact⟨u,hu,r',ct,hk.1,hk.2⟩
     .cases hk
    .cases hk
  obtain⟨u,hu,r',ct,rfl,rfl⟩:=lk
  refine⟨rfl,?_,e',ac,u,hu,ct,C⟩
  cases ex with
  | exit i=>simp[endF,T.run]at hk
  | normal=>exact .inl rfl
  | ret=>exact .inr rfl
 .refine⟨⟨E,?_,fun t u hu =>?_,rfl⟩,hR,hF,Keeps.refl _ w,fun q b hb =>.inl hb,Ext.refl e⟩
  .simp[Lx.begun,aj];omega
  .obtain⟨_,hu⟩:=vR hu
   rcases jp args 0 .tip t u hu with⟨_,h1⟩|h1
   .rw[Nat.sub_zero]at h1
    have ht:=(List.getElem?_eq_some_iff.1 h1).1
    obtain⟨y,h2,h3⟩:=yD _ _ _ hv t _ h1
    refine⟨y,?_,h2⟩
    rw[Array.getElem?_append_left (by simpa[aj]using ht)]
    simpa using h3
   .rw[kr]at h1;cases h1
 .rintro ex a' s1 F' w' ⟨rfl,hex,e',ac,u,hu,gn,C⟩
  have leave : ∀todo,(O.from F.A).Ok s1 F' {(base f).at a' todo with mode :=.returning} [] w':=fun todo hA=>ni a' todo F' w' hA C.rel.defers fun F₁ w₁ h₁=>by
   have C1:=relyK C h₁
   obtain⟨rv,h1,h2⟩:=Zc (P:=P) C1.rel hu
   obtain⟨e2,h3,h4,h5,h6⟩:=qp C1.rel.emb h2 C1.ext gn
   exact⟨rv,e2,h1,h4,fun ev he=>hr (J.at F₁).toPortB C1.rel hu F₁ C1.disj ev (mem_seen he),h5,C1.rep,C1.keeps⟩
  rcases hex with rfl|rfl
  .exact vE bc (fun _=>stepG_end) (leave [])
  .exact leave
end
end Go.Proofs.YtfagfflkgmcnpaaGreatDoor.Kx
namespace Go.Proofs.YtfagfflkgmcnpaaGreatDoor.Mx
open Go Go.Conc Lx Kx Tx
theorem rep0(plans:List Plan)(W:World):RepM ⟨[],plans,0⟩ fo0 W:=⟨fun _ h=>h.elim,fun _ _=>rfl,fun _ _=>rfl⟩
structure WinK(w:World)(b:Nat)(k:Blk):Prop where
 win : ∃off,k.win=some off/\(k.virt=true\/(b<w.heap.size/\ ∀ (v:Value) cs,denL v [] k.real=some cs ->∀j u,cs[j]? = some u->w.cell? ⟨b,off+j,none⟩=some u))
 ok:k.cells = []
theorem Kh(pv:Value)(e:Lx.Env) : ∀ {l:List C},l.all wU=true ->∃us,denL pv e l=some us
 | [],_=>⟨[],by simp[denL]⟩
 | c::l,hf=>by
  simp only[List.all_cons,dM]at hf
  obtain⟨us,hu⟩:=Kh pv e hf.2
  have hc : ∃v,den pv e c=some v:=by cases c<;>first|(simp[wU]at hf;done)|exact⟨_,by simp[den];rfl⟩
  obtain⟨v,hv⟩:=hc
  exact⟨v::us,by simp only[denL,hv,hu]⟩
theorem xaF{k:Blk}{off:Nat}(h:k.win=some off):k.real.all wU=true:=by
 unfold Blk.real
 cases ht:k.tab with
 | none=>rw[Blk.win_none ht]at h;cases h
 | some t=>
  cases t<;>first
   | exact Vg _
   | (unfold Blk.win at h;rw[ht]at h;cases h)
theorem xg6(pv:Pv)(w:World)(l:List (Nat×Blk))(h : ∀p∈l,WinK w p.1 p.2):Emb pv (l.map fun p=>(p.1,0)) (l.map fun p=>some p.2) w:=by
 have at_ : ∀i k,blkAt (l.map fun p=>some p.2) i=some k ->∃p,l[i]? = some p/\p.2=k:=by
  intro i k hk
  rw[xI,List.getElem?_map,oM]at hk
  obtain⟨p,hp,he⟩:=hk
  exact⟨p,hp,by simpa using he⟩
 have uy : ∀i k,blkAt (l.map fun p=>some p.2) i=some k->k.win.isSome=true:=fun i k hk=>by
  obtain⟨p,hp,rfl⟩:=at_ i k hk
  obtain⟨off,h1,_⟩:=(h p (List.mem_of_getElem? hp)).win
  rw[h1];rfl
 refine⟨by simp,fun i k hk =>?_,fun i j k k' r r' hk am _ _ _ _ _ =>.inr ⟨uy i k hk,uy j k' am⟩,fun i k hk =>?_⟩
 .obtain⟨p,hp,rfl⟩:=at_ i k hk
  obtain⟨off,h1,h2⟩:=(h p (List.mem_of_getElem? hp)).win
  obtain⟨cs,bk⟩:=Kh pv.val (l.map fun p=>(p.1,0)) (xaF h1)
  have dj : ∀t,p.2.tab=some t->t.isTok=false:=fun t ht=>by
   unfold Blk.win at h1
   rw[ht]at h1
   cases t<;>first|(cases h1;done)|rfl
  refine⟨(p.1,0),cs,by rw[List.getElem?_map,hp];rfl,bk,Tk.of dj,?_⟩
  rcases h2 with h2|⟨h2,h3⟩
  .exact .inl h2
  .right
   have hm:p.2.mapped=none:=by
    cases hm:p.2.mapped with
    | none=>rfl
    | some m=>rw[(Blk.mapped_win hm).1]at h1;cases h1
   rw[hm,h1]
   exact⟨h2,h3 pv.val cs (by rw[<- bk];exact Zr (xaF h1))⟩
 .obtain⟨p,hp,rfl⟩:=at_ i k hk
  intro t _ _
  exact(h p (List.mem_of_getElem? hp)).ok
theorem ownW{w:World}{l:List (Nat×Blk)}(hw : ∀p∈l,WinK w p.1 p.2)(b:Nat) : ¬Own true (l.map fun p=>(p.1,0)) (l.map fun p=>some p.2) b:=by
 rintro ⟨i,k,r,h1,_,_,_,h2⟩
 rw[xI,List.getElem?_map,oM]at h1
 obtain⟨p,hp,he⟩:=h1
 have he:p.2=k:=by simpa using he
 subst he
 obtain⟨off,h3,_⟩:=(hw p (List.mem_of_getElem? hp)).win
 rw[h2 rfl]at h3;cases h3
theorem rep0G{g:Nat}(plans:List Plan)(W:World):RepG g ⟨[],plans,0⟩ fo0 W:=⟨rep0 plans W,fun h=>h⟩
theorem xiI {g:Nat} {o:Obj} {ask:AskT} {Γ:xK} {f:FuncId} {fn:Func} (hΓ : ∀f m,Γ f=some m->xx (JX ask (xpG g o)) f m) (bc:badN f=false) (hf : Tryz.prog.funcs[f]? = some fn) (be:(fn.name == "runtime.NumGoroutine")=false) (an:fn.body.isSome=true) (hi : Tryz.prog.inits.idxOf? f=none) (n:Fu) {plans:List Plan}
  {args:List V} (l:List (Nat×Blk)) {W:World} (hw : ∀p∈l,WinK W p.1 p.2) {vs:List Value} (hv:allSome (denV (ZV wc0).pv.val (l.map fun p=>(p.1,0))) args=some vs) {H':Heap} {s':MS}
  (aa:(evF Tryz.prog Γ n fn args (l.map fun p=>some p.2)).run (JX ask (xpG g o)).step ⟨[],plans,0⟩=some ((.c (.bool true),H'),s')) (hb : ∀t∈s'.ths,t.busy=false) (ho:W.heap[g]? = some o) :
  ∃M last o w' t',runNT Tryz.prog (M+1) (solo (G (Frame.enter Tryz.prog f vs.toArray .normal) []) W) #[]=(.ended o w',t')/\runN Tryz.prog M (solo (G (Frame.enter Tryz.prog f vs.toArray .normal) []) W) = .next last/\step Tryz.prog last = .ended o w'/\Go.Conc.Good Tryz.prog (fun v w'=>v = .bool true/\Keeps (fun _=>False) W w') last o w' t':=by
 refine top_run W plans ?_
 have E:=xg6 ((JX ask (xpG g o)).pv fo0) W l hw
 refine xiH (J:=JX ask (xpG g o)) (f:=f) (F:=fo0) hΓ yY wa (by kernel_rfl) bc hf be an n E hv (rep0G plans W) (fun b _ h=>h) ⟨fun b hb=>(ownW hw b hb).elim,ho⟩ aa (OG (xeJ fun v w'=>v = .bool true/\Keeps (fun _=>False) W w') ask g o) (fun a' todo F' w' hA hd h uq gi =>?_) (fun h=>h) ho
 have key : ∀d,(results fn a'.tmps).run Tryz.prog (w'.at d) = .ok (.bool true) (w'.at d)/\(∀ev∈seen Tryz.prog f ((results fn a'.tmps).events Tryz.prog (w'.at d) #[]),EvOff F' w'.heap.size ev)/\Keeps (fun _=>False) W (w'.at d):=fun d=>by
  obtain⟨rv,e2,h1,h2,h3,h4,h5,h6⟩:=h F' (w'.at d) ⟨rfl,d,rfl⟩
  have e:rv = .bool true:=(Option.some.inj h2).symm
  subst e
  exact⟨h1,h3,h6.mono fun b hb=>hb.elim (fun h=>ownW hw b h) fun h=>h.elim⟩
 exact end_ok (s:=s') (F:=F') rfl hd hf hi (fun d=>⟨(key d).1,(key d).2.1⟩) (fun d=>⟨rfl,(key d).2.2⟩) hb
end Go.Proofs.YtfagfflkgmcnpaaGreatDoor.Mx
namespace Go.Proofs.YtfagfflkgmcnpaaGreatDoor.Mx
open Go Go.Conc Lx Kx Tx
def eqZ:List Int->List Int->Bool
 | [],[]=>true
 | x::l,y::m=>decide (x=y)&&eqZ l m
 | _,_=>false
theorem YM : ∀ {l m:List Int},eqZ l m=true->l=m
 | [],[],_=>rfl
 | x::l,y::m,h=>by
  simp only[eqZ,dM,decide_eq_true_eq]at h
  rw[h.1,YM h.2]
 | [],_::_,h=>by cases h
 | _::_,[],h=>by cases h
def Ki:List IntKind->List C->Option (List Int)
 | [],[]=>some []
 | k::ks,.int k' n::l=>if k=k' then(Ki ks l).map (n :: ·)else none
 | _,_=>none
theorem Zm : ∀ {ks:List IntKind} {l:List C} {m:List Int},Ki ks l=some m->l=List.zipWith C.int ks m/\m.length=ks.length
 | [],[],m,h=>by cases h;exact⟨rfl,rfl⟩
 | k::ks,.int k' n::l,m,h=>by
  unfold Ki at h
  split at h
  .rename_i hk
   subst hk
   rw[oM]at h
   obtain⟨m',h1,rfl⟩:=h
   obtain⟨h2,h3⟩:=Zm h1
   exact⟨by rw[h2];rfl,by simp[h3]⟩
  .cases h
 | [],_::_,m,h=>by cases h
 | k::ks,[],m,h=>by cases h
 | k::ks,.bool _::l,m,h=>by cases h
 | k::ks,.nilp::l,m,h=>by cases h
 | k::ks,.ptr _ _::l,m,h=>by cases h
 | k::ks,.nils::l,m,h=>by cases h
 | k::ks,.sl _ _ _ _::l,m,h=>by cases h
 | k::ks,.slg _ _ _::l,m,h=>by cases h
 | k::ks,.pr _ _ _ _ _::l,m,h=>by cases h
 | k::ks,.slw _ _ _ _ _::l,m,h=>by cases h
 | k::ks,.slr _ _::l,m,h=>by cases h
 | k::ks,.slv _ _ _ _::l,m,h=>by cases h
 | k::ks,.slx _ _ _ _ _ _::l,m,h=>by cases h
 | k::ks,.fn _ _::l,m,h=>by cases h
 | k::ks,.meth _ _::l,m,h=>by cases h
 | k::ks,.nilf::l,m,h=>by cases h
 | k::ks,.nili::l,m,h=>by cases h
 | k::ks,.nilm::l,m,h=>by cases h
 | k::ks,.port::l,m,h=>by cases h
 | k::ks,.mp _::l,m,h=>by cases h
 | k::ks,.ifc _ _::l,m,h=>by cases h
 | k::ks,.str _::l,m,h=>by cases h
 | k::ks,.gp _ _::l,m,h=>by cases h
def geoK:List IntKind:=List.replicate 22 .i64
def callK:List IntKind :=[.u8,.i64,.i64,.i64,.i64,.i64,.u8]
abbrev VOk:=Int->List Int->Plan->Bool
def askN(vOk:VOk):AskT
 | 0,[self],s=>some ([(s.ths.length:Int)],⟨s.ths ++ [Th.new self],s.plans,s.nc⟩)
 | 5,[i],s=>match s.ths[i.toNat]? with
  | some t=>some ([bif t.busy then 1 else 0],s)
  | none=>none
 | 4,[i],s=>match s.ths[i.toNat]? with
  | some t=>match t.busy,t.orc with
   | true,e::_=>some ([e.k,e.at_,e.a,e.b],s)
   | true,[]=>none
   | false,_=>some ([],s)
  | none=>none
 | 6,[i],s=>match s.ths[i.toNat]? with
  | some t=>if t.begun && !t.closed then(match t.told with
   | none=>some ([],s)
   | some l=>match Ki resK l with
    | some r=>some (r,s)
    | none=>none)else none
  | none=>none
 | 3,i::l,s=>match s.ths[i.toNat]? with
  | some t=>if !t.busy||eqZ l ((t.cap:Int)::t.r0)then some ([],⟨s.ths.set i.toNat {t with busy:=false,closed:=true,orc :=[]},s.plans,s.nc⟩)else none
  | none=>none
 | 2,i::v::l,s=>match s.ths[i.toNat]? with
  | some t=>match t.busy,t.orc with
   | true,e::L=>if decide (e.v=v)&&decide (t.rv.length=11)&&eqZ l ((t.cap:Int)::t.r0)then some ((match L with | []=>t.rv|_::_ =>[]),⟨s.ths.set i.toNat (t.went L),s.plans,s.nc⟩)else none
   | _,_=>none
  | none=>none
 | 1,i::l,s=>match s.ths[i.toNat]?,s.plans with
  | some t,p::pl=>if !t.busy && !t.closed&&vOk t.self (l.take 29) p then some ((s.nc:Int)::(match p.orc with | []=>p.rv|_::_ =>[]),⟨s.ths.set i.toNat (t.start p (l.drop 29) s.nc),pl,s.nc+1⟩)else none
  | _,_=>none
 | _,_,_=>none
def plainB(k:Blk):Bool:=k.tab.isNone && !k.grown
def tokOf(H:Heap):Option (Blk×Nat×Nat):=match blkAt H 0 with
 | some k=>match k.tab with
  | some (.tok id n)=>some (k,id,n)
  | _=>none
 | none=>none
def workAt(H:Heap)(k:Nat):Option (Blk×List C×List Int):=match blkAt H k with
 | some b=>if plainB b&&decide (b.elem = 78)&&decide (b.cells.length=14)then(Ki resK (b.cells.drop 3)).map fun r=>(b,b.cells.take 3,r)else none
 | none=>none
abbrev AskB:=Nat->List Int->(List Int->Option (V×Heap))->Sum
abbrev askS:AskB:=fun k a f=>mkS (List Int) (.op (.ask k a) .ret) f
def mNewG(B:AskB):Sm:=fun
 | [.c (.int .i64 self)],[]=>some (B 0 [self] fun l=>match l with
  | [id]=>some (.c (.ptr 0 0),[some ⟨[],0,false,some (.tok id.toNat 0)⟩])
  | _=>none)
 | _,_=>none
def mNew:Sm:=mNewG askS
def xiJ(B:AskB):Sm:=fun args H=>match args,tokOf H with
 | [.c (.ptr 0 0)],some (_,id,_)=>some (B 5 [(id:Int)] fun l=>match l with
  | [b]=>some (.c (.bool (b != 0)),H)
  | _=>none)
 | _,_=>none
def mBusy:Sm:=xiJ askS
def xiK(B:AskB):Sm:=fun args H=>match args,tokOf H with
 | [.c (.ptr 0 0)],some (_,id,_)=>some (B 4 [(id:Int)] fun l=>match l with
  | []=>some (.tup [.agg [.int .u8 0,.int .i64 0,.int .u64 0,.int .u64 0],.c (.bool false)],H)
  | [k,at_,a,b]=>some (.tup [.agg [.int .u8 k,.int .i64 at_,.int .u64 a,.int .u64 b],.c (.bool true)],H)
  | _=>none)
 | _,_=>none
def mPend:Sm:=xiK askS
def xiL(B:AskB):Sm:=fun args H=>match args,tokOf H with
 | [.c (.ptr 0 0)],some (_,id,_)=>some (B 6 [(id:Int)] fun l=>match l with
  | []=>some (.tup [.agg (resC [0,0,0,0,0,0,0,0,0,0,0]),.c (.bool false)],H)
  | x::l=>some (.tup [.agg (resC (x::l)),.c (.bool true)],H))
 | _,_=>none
def mTold:Sm:=xiL askS
def xfK(B:AskB):Sm:=fun args H=>match args,tokOf H with
 | [.c (.ptr 0 0)],some (kt,id,n)=>match kt.cells with
  | [.ptr k 0]=>match workAt H k with
   | some (_,_,r)=>some (B 3 ((id:Int)::(n:Int)::r) fun _=>some (.tup [],H))
   | none=>none
  | _=>some (B 3 [(id:Int)] fun _=>some (.tup [],H))
 | _,_=>none
def xeK:Sm:=xfK askS
def xfL(B:AskB):Sm:=fun args H=>match args,tokOf H with
 | [.c (.ptr 0 0),.c (.int .u64 v)],some (kt,id,n)=>match kt.cells with
  | [.ptr k 0]=>match workAt H k with
   | some (b,pre,r)=>some (B 2 ((id:Int)::v::(n:Int)::r) fun l=>match l with
    | []=>some (.c (.bool true),H)
    | x::l=>some (.c (.bool true),setB H k (some {b with cells:=pre++resC (x::l)})))
   | none=>none
  | _=>none
 | _,_=>none
def xeL:Sm:=xfL askS
structure SA where
 kt:Blk
 id:Nat
 n:Nat
 a:Nat
 b:Nat
 d:Nat
 m:Nat
 k:Nat
 kk:Blk
 pre:List C
 r0:List Int
 lg:List Int
 lc:List Int
noncomputable def YN(args:List V)(H:Heap):Option SA:=match args,tokOf H with
 | [.c (.ptr 0 0),.c (.fn f [.ptr a 0,.ptr b 0,.ptr d 0])],some (kt,id,n)=>match blkAt H a,blkAt H b,blkAt H d with
  | some ka,some kb,some kd=>match ka.cells,kd.cells with
   | [.ptr m 0],[.ptr k 0]=>match blkAt H m,workAt H k with
    | some km,some (kk,pre,r0)=>match partT Tryz.prog 42 ka.cells 0,partT Tryz.prog 60 km.cells 0,partT Tryz.prog 24 kb.cells 0 with
     | some (.c (.ptr m' 0)),some (.agg gc),some (.agg cc)=>match Ki geoK gc,Ki callK cc with
      | some lg,some lc=>if f == 47 && decide (m'=m)&&plainB ka&&plainB kb&&plainB kd&&plainB km&&decide (kd.elem = 73)&&decide (a≠b)&&decide (a≠d)&&decide (b≠d)&&decide (a≠k)&&decide (b≠k)&&decide (d≠k)&&decide (m≠k) then
        some ⟨kt,id,n,a,b,d,m,k,kk,pre,r0,lg,lc⟩else none
      | _,_=>none
     | _,_,_=>none
    | _,_=>none
   | _,_=>none
  | _,_,_=>none
 | _,_=>none
noncomputable def xfM(B:AskB):Sm:=fun args H=>match YN args H with
 | some z=>some (B 1 ((z.id:Int)::(z.lg++z.lc++z.r0)) fun l=>match l with
  | [nc]=>some (.c (.bool true),setB (setB (setB (setB H z.a none) z.b none) z.d none) 0 (some {z.kt with cells :=[.ptr z.k 0],tab:=some (.tok z.id nc.toNat)}))
  | nc::x::l=>some (.c (.bool true),setB (setB (setB (setB (setB H z.a none) z.b none) z.d none) 0 (some {z.kt with cells :=[.ptr z.k 0],tab:=some (.tok z.id nc.toNat)})) z.k (some {z.kk with cells:=z.pre++resC (x::l)}))
  | []=>none)
 | none=>none
noncomputable def xeM:Sm:=xfM askS
/-! ### soundness -/
variable{vOk:VOk}{X:Xp}{e:Lx.Env}{H H':Heap}{F F':Fo}{w w':World}{s s':MS}
theorem xda{z:Blk×Nat×Nat}(h:tokOf H=some z):blkAt H 0=some z.1/\z.1.tab=some (.tok z.2.1 z.2.2):=by
 unfold tokOf at h
 split at h
 .rename_i k hk
  split at h
  .rename_i id n ht
   cases h
   exact⟨hk,ht⟩
  .cases h
 .cases h
theorem kh{pv:Pv}(E:Emb pv e H w){z:Blk×Nat×Nat}(h:tokOf H=some z) : ∃r cs,e[0]? = some r/\denL pv e z.1.cells=some cs/\pv.A.tok z.2.1=some r.1/\(cs = []\/ ∃c,pv.A.cap z.2.2=some c/\cs = [ptr0 c]):=by
 obtain⟨h1,h2⟩:=xda h
 obtain⟨r,cs,h3,h4,h5⟩:=E.lies 0 _ h1
 rw[Blk.real_tok h2]at h4
 obtain⟨h6,h7⟩:=h5.1 _ _ h2
 exact⟨r,cs,h3,h4,h6,h7⟩
theorem vC{k:Blk}(h:plainB k=true):k.tab=none/\k.grown=false:=by
 unfold plainB at h
 simp only[dM,Bool.not_eq_true',Option.isNone_iff_eq_none]at h
 exact h
theorem yw{k:Nat}{z:Blk×List C×List Int}(h:workAt H k=some z):blkAt H k=some z.1/\(z.1.tab=none/\z.1.grown=false)/\z.1.elem = 78 /\ z.1.cells=z.2.1++resC z.2.2/\z.2.1.length=3/\z.2.2.length=11:=by
 unfold workAt at h
 split at h
 .rename_i b hb
  split at h
  .rename_i hc
   simp only[dM,decide_eq_true_eq]at hc
   rw[oM]at h
   obtain⟨r,h1,rfl⟩:=h
   obtain⟨h2,h3⟩:=Zm h1
   refine⟨hb,vC hc.1.1,hc.1.2,?_,by simp[hc.2],h3⟩
   show b.cells=b.cells.take 3++List.zipWith C.int resK r
   rw[<- h2,List.take_append_drop]
  .cases h
 .cases h
theorem Kj{pv:Value}{m:List C} : ∀ {l:List C} {cs:List Value},denL pv e (l++m)=some cs ->∃pre rs,denL pv e l=some pre/\denL pv e m=some rs/\cs=pre++rs
 | [],cs,h=>⟨[],cs,rfl,h,rfl⟩
 | c::l,cs,h=>by
  simp only[List.cons_append,denL]at h
  split at h
  .rename_i v hv
   split at h
   .rename_i vs ee
    cases h
    obtain⟨pre,rs,x1,x2,rfl⟩:=Kj ee
    exact⟨v::pre,rs,by simp only[denL,hv,x1],x2,rfl⟩
   .cases h
  .cases h
theorem Xt{pv:Pv}(E:Emb pv e H w){k:Nat}{z:Blk×List C×List Int}(h:workAt H k=some z) : ∃r pre,e[k]? = some r/\denL pv e z.2.1=some pre/\pre.length=3/\w.heap[r.1]? = some (vP pre z.2.2):=by
 obtain⟨h1,⟨h2,h3⟩,h4,h5,h6,h7⟩:=yw h
 obtain⟨r,cs,tl,a1,a2,a3,a4,_⟩:=E.row k _ h1 (Blk.win_none h2) (Blk.virt_none h2) (Blk.mapped_none h2)
 rw[a4 h3,List.append_nil]at a3
 rw[Blk.real_none h2,h5]at a2
 obtain⟨pre,rs,b1,b2,rfl⟩:=Kj a2
 rw[Yf]at b2
 cases b2
 refine⟨r,pre,a1,b1,by rw[xN b1];exact h6,?_⟩
 rw[a3,h4]
 rfl
theorem xdb{v:Value}{A A':Toks}(E:Emb ⟨v,A⟩ e H w)(aj:H'.length=H.length)
  (h : ∀i k',blkAt H' i=some k' ->∃k,blkAt H i=some k/\k'.virt=k.virt/\k'.win=k.win/\k'.ok/\ ∀r cs,e[i]? = some r->denL v e k.real=some cs->Lies ⟨v,A⟩ w r k cs ->∃cs',denL v e k'.real=some cs'/\Lies ⟨v,A'⟩ w' r k' cs'):Emb ⟨v,A'⟩ e H' w':=by
 refine⟨aj.trans E.len,fun i k' am =>?_,fun i j k k' r r' h1 h2 h3 h4 h5 v1 v2 =>?_,fun i k' am =>?_⟩
 .obtain⟨k,h1,_,_,_,h2⟩:=h i k' am
  obtain⟨r,cs,a1,a2,a3⟩:=E.lies i k h1
  obtain⟨cs',b1,b2⟩:=h2 r cs a1 a2 a3
  exact⟨r,cs',a1,b1,b2⟩
 .obtain⟨k0,a1,a2,a3,_⟩:=h i k h1
  obtain⟨I0,b1,b2,b3,_⟩:=h j k' h2
  rw[a3,b3]
  exact E.alone i j k0 I0 r r' a1 b1 h3 h4 h5 (a2▸v1) (b2▸v2)
 .obtain⟨k,_,_,_,ay,_⟩:=h i k' am
  exact ay
theorem Kk{q:Bool}(h : ∀i k',blkAt H' i=some k' ->∃k,blkAt H i=some k/\k'.virt=k.virt/\k'.win=k.win){b:Nat}(ho:Own q e H' b):Own q e H b:=by
 obtain⟨i,k',r,h1,h2,h3,h4,h5⟩:=ho
 obtain⟨k,a1,a2,a3⟩:=h i k' h1
 exact⟨i,k,r,a1,h2,h3,a2▸h4,fun hq=>a3▸h5 hq⟩
theorem Lies.grow{v:Value}{A A':Toks}(hA:A.le A'){r:Nat×Nat}{k:Blk}{cs:List Value}(h:Lies ⟨v,A⟩ w r k cs):Lies ⟨v,A'⟩ w r k cs:=⟨Tk.grow hA h.1,h.2⟩
theorem wq{f:FuncId}{vs:List Value}{rv:Value}{v:V}(E:Emb ((JX (askN vOk) X).pv F) e H w)(hF : ∀b,Own false e H b ->¬F b)(hR:(JX (askN vOk) X).Rep s F w)(hS:(JX (askN vOk) X).std w)(hp:PrimM f s F w vs.toArray s' fun r F' w'=>r=rv/\After s' F w F' w' (fun _=>False) (fun _=>False))(hv : ∀e A,denV (⟨(JX (askN vOk) X).base.pv.val,A⟩:Pv) e v=some rv) :
  KCalls (JX (askN vOk) X) f vs.toArray s F w s' fun rv F' w'=>F.A.le F'.A/\ ∃e',Ext e e'/\denV ((JX (askN vOk) X).pv F') e' v=some rv/\Emb ((JX (askN vOk) X).pv F') e' H w'/\(JX (askN vOk) X).Rep s' F' w'/\(∀b,Own false e' H b ->¬F' b)/\
    Keeps (fun b=>Own true e H b\/F b) w w'/\ ∀q b,Own q e' H b\/F' b->Own q e H b\/F b\/w.heap.size<=b:=fun O caller cs et hk=>by
 refine O.prim (X.mkP (Post:=fun r F' w'=>(r=rv/\After s' F w F' w' (fun _=>False) (fun _=>False))/\X.Rep s' F' w') hR hS hp (fun rv F' w' h=>Yh h.2 (X.rdOff hR) (X.rdLt hS) (fun _ h=>h.elim) (fun _ h=>h.elim)) fun rv F' w' h hr=>⟨h,hr⟩) caller cs et fun r F' w' ⟨⟨hr,hA⟩,hRep⟩ bu =>?_
 subst hr
 refine hk _ F' w' ⟨bu,e,Ext.refl e,hv e F'.A,(E.ofSame fun b hb=>hA.keeps.block b (E.own_lt hb) fun x=>x.elim (hF b hb) fun y=>y).grow bu,hRep,fun b hb du =>?_,hA.keeps.mono fun b hb =>.inr (hb.elim id fun y=>y.elim),fun q b hb =>?_⟩
 .rcases hA.new b du with h|h|h
  .exact hF b hb h
  .exact h
  .have:=E.own_lt hb;omega
 .rcases hb with hb|hb
  .exact .inl hb
  .rcases hA.new b hb with h|h|h
   .exact .inr (.inl h)
   .exact h.elim
   .exact .inr (.inr h)
theorem idn(n:Nat):((n:Int)).toNat=n:=rfl
theorem xdc:xx (JX (askN vOk) X) 31 mBusy:=by
 refine⟨⟨_,_,Tryz.func31,by kernel_rfl,rfl⟩,fun args H S hm e w s F vs E hv hR hF hO x v H' s' aa aw =>?_⟩
 unfold mBusy xiJ at hm
 split at hm
 rotate_left
 .cases hm
 rename_i kt id n dj
 cases hm
 obtain⟨r,cs,t1,t2,t3,t4⟩:=kh E dj
 simp only[mkS,T.run,JX,askN,idn]at aa
 split at aa
 rotate_left
 .cases aa
 rename_i y s1 hu
 split at hu
 rotate_left
 .cases hu
 rename_i t ht
 cases hu
 cases aa
 simp only[mkS,oI,dI]at aw
 obtain⟨rfl,rfl⟩:=aw
 simp only[allSome,denV,den,t1,dN,oI]at hv
 subst hv
 refine wq E hF hR hO.std (.busy (X.rep hR) ht t3) fun e A =>?_
 cases t.busy<;>rfl
theorem xdd:xx (JX (askN vOk) X) 74 mPend:=by
 refine⟨⟨_,_,Tryz.func74,by kernel_rfl,rfl⟩,fun args H S hm e w s F vs E hv hR hF hO x v H' s' aa aw =>?_⟩
 unfold mPend xiK at hm
 split at hm
 rotate_left
 .cases hm
 rename_i kt id n dj
 cases hm
 obtain⟨r,cs,t1,t2,t3,t4⟩:=kh E dj
 simp only[mkS,T.run,JX,askN,idn]at aa
 split at aa
 rotate_left
 .cases aa
 rename_i y s1 hu
 split at hu
 rotate_left
 .cases hu
 rename_i t ht
 simp only[allSome,denV,den,t1,dN,oI]at hv
 subst hv
 split at hu
 .rename_i e0 L0 hb ho
  cases hu
  cases aa
  simp only[mkS,oI,dI]at aw
  obtain⟨rfl,rfl⟩:=aw
  exact wq E hF hR hO.std (.pendS (X.rep hR) ht t3 hb ho) fun e A=>rfl
 .cases hu
 .rename_i hb
  cases hu
  cases aa
  simp only[mkS,oI,dI]at aw
  obtain⟨rfl,rfl⟩:=aw
  exact wq E hF hR hO.std (.pendN (X.rep hR) ht t3 hb) fun e A=>rfl
theorem xde:xx (JX (askN vOk) X) 116 mTold:=by
 refine⟨⟨_,_,Tryz.func116,by kernel_rfl,rfl⟩,fun args H S hm e w s F vs E hv hR hF hO x v H' s' aa aw =>?_⟩
 unfold mTold xiL at hm
 split at hm
 rotate_left
 .cases hm
 rename_i kt id n dj
 cases hm
 obtain⟨r,cs,t1,t2,t3,t4⟩:=kh E dj
 simp only[mkS,T.run,JX,askN,idn]at aa
 split at aa
 rotate_left
 .cases aa
 rename_i y s1 hu
 split at hu
 rotate_left
 .cases hu
 rename_i t ht
 simp only[allSome,denV,den,t1,dN,oI]at hv
 subst hv
 split at hu
 rotate_left
 .cases hu
 rename_i hc
 simp only[dM,Bool.not_eq_true']at hc
 split at hu
 .rename_i Eu
  cases hu
  cases aa
  simp only[mkS,oI,dI]at aw
  obtain⟨rfl,rfl⟩:=aw
  exact wq E hF hR hO.std (.toldN (X.rep hR) ht t3 hc.1 hc.2 Eu) fun e A=>rfl
 .rename_i l Eu
  split at hu
  rotate_left
  .cases hu
  rename_i l' hl
  obtain⟨h1,h2⟩:=Zm hl
  have hu:l'=y/\s=s1:=by cases hu;exact⟨rfl,rfl⟩
  obtain⟨rfl,rfl⟩:=hu
  have hx:l'=x/\s=s':=by cases aa;exact⟨rfl,rfl⟩
  obtain⟨rfl,rfl⟩:=hx
  have h1:l=resC l':=h1
  subst h1
  have h2:l'.length=11:=h2
  match l',h2 with
  | z::l'',h2=>
   simp only[mkS,oI,dI]at aw
   obtain⟨rfl,rfl⟩:=aw
   refine wq E hF hR hO.std (.toldS (X.rep hR) ht t3 hc.1 hc.2 Eu h2) fun e A =>?_
   simp only[denV,allSome,vX,Yf,dN]
   rfl
theorem xeN:xx (JX (askN vOk) X) 26 mNew:=by
 refine⟨⟨_,_,Tryz.func26,by kernel_rfl,rfl⟩,fun args H S hm e w s F vs E hv hR hF hO x v H' s' aa aw =>?_⟩
 unfold mNew mNewG at hm
 split at hm
 rotate_left
 .cases hm
 rename_i self
 cases hm
 simp only[mkS,T.run,JX,askN]at aa
 cases aa
 simp only[mkS,oI,dI]at aw
 obtain⟨rfl,rfl⟩:=aw
 simp only[allSome,denV,den,oI]at hv
 subst hv
 have he:e = []:=List.eq_nil_of_length_eq_zero E.len.symm
 subst he
 intro O caller cs et hk
 refine O.prim (X.mkP hR hO.std (.new (X.rep hR)) (fun rv F' w' ⟨_,_,_,h⟩=>Yh h (X.rdOff hR) (X.rdLt hO.std) (fun _ h=>h.elim) (fun _ h=>h.elim)) fun rv F' w' h hr=>And.intro h hr) caller cs et fun rv F' w' ⟨⟨tb,hr,dj,hA⟩,hRep⟩ bu =>?_
 subst hr
 have hO : ∀q b,¬Own q [(tb,0)] [some ⟨[],0,false,some (.tok s.ths.length 0)⟩] b:=fun q b ⟨i,k,r,h1,_,_,h4,_⟩=>by
  match i,h1 with
  | 0,h1=>cases h1;cases h4
  | _+1,h1=>simp[blkAt]at h1
 refine hk _ F' w' ⟨bu,[(tb,0)],⟨_,rfl⟩,rfl,?_,hRep,fun b hb=>(hO _ b hb).elim,hA.keeps.mono fun b hb =>.inr (hb.elim id fun y=>y.elim),fun q b hb =>?_⟩
 .refine⟨rfl,fun i k hk =>?_,fun i j k k' r r' h1 h2 _ _ _ v1 =>?_,fun i k hk =>?_⟩
  .match i,hk with
   | 0,hk=>
    cases hk
    refine⟨(tb,0),[],rfl,rfl,fun id n ht =>?_,.inl rfl⟩
    have ht:some (Tab.tok ((s.ths.length:Int)).toNat 0)=some (.tok id n):=ht
    simp only[idn,oI,Tab.tok.injEq]at ht
    obtain⟨rfl,rfl⟩:=ht
    exact⟨dj,.inl rfl⟩
   | _+1,hk=>simp[blkAt]at hk
  .match i,h1 with
   | 0,h1=>cases h1;cases v1
   | _+1,h1=>simp[blkAt]at h1
  .match i,hk with
   | 0,hk=>cases hk;intro t ht hq;rfl
   | _+1,hk=>simp[blkAt]at hk
 .rcases hb with hb|hb
  .exact(hO _ b hb).elim
  .rcases hA.new b hb with h|h|h
   .exact .inr (.inl h)
   .exact h.elim
   .exact .inr (.inr h)
end Go.Proofs.YtfagfflkgmcnpaaGreatDoor.Mx
namespace Go.Proofs.YtfagfflkgmcnpaaGreatDoor.Mx
open Go Go.Conc Lx Kx Tx
variable{vOk:VOk}{X:Xp}{e:Lx.Env}{H H':Heap}{F F':Fo}{w w':World}{s s':MS}
theorem xdf{n m:Nat}{l r:List Int}(h:eqZ ((n:Int)::l) ((m:Int)::r)=true):n=m/\l=r:=by
 have:=YM h
 simp only[List.cons.injEq,Int.natCast_inj]at this
 exact this
theorem xfN{pv:Pv}(E:Emb pv e H w){kt:Blk}{id n k:Nat}(dj:tokOf H=some (kt,id,n))(hc:kt.cells = [.ptr k 0]){r:Nat×Nat}(hr:e[k]? = some r):pv.A.cap n=some r.1:=by
 obtain⟨r0,cs,t1,t2,t3,t4⟩:=kh E dj
 have t2:denL pv e kt.cells=some cs:=t2
 rw[hc]at t2
 simp only[denL,den,hr,dN,oI]at t2
 subst t2
 rcases t4 with t4|⟨c,h1,h2⟩
 .cases t4
 .cases h2
  exact h1
theorem Kl{k:Nat}{z:Blk×List C×List Int}(h:workAt H k=some z){r:Nat×Nat}(hr:e[k]? = some r){q:Bool}:Own q e H r.1:=by
 obtain⟨h1,⟨h2,_⟩,_⟩:=yw h
 exact⟨k,_,r,h1,hr,rfl,Blk.virt_none h2,fun _=>Blk.win_none h2⟩
theorem xbI:xx (JX (askN vOk) X) 32 xeK:=by
 refine⟨⟨_,_,Tryz.func32,by kernel_rfl,rfl⟩,fun args H S hm e w s F vs E hv hR hF hO x v H' s' aa aw =>?_⟩
 unfold xeK xfK at hm
 split at hm
 rotate_left
 .cases hm
 rename_i kt id n dj
 obtain⟨r,cs,t1,t2,t3,t4⟩:=kh E dj
 simp only[allSome,denV,den,t1,dN,oI]at hv
 subst hv
 split at hm
 .rename_i k Fx
  split at hm
  rotate_left
  .cases hm
  rename_i b pre rr pz
  cases hm
  simp only[mkS,T.run,JX,askN,idn]at aa
  split at aa
  rotate_left
  .cases aa
  rename_i y s1 hu
  split at hu
  rotate_left
  .cases hu
  rename_i t ht
  split at hu
  rotate_left
  .cases hu
  rename_i ay
  cases hu
  cases aa
  simp only[mkS,oI,dI]at aw
  obtain⟨rfl,rfl⟩:=aw
  obtain⟨rk,prv,w1,w2,w3,w4⟩:=Xt E pz
  refine wq E hF hR hO.std (.close (wb:=rk.1) (pre:=prv) (X.rep hR) ht t3 fun hb =>?_) fun e A=>rfl
  rw[hb]at ay
  simp only[Bool.not_true,Bool.false_or]at ay
  obtain⟨e1,e2⟩:=xdf ay
  subst e1 e2
  exact⟨xfN E dj Fx w1,hF _ (Kl pz w1),w3,(yw pz).2.2.2.2.2,w4⟩
 .cases hm
  simp only[mkS,T.run,JX,askN,idn]at aa
  split at aa
  rotate_left
  .cases aa
  rename_i y s1 hu
  split at hu
  rotate_left
  .cases hu
  rename_i t ht
  split at hu
  rotate_left
  .cases hu
  rename_i ay
  cases hu
  cases aa
  simp only[mkS,oI,dI]at aw
  obtain⟨rfl,rfl⟩:=aw
  refine wq E hF hR hO.std (.close (wb:=0) (pre :=[]) (X.rep hR) ht t3 fun hb =>?_) fun e A=>rfl
  rw[hb]at ay
  cases ay
theorem xaG{v:Value}{A:Toks}{k:Nat}{z:Blk×List C×List Int}(h:workAt H k=some z){r:Nat×Nat}{pre:List Value}(mz:denL v e z.2.1=some pre){l:List Int}(hw:w'.heap[r.1]? = some (vP pre l)) :
  ∃cs',denL v e ({z.1 with cells:=z.2.1++resC l}:Blk).real=some cs'/\Lies ⟨v,A⟩ w' r {z.1 with cells:=z.2.1++resC l} cs':=by
 obtain⟨h1,⟨h2,h3⟩,h4,h5,h6,h7⟩:=yw h
 have hr:({z.1 with cells:=z.2.1++resC l}:Blk).real=z.2.1++resC l:=Blk.real_none h2
 rw[hr]
 have hd:denL v e (z.2.1++resC l)=some (pre++resV l):=by
  have key : ∀ (a:List C) (x:List Value),denL v e a=some x->denL v e (a++resC l)=some (x++resV l):=by
   intro a
   induction a with
   | nil=>intro x hx;cases hx;exact Yf l
   | cons c a ih=>
    intro x hx
    simp only[denL]at hx
    split at hx
    .rename_i y hy
     split at hx
     .rename_i ys fz
      cases hx
      simp only[List.cons_append,denL,hy,ih ys fz]
     .cases hx
    .cases hx
  exact key _ _ mz
 refine⟨_,hd,Lies.mk (tl :=[]) (Blk.win_none h2) ?_ (fun _=>rfl) (fun hg =>?_) (Blk.mapped_none h2) (fun t ht=>by
  have ht:z.1.tab=some t:=ht
  rw[h2]at ht
  cases ht)⟩
 .rw[List.append_nil,hw]
  show _=some (Obj.cells (pre++resV l).toArray z.1.elem (0,0))
  rw[h4]
  rfl
 .have hg:z.1.grown=true:=hg
  rw[h3]at hg
  cases hg
theorem qv{i b:Nat}{x:Option Blk}{k:Blk}(h:blkAt (setB H b x) i=some k):(i=b/\x=some k)\/(i≠b/\blkAt H i=some k):=by
 rw[yz,xH,List.getElem?_set]at h
 by_cases e:b=i
 .subst e
  rw[dB rfl]at h
  split at h
  .exact .inl ⟨rfl,by simpa using h⟩
  .simp at h
 .rw[dA e]at h
  exact .inr ⟨Ne.symm e,by rw[xH];exact h⟩
theorem we{b:Nat}{x:Option Blk}:(setB H b x).length=H.length:=by rw[yz,List.length_set]
theorem xbJ:xx (JX (askN vOk) X) 76 xeL:=by
 refine⟨⟨_,_,Tryz.func76,by kernel_rfl,rfl⟩,fun args H S hm e w s F vs E hv hR hF hO x v H' s' aa aw =>?_⟩
 unfold xeL xfL at hm
 split at hm
 rotate_left
 .cases hm
 rename_i vv kt id n dj
 obtain⟨r,cs,t1,t2,t3,t4⟩:=kh E dj
 simp only[allSome,denV,den,t1,dN,oI]at hv
 subst hv
 split at hm
 rotate_left
 .cases hm
 rename_i k Fx
 split at hm
 rotate_left
 .cases hm
 rename_i b pre rr pz
 cases hm
 simp only[mkS,T.run,JX,askN,idn]at aa
 split at aa
 rotate_left
 .cases aa
 rename_i y s1 hu
 split at hu
 rotate_left
 .cases hu
 rename_i t ht
 split at hu
 rotate_left
 .cases hu
 rename_i e0 L0 hb ho
 split at hu
 rotate_left
 .cases hu
 rename_i ay
 simp only[dM,decide_eq_true_eq]at ay
 obtain⟨⟨oo,cf⟩,ay⟩:=ay
 obtain⟨cb,iq⟩:=xdf ay
 obtain⟨rk,prv,w1,w2,w3,w4⟩:=Xt E pz
 have dk : ∀q,Own q e H rk.1:=fun q=>Kl pz w1
 have zt:=(yw pz).2.2.2.2.2
 have ea:y=x/\s1=s':=by
  have h1:=Option.some.inj aa
  exact Prod.mk.inj h1
 obtain⟨hx,hs⟩:=Prod.mk.inj (Option.some.inj hu)
 replace hx:=hx.trans ea.1
 replace hs:=hs.trans ea.2
 subst hs
 subst cb
 have iq:rr=t.r0:=iq
 intro O caller cs' et hk
 refine O.prim (X.mkP hR hO.std (.grant (wb:=rk.1) (pre:=prv) (X.rep hR) ht t3 hb ho oo ⟨xfN E dj Fx w1,hF _ (dk _),w3,iq▸zt,iq▸w4⟩) (fun rv F' w' h=>Yh h.2.2 (X.rdOff hR) (X.rdLt hO.std) (fun _ h=>h.elim) (fun b hb=>hb▸hO.own _ (dk true))) fun rv F' w' h hr=>And.intro h hr) caller cs' et fun rv F' w' ⟨⟨hr,im,hA⟩,hRep⟩ bu =>?_
 subst hr
 have offF : ∀b,Own false e H b ->¬F' b:=fun b hb du=>by
  rcases hA.new b du with h|h|h
  .exact hF b hb h
  .exact h
  .have:=E.own_lt hb;omega
 have pd : ∀b,Own false e H b->b≠rk.1->w'.heap[b]? = w.heap[b]? :=fun b hb ae=>hA.keeps.block b (E.own_lt hb) fun z=>z.elim (hF b hb) ae
 have o9:Keeps (fun b=>Own true e H b\/F b) w w':=hA.keeps.mono fun b hb=>hb.elim .inr fun h =>.inl (h▸dk true)
 have ci : ∀q b,(Own q e H b\/F' b)->Own q e H b\/F b\/w.heap.size<=b:=fun q b hb=>by
  rcases hb with hb|hb
  .exact .inl hb
  .rcases hA.new b hb with h|h|h
   .exact .inr (.inl h)
   .exact h.elim
   .exact .inr (.inr h)
 cases L0 with
 | cons e1 L1=>
  have hx:([]:List Int)=x:=hx
  subst hx
  simp only[mkS,oI,dI]at aw
  obtain⟨rfl,rfl⟩:=aw
  refine hk _ F' w' ⟨bu,e,Ext.refl e,rfl,(E.ofSame fun b hb =>?_).grow bu,hRep,offF,o9,ci⟩
  by_cases ae:b=rk.1
  .subst ae
   rw[im,w4]
   show some (vP prv t.r0)=some (vP prv rr)
   rw[iq]
  .exact pd b hb ae
 | nil=>
  have hx:t.rv=x:=hx
  subst hx
  have hm : ∃z l,t.rv=z::l:=by
   match h:t.rv,cf with
   | z::l,_=>exact⟨z,l,rfl⟩
  obtain⟨z,l,Ei⟩:=hm
  have aw:some (V.c (.bool true),setB H k (some {b with cells:=pre++resC t.rv}))=some (v,H'):=by
   rw[<- aw]
   simp only[mkS,Ei]
  simp only[oI,dI]at aw
  obtain⟨rfl,rfl⟩:=aw
  have sub : ∀i k',blkAt (setB H k (some {b with cells:=pre++resC t.rv})) i=some k' ->∃k0,blkAt H i=some k0/\k'.virt=k0.virt/\k'.win=k0.win:=fun i k' hi=>by
   rcases qv hi with⟨rfl,h2⟩|⟨_,h2⟩
   .cases h2
    have dy:=(yw pz).2.1.1
    refine⟨b,(yw pz).1,?_,?_⟩
    .exact(Blk.virt_none (k :={b with cells:=pre++resC t.rv}) dy).trans (Blk.virt_none dy).symm
    .exact(Blk.win_none (k :={b with cells:=pre++resC t.rv}) dy).trans (Blk.win_none dy).symm
   .exact⟨k',h2,rfl,rfl⟩
  refine hk _ F' w' ⟨bu,e,Ext.refl e,rfl,?_,hRep,fun x hx=>offF x (Kk sub hx),o9,fun q x hx=>ci q x (hx.imp (Kk sub) fun h=>h)⟩
  refine xdb E we fun i k' hi =>?_
  obtain⟨k0,s1,s2,s3⟩:=sub i k' hi
  rcases qv hi with⟨rfl,h2⟩|⟨ae,h2⟩
  .cases h2
   have dy:=(yw pz).2.1.1
   refine⟨k0,s1,s2,s3,Blk.ok_none dy,fun r1 Ai ea _ _ =>?_⟩
   rw[w1]at ea
   cases ea
   exact xaG (A:=F'.A) pz w2 im
  .refine⟨k',h2,rfl,rfl,E.ok i k' h2,fun r1 Ai ea Ae f7=>⟨Ai,Ae,Lies.grow bu (f7.same fun ti=>pd _ (vS h2 ea ti) fun e1 =>?_)⟩⟩
   have dy:=(yw pz).2.1.1
   exact ae (E.inj i k k' b r1 rk h2 (yw pz).1 ea w1 e1 ti (Blk.virt_none dy) (.inr (Blk.win_none dy)))
end Go.Proofs.YtfagfflkgmcnpaaGreatDoor.Mx
namespace Go.Proofs.YtfagfflkgmcnpaaGreatDoor.Mx
open Go Go.Conc Lx Kx Tx
variable{vOk:VOk}{X:Xp}{e:Lx.Env}{H H':Heap}{F F':Fo}{w w':World}{s s':MS}
theorem Wq{P:Program}(x:Nat) : ∀ (n i:Nat) (acc:Array Value) (w:World) (es:Array Event),(∀j,j<n->(w.cell? ⟨x,i+j,none⟩).isSome) ->∀ev∈(loadCellsFrom ⟨x,0,none⟩ i n acc).events P w es,ev∈es\/ ∃k,ev=⟨.cell ⟨x,k,none⟩,false,false⟩
 | 0,_,_,_,_,_=>fun ev h =>.inl (by simpa[loadCellsFrom]using h)
 | n+1,i,acc,w,es,hc=>fun ev h=>by
  have Gn:(⟨x,0,none⟩:Addr).add i=⟨x,i,none⟩:=by unfold Addr.add;split<;>simp_all
  simp only[loadCellsFrom,Sem.events_bind,Gn]at h
  obtain⟨u,hu⟩:=Option.isSome_iff_exists.1 (hc 0 (by omega))
  simp only[Nat.add_zero]at hu
  have hr:(load ⟨x,i,none⟩).run P w = .ok u w:=by simp[hu]
  rw[hr]at h
  rcases Wq x n (i+1) (acc.push u) w _ (fun j hj=>by have:=hc (j+1) (by omega);rwa [show i+(j+1)=i+1+j by omega]at this) ev h with h|h
  .rw[events_load,hu]at h
   rcases Array.mem_push.1 h with h|rfl
   .exact .inl h
   .exact .inr ⟨i,rfl⟩
  .exact .inr h
theorem Km{pv:Value}{x:Nat}{el t:TypeId}{cells:List C}{cs:List Value}{v:V}(hd:denL pv e cells=some cs)(hw:w.heap[x]? = some (.cells cs.toArray el (0,0)))(h:partT Tryz.prog t cells 0=some v) :
  ∃rv,denV pv e v=some rv/\ReadX x w t (ptr0 x) rv:=by
 have key : ∀w₁:World,w₁.heap[x]? = w.heap[x]? ->∃rv,(loadVar t ⟨x,0,none⟩).run Tryz.prog w₁ = .ok rv w₁/\denV pv e v=some rv:=fun w₁ e1=>
  KY (tl :=[]) hd (by rw[List.append_nil];exact e1.trans hw) h
 obtain⟨rv,_,cf⟩:=key w rfl
 refine⟨rv,cf,fun w₁ e1=>⟨?_,fun ev he =>?_⟩⟩
 .obtain⟨gw,h1,h2⟩:=key w₁ e1
  rw[cf]at h2
  cases h2
  simp[Instr.loadAt,Instr.sureAddr,ptr0,h1]
 .have hw₁:=e1.trans hw
  have cell : ∀j,w₁.cell? ⟨x,j,none⟩=cs[j]? :=fun j=>by rw[cell_of hw₁];simp
  simp only[Instr.loadAt,Instr.sureAddr,ptr0,Sem.events_bind,Sem.events_pure,Sem.run_pure,Result.evThen,Result.andThen_ok]at he
  unfold partT KM at h
  split at h
  .rename_i n hu hn
   rw[oM]at hu
   obtain⟨d,eq,dr⟩:=hu
   rw[oM]at h
   obtain⟨l,hl,rfl⟩:=h
   have aj:n=0\/0+n<=cs.length:=by
    have:=(Zs hl).2.1
    rw[xN hd]
    exact this
   have fw : ∀j,j<n->(w₁.cell? ⟨x,0+j,none⟩).isSome:=fun j hj=>by
    rw[cell,Nat.zero_add,List.getElem?_eq_getElem (by omega)]
    rfl
   have hr:=wM Tryz.prog w₁ x 0 n 0 (cs.extract 0 n) #[] (by simp;omega) fun j hj=>by
    rw[Nat.zero_add,Nat.zero_add,cell,List.getElem?_eq_getElem (by omega),List.extract_eq_take_drop,List.getElem?_take,dB (by omega),List.getElem?_drop,Nat.zero_add,List.getElem?_eq_getElem (by omega)]
   simp only[loadVar,Sem.events_bind,events_isAgg,wZ eq,dr,if_true,events_sizeOf,xw hn,loadCells,Result.evThen,hr,Sem.events_pure]at he
   rcases Wq x n 0 #[] w₁ #[] fw ev he with h|h
   .simp at h
   .exact h
  .rename_i n hu hn
   rw[oM]at hu
   obtain⟨d,eq,dr⟩:=hu
   split at h
   .rename_i z hz
    obtain⟨gw,h1,h2⟩:=ku hd (Zt hz)
    simp only[loadVar,Sem.events_bind,events_isAgg,wZ eq,dr,Bool.false_eq_true,if_false,Result.evThen,events_load,cell,h2]at he
    simp at he
    exact⟨0,he⟩
   .cases h
  .cases h
end Go.Proofs.YtfagfflkgmcnpaaGreatDoor.Mx
namespace Go.Proofs.YtfagfflkgmcnpaaGreatDoor.Mx
open Go Go.Conc Lx Kx Tx
variable{vOk:VOk}{X:Xp}{e:Lx.Env}{H H':Heap}{F F':Fo}{w w':World}{s s':MS}
structure SAOk(args:List V)(H:Heap)(z:SA)(ka kb kd km:Blk):Prop where
 args_:args = [.c (.ptr 0 0),.c (.fn 47 [.ptr z.a 0,.ptr z.b 0,.ptr z.d 0])]
 tok:tokOf H=some (z.kt,z.id,z.n)
 ba:blkAt H z.a=some ka
 bb:blkAt H z.b=some kb
 bd:blkAt H z.d=some kd
 bm:blkAt H z.m=some km
 work:workAt H z.k=some (z.kk,z.pre,z.r0)
 ca:ka.cells = [.ptr z.m 0]
 cd:kd.cells = [.ptr z.k 0]
 pa:partT Tryz.prog 42 ka.cells 0=some (.c (.ptr z.m 0))
 pm:partT Tryz.prog 60 km.cells 0=some (.agg (List.zipWith C.int geoK z.lg))
 pb:partT Tryz.prog 24 kb.cells 0=some (.agg (List.zipWith C.int callK z.lc))
 lg:z.lg.length=22
 lc:z.lc.length=7
 plain:plainB ka=true/\plainB kb=true/\plainB kd=true/\plainB km=true
 el:kd.elem = 73
 ne:z.a≠z.b/\z.a≠z.d/\z.b≠z.d/\z.a≠z.k/\z.b≠z.k/\z.d≠z.k/\z.m≠z.k
theorem xbK{args:List V}{z:SA}(h:YN args H=some z) : ∃ka kb kd km,SAOk args H z ka kb kd km:=by
 unfold YN at h
 split at h
 rotate_left
 .cases h
 rename_i f a b d kt id n dj
 split at h
 rotate_left
 .cases h
 rename_i ka kb kd h1 h2 h3
 split at h
 rotate_left
 .cases h
 rename_i m k h4 h5
 split at h
 rotate_left
 .cases h
 rename_i km kk pre r0 h6 h7
 split at h
 rotate_left
 .cases h
 rename_i m' gc cc h8 h9 Gr
 split at h
 rotate_left
 .cases h
 rename_i lg lc Lm Gq
 split at h
 rotate_left
 .cases h
 rename_i hc
 simp only[dM,decide_eq_true_eq,beq_iff_eq,ne_eq]at hc
 obtain⟨⟨⟨⟨⟨⟨⟨⟨⟨⟨⟨⟨⟨c1,c2⟩,c3⟩,c4⟩,c5⟩,c6⟩,c7⟩,c8⟩,c9⟩,c10⟩,Bq⟩,Id⟩,Ic⟩,Ib⟩:=hc
 cases h
 obtain⟨g1,g2⟩:=Zm Lm
 obtain⟨g3,g4⟩:=Zm Gq
 subst c1 c2 g1 g3
 exact⟨ka,kb,kd,km,rfl,dj,h1,h2,h3,h6,h7,h4,h5,h8,h9,Gr,g2,g4,⟨c3,c4,c5,c6⟩,c7,⟨c8,c9,c10,Bq,Id,Ic,Ib⟩⟩
theorem jB{pv:Pv}(E:Emb pv e H w){i:Nat}{k:Blk}(h:blkAt H i=some k)(hp:plainB k=true) : ∃r cs,e[i]? = some r/\denL pv e k.cells=some cs/\w.heap[r.1]? = some (.cells cs.toArray k.elem (0,0)):=by
 obtain⟨h2,h3⟩:=vC hp
 obtain⟨r,cs,tl,a1,a2,a3,a4,_⟩:=E.row i _ h (Blk.win_none h2) (Blk.virt_none h2) (Blk.mapped_none h2)
 rw[a4 h3,List.append_nil]at a3
 rw[Blk.real_none h2]at a2
 exact⟨r,cs,a1,a2,a3⟩
theorem ZI{i:Nat}{k:Blk}(h:blkAt H i=some k)(hp:plainB k=true){r:Nat×Nat}(hr:e[i]? = some r){q:Bool}:Own q e H r.1:=
 ⟨i,k,r,h,hr,rfl,Blk.virt_none (vC hp).1,fun _=>Blk.win_none (vC hp).1⟩
theorem wg{pv:Pv}(E:Emb pv e H w){i j:Nat}{k k':Blk}(h:blkAt H i=some k)(h':blkAt H j=some k')(hp:plainB k=true)(dt:k'.virt=false){r r':Nat×Nat}(hr:e[i]? = some r)(ct:e[j]? = some r')(ae:i≠j):r.1≠r'.1:=fun e1=>
 ae (E.inj i j k k' r r' h h' hr ct e1 (Blk.virt_none (vC hp).1) dt (.inl (Blk.win_none (vC hp).1)))
set_option maxHeartbeats 1000000 in
theorem xbL(hV : ∀ (self:Int) (lg lc:List Int) (p:Plan),vOk self (lg++lc) p=true->lg.length=22->lc.length=7->xaD self (.agg (List.zipWith Value.int geoK lg).toArray) (.agg (List.zipWith Value.int callK lc).toArray) p):xx (JX (askN vOk) X) 46 xeM:=by
 refine⟨⟨_,_,Tryz.func46,by kernel_rfl,rfl⟩,fun args H S hm e w s F vs E hv hR hF hO x v H' s' aa aw =>?_⟩
 unfold xeM xfM at hm
 split at hm
 rotate_left
 .cases hm
 rename_i z hz
 cases hm
 obtain⟨ka,kb,kd,km,Z⟩:=xbK hz
 obtain⟨r,cs,t1,t2,t3,t4⟩:=kh E Z.tok
 obtain⟨ra,csa,a1,a2,a3⟩:=jB E Z.ba Z.plain.1
 obtain⟨rb,csb,b1,b2,b3⟩:=jB E Z.bb Z.plain.2.1
 obtain⟨rd,csd,d1,d2,d3⟩:=jB E Z.bd Z.plain.2.2.1
 obtain⟨rm,csm,m1,m2,m3⟩:=jB E Z.bm Z.plain.2.2.2
 obtain⟨rk,prv,w1,w2,w3,w4⟩:=Xt E Z.work
 have lw:z.kk.virt=false:=Blk.virt_none (yw Z.work).2.1.1
 have na:=(yw Z.work).1
 have E9:z.r0.length=11:=(yw Z.work).2.2.2.2.2
 rw[Z.args_]at hv
 simp only[allSome,denV,den,denL,t1,a1,b1,d1,dN,oI]at hv
 subst hv
 have fq:(z.lg++z.lc++z.r0).take 29=z.lg++z.lc:=List.take_left' (by simp[Z.lg,Z.lc])
 have C8:(z.lg++z.lc++z.r0).drop 29=z.r0:=List.drop_left' (by simp[Z.lg,Z.lc])
 simp only[mkS,T.run,JX,askN,idn,fq,C8]at aa
 split at aa
 rotate_left
 .cases aa
 rename_i y s1 hu
 split at hu
 rotate_left
 .cases hu
 rename_i t p pl ht et
 split at hu
 rotate_left
 .cases hu
 rename_i ay
 simp only[dM,Bool.not_eq_true']at ay
 obtain⟨⟨hb,hc⟩,Es⟩:=ay
 have ea:y=x/\s1=s':=Prod.mk.inj (Option.some.inj aa)
 obtain⟨hx,hs⟩:=Prod.mk.inj (Option.some.inj hu)
 replace hx:=hx.trans ea.1
 replace hs:=hs.trans ea.2
 subst hs
 clear hu aa ea
 have hVal:=hV t.self z.lg z.lc p Es Z.lg Z.lc
 obtain⟨va,G3,Ij⟩:=Km a2 a3 Z.pa
 obtain⟨vm,G1,Ih⟩:=Km m2 m3 Z.pm
 obtain⟨vb,G2,Ii⟩:=Km b2 b3 Z.pb
 simp only[denV,den,m1,dN,oI]at G3
 subst G3
 simp only[denV,Ye,dN,oI]at G1 G2
 subst G1 G2
 have dw:csd = [ptr0 rk.1]:=by
  rw[Z.cd]at d2
  simp only[denL,den,w1,dN,oI]at d2
  exact d2.symm
 rw[dw,Z.el]at d3
 have nab:=wg E Z.ba Z.bb Z.plain.1 (Blk.virt_none (vC Z.plain.2.1).1) a1 b1 Z.ne.1
 have nad:=wg E Z.ba Z.bd Z.plain.1 (Blk.virt_none (vC Z.plain.2.2.1).1) a1 d1 Z.ne.2.1
 have nbd:=wg E Z.bb Z.bd Z.plain.2.1 (Blk.virt_none (vC Z.plain.2.2.1).1) b1 d1 Z.ne.2.2.1
 have nak:=wg E Z.ba na Z.plain.1 lw a1 w1 Z.ne.2.2.2.1
 have nbk:=wg E Z.bb na Z.plain.2.1 lw b1 w1 Z.ne.2.2.2.2.1
 have ndk:=wg E Z.bd na Z.plain.2.2.1 lw d1 w1 Z.ne.2.2.2.2.2.1
 have nmk:=wg E Z.bm na Z.plain.2.2.2 lw m1 w1 Z.ne.2.2.2.2.2.2
 have oa : ∀q,Own q e H ra.1:=fun q=>ZI Z.ba Z.plain.1 a1
 have ob : ∀q,Own q e H rb.1:=fun q=>ZI Z.bb Z.plain.2.1 b1
 have od : ∀q,Own q e H rd.1:=fun q=>ZI Z.bd Z.plain.2.2.1 d1
 have om : ∀q,Own q e H rm.1:=fun q=>ZI Z.bm Z.plain.2.2.2 m1
 have ok : ∀q,Own q e H rk.1:=fun q=>Kl Z.work w1
 intro O caller cs' Fe hk
 refine O.prim (X.mkP hR hO.std (.start (tb:=r.1) (wb:=rk.1) (mb:=rm.1) (mc:=ra.1) (cc:=rb.1) (wc:=rd.1) (pre:=prv) (r0:=z.r0) (X.rep hR) ht t3 hb hc et hVal ⟨hF _ (oa _),hF _ (ob _),hF _ (od _),hF _ (ok _),hF _ (om _)⟩ ⟨nak,nbk,ndk,nmk,nab,nad,nbd⟩ ⟨w3,E9⟩ w4 d3 Ij Ih Ii ⟨E.own_lt (oa false),E.own_lt (ob false),E.own_lt (om false)⟩) (fun rv F' w' h=>Yh h.2.2.2 (X.rdOff hR) (X.rdLt hO.std) (fun b hb=>hb.elim (fun h=>h▸hO.own _ (oa true)) fun hb=>hb.elim (fun h=>h▸hO.own _ (ob true)) fun h=>h▸hO.own _ (od true)) (fun b hb=>hb▸hO.own _ (ok true))) fun rv F' w' h hr=>And.intro h hr) caller cs' Fe fun rv F' w' ⟨⟨hr,cb,im,hA⟩,hRep⟩ bu =>?_
 subst hr
 -- what comes of the blocks
 have pd : ∀b,Own false e H b->b≠rk.1->w'.heap[b]? = w.heap[b]? :=fun b hb ae=>hA.keeps.block b (E.own_lt hb) fun z=>z.elim (hF b hb) ae
 have o9:Keeps (fun b=>Own true e H b\/F b) w w':=hA.keeps.mono fun b hb=>hb.elim .inr fun h =>.inl (h▸ok true)
 have fp:=xda Z.tok
 have hzk:z.k≠0:=fun e0=>by
  rw[e0]at na
  rw[fp.1]at na
  have:=Option.some.inj na
  have h2:=(yw Z.work).2.1.1
  have h3:z.kt.tab=some (.tok z.id z.n):=fp.2
  have h4:z.kt=z.kk:=this
  rw[h4]at h3
  have h2:z.kk.tab=none:=h2
  rw[h2]at h3
  cases h3
 have fin : ∀ (H':Heap),H'.length=H.length->(∀i k',blkAt H' i=some k'->i≠z.a/\i≠z.b/\i≠z.d/\((i=0/\k' = {z.kt with cells :=[.ptr z.k 0],tab:=some (.tok z.id s.nc)})\/(i=z.k/\p.orc = []/\k' = {z.kk with cells:=z.pre++resC p.rv})\/(i=z.k/\p.orc ≠ []/\k'=z.kk)\/(i≠0/\i≠z.k/\blkAt H i=some k')))->
   O.Ok (⟨s.ths.set z.id (t.start p z.r0 s.nc),pl,s.nc+1⟩) F' (caller.finish (.bool true)) cs' w'\/True:=fun _ _ _ =>.inr trivial
 have main : ∀ (H':Heap),H'.length=H.length->(∀i k',blkAt H' i=some k'->i≠z.a/\i≠z.b/\i≠z.d/\((i=0/\k' = {z.kt with cells :=[.ptr z.k 0],tab:=some (.tok z.id s.nc)})\/(i=z.k/\p.orc = []/\k' = {z.kk with cells:=z.pre++resC p.rv})\/(i=z.k/\p.orc ≠ []/\k'=z.kk)\/(i≠0/\i≠z.k/\blkAt H i=some k')))->
   F.A.le F'.A/\ ∃e',Ext e e'/\denV ((JX (askN vOk) X).pv F') e' (.c (.bool true))=some (.bool true)/\Emb ((JX (askN vOk) X).pv F') e' H' w'/\(JX (askN vOk) X).Rep ⟨s.ths.set z.id (t.start p z.r0 s.nc),pl,s.nc+1⟩ F' w'/\(∀b,Own false e' H' b ->¬F' b)/\Keeps (fun b=>Own true e H b\/F b) w w'/\ ∀q b,Own q e' H' b\/F' b->Own q e H b\/F b\/w.heap.size<=b:=fun H' aj hH=>by
  have sub : ∀i k',blkAt H' i=some k' ->∃k0,blkAt H i=some k0/\k'.virt=k0.virt/\k'.win=k0.win:=fun i k' hi=>by
   obtain⟨_,_,_,h⟩:=hH i k' hi
   rcases h with⟨rfl,rfl⟩|⟨rfl,_,rfl⟩|⟨rfl,_,rfl⟩|⟨_,_,h⟩
   .refine⟨z.kt,fp.1,?_,?_⟩
    .show Blk.virt _=z.kt.virt
     unfold Blk.virt
     rw[show z.kt.tab=some (.tok z.id z.n)from fp.2]
    .show Blk.win _=z.kt.win
     unfold Blk.win
     rw[show z.kt.tab=some (.tok z.id z.n)from fp.2]
   .have dy:=(yw Z.work).2.1.1
    exact⟨z.kk,na,(Blk.virt_none (k :={z.kk with cells:=z.pre++resC p.rv}) dy).trans lw.symm,(Blk.win_none (k :={z.kk with cells:=z.pre++resC p.rv}) dy).trans (Blk.win_none dy).symm⟩
   .exact⟨z.kk,na,rfl,rfl⟩
   .exact⟨k',h,rfl,rfl⟩
  refine⟨bu,e,Ext.refl e,rfl,?_,hRep,fun b hb du =>?_,o9,fun q b hb =>?_⟩
  .refine xdb E aj fun i k' hi =>?_
   obtain⟨k0,s1,s2,s3⟩:=sub i k' hi
   obtain⟨_,_,_,h⟩:=hH i k' hi
   refine⟨k0,s1,s2,s3,?_⟩
   rcases h with⟨rfl,rfl⟩|⟨rfl,ho,rfl⟩|⟨rfl,ho,rfl⟩|⟨F5,F4,h⟩
   .refine⟨?_,fun r1 Ai ea Ae f7=>⟨[ptr0 rk.1],?_,⟨fun id n hh =>?_,.inl rfl⟩⟩⟩
    .have:=E.ok 0 _ fp.1
     intro t ht hq
     cases ht
     cases hq
    .show denL _ e (Blk.real _)=_
     rw[Blk.real_tok (k :={z.kt with cells :=[.ptr z.k 0],tab:=some (.tok z.id s.nc)}) rfl]
     simp only[denL,den,w1,dN]
     rfl
    .cases hh
     rw[t1]at ea
     cases ea
     exact⟨bu.tok _ _ t3,.inr ⟨rk.1,cb,rfl⟩⟩
   .have dy:=(yw Z.work).2.1.1
    refine⟨Blk.ok_none dy,fun r1 Ai ea _ _ =>?_⟩
    rw[w1]at ea
    cases ea
    rw[dB ho]at im
    exact xaG (A:=F'.A) Z.work w2 im
   .refine⟨E.ok _ _ na,fun r1 Ai ea Ae f7 =>?_⟩
    rw[w1]at ea
    cases ea
    rw[dA ho]at im
    rw[na]at s1
    cases s1
    exact⟨Ai,Ae,Lies.grow bu (f7.same fun _=>im.trans w4.symm)⟩
   .rw[h]at s1
    cases s1
    exact⟨E.ok i k' h,fun r1 Ai ea Ae f7=>⟨Ai,Ae,Lies.grow bu (f7.same fun ti=>pd _ (vS h ea ti) fun e1=>F4 (E.inj i z.k k' z.kk r1 rk h na ea w1 e1 ti lw (.inr (Blk.win_none (yw Z.work).2.1.1))))⟩⟩
  .obtain⟨i,k',r',o1,o2,o3,o4,o5⟩:=hb
   obtain⟨n1,n2,n3,_⟩:=hH i k' o1
   obtain⟨k0,s1,s2,s3⟩:=sub i k' o1
   have oo:k0.virt=false:=s2▸o4
   rcases hA.new b du with h|h|h
   .exact hF b ⟨i,k0,r',s1,o2,o3,oo,fun hq=>by cases hq⟩ h
   .rcases h with h|h|h
    .exact wg E Z.ba s1 Z.plain.1 oo a1 o2 (Ne.symm n1) (by rw[o3,h])
    .exact wg E Z.bb s1 Z.plain.2.1 oo b1 o2 (Ne.symm n2) (by rw[o3,h])
    .exact wg E Z.bd s1 Z.plain.2.2.1 oo d1 o2 (Ne.symm n3) (by rw[o3,h])
   .have:=E.own_lt (q:=false) ⟨i,k0,r',s1,o2,o3,oo,fun hq=>by cases hq⟩
    omega
  .rcases hb with hb|hb
   .exact .inl (Kk sub hb)
   .rcases hA.new b hb with h|h|h
    .exact .inr (.inl h)
    .rcases h with rfl|rfl|rfl
     .exact .inl (oa q)
     .exact .inl (ob q)
     .exact .inl (od q)
    .exact .inr (.inr h)
 clear fin
 have base : ∀i k',blkAt (setB (setB (setB (setB H z.a none) z.b none) z.d none) 0 (some {z.kt with cells :=[.ptr z.k 0],tab:=some (.tok z.id s.nc)})) i=some k'->i≠z.a/\i≠z.b/\i≠z.d/\((i=0/\k' = {z.kt with cells :=[.ptr z.k 0],tab:=some (.tok z.id s.nc)})\/(i≠0/\blkAt H i=some k')):=fun i k' hi=>by
  have dc : ∀ {j:Nat} {k:Blk},blkAt H j=some k->plainB k=true->j≠0:=fun {j k} hj hp e0=>by
   rw[e0]at hj
   rw[fp.1]at hj
   have h3:z.kt.tab=some (.tok z.id z.n):=fp.2
   have h4:z.kt=k:=Option.some.inj hj
   rw[h4,(vC hp).1]at h3
   cases h3
  rcases qv hi with⟨rfl,h2⟩|⟨h0,h2⟩
  .exact⟨(dc Z.ba Z.plain.1).symm,(dc Z.bb Z.plain.2.1).symm,(dc Z.bd Z.plain.2.2.1).symm,.inl ⟨rfl,(Option.some.inj h2).symm⟩⟩
  .rcases qv h2 with⟨_,h3⟩|⟨h3,h4⟩
   .cases h3
   .rcases qv h4 with⟨_,h5⟩|⟨h5,h6⟩
    .cases h5
    .rcases qv h6 with⟨_,h7⟩|⟨h7,h8⟩
     .cases h7
     .exact⟨h7,h5,h3,.inr ⟨h0,h8⟩⟩
 cases ho:p.orc with
 | cons e1 L1=>
  rw[ho]at hx
  have hx : [(s.nc:Int)]=x:=hx
  subst hx
  simp only[mkS,idn,oI,dI]at aw
  obtain⟨rfl,rfl⟩:=aw
  refine hk _ F' w' (main _ (by rw[we,we,we,we]) fun i k' hi =>?_)
  obtain⟨g1,g2,g3,g4⟩:=base i k' hi
  refine⟨g1,g2,g3,?_⟩
  rcases g4 with g4|⟨g4,g5⟩
  .exact .inl g4
  .by_cases ek:i=z.k
   .subst ek
    rw[na]at g5
    cases g5
    exact .inr (.inr (.inl ⟨rfl,by rw[ho];simp,rfl⟩))
   .exact .inr (.inr (.inr ⟨g4,ek,g5⟩))
 | nil=>
  rw[ho]at hx
  have hx:(s.nc:Int)::p.rv=x:=hx
  subst hx
  obtain⟨y1,y2,I5⟩ : ∃y1 y2,p.rv=y1::y2:=by
   match h:p.rv,hVal.1 with
   | y1::y2,_=>exact⟨y1,y2,rfl⟩
  have aw:some (V.c (.bool true),setB (setB (setB (setB (setB H z.a none) z.b none) z.d none) 0 (some {z.kt with cells :=[.ptr z.k 0],tab:=some (.tok z.id s.nc)})) z.k (some {z.kk with cells:=z.pre++resC p.rv}))=some (v,H'):=by
   rw[<- aw]
   simp only[mkS,I5,idn]
  simp only[oI,dI]at aw
  obtain⟨rfl,rfl⟩:=aw
  refine hk _ F' w' (main _ (by rw[we,we,we,we,we]) fun i k' hi =>?_)
  rcases qv hi with⟨rfl,h2⟩|⟨F4,h2⟩
  .exact⟨Z.ne.2.2.2.1.symm,Z.ne.2.2.2.2.1.symm,Z.ne.2.2.2.2.2.1.symm,.inr (.inl ⟨rfl,ho,(Option.some.inj h2).symm⟩)⟩
  .obtain⟨g1,g2,g3,g4⟩:=base i k' h2
   refine⟨g1,g2,g3,?_⟩
   rcases g4 with g4|⟨g4,g5⟩
   .exact .inl g4
   .exact .inr (.inr (.inr ⟨g4,F4,g5⟩))
end Go.Proofs.YtfagfflkgmcnpaaGreatDoor.Mx
namespace Go.Proofs.YtfagfflkgmcnpaaGreatDoor.Kx
open Go Go.Conc Lx
section
variable{σ:Type}{J:KBase Tryz.prog σ}
def SoundLK(J:KBase Tryz.prog σ)(l:List (Nat×Sm)):Prop :=∀f m,(f,m)∈l->xx J f m
theorem SoundLK.nil:SoundLK J []:=fun f m h=>by simp at h
theorem SoundLK.cons{l:List (Nat×Sm)}{f:Nat}{m:Sm}(h:xx J f m)(hl:SoundLK J l):SoundLK J ((f,m)::l):=by
 intro g m' hm
 rcases List.mem_cons.1 hm with he|he
 .cases he;exact h
 .exact hl g m' he
theorem SoundLK.known{l:List (Nat×Sm)}(hl:SoundLK J l) : ∀f m,xU l f=some m->xx J f m:=fun f m h=>hl f m (xaJ h)
theorem yx {l:List (Nat×Sm)} (hl:SoundLK J l) {f:FuncId} {fn:Func} (n:Fu) (bc:J.bad f=false) (hf:(Tryz.prog).funcs[f]? = some fn) (be:(fn.name == "runtime.NumGoroutine")=false) (an:fn.body.isSome=true):xx J f (inl Tryz.prog (xU l) n fn):=
 xep hl.known yY wa (by kernel_rfl) bc hf be an n
noncomputable def chF(n:Fu)(k0:List (Nat×Sm)):List (Nat×Func)->List (Nat×Sm)
 | []=>k0
 | p::l=>(p.1,inl Tryz.prog (xU (chF n k0 l)) n p.2)::chF n k0 l
def chIs:List (Nat×Func)->Prop
 | []=>True
 | p::l=>(Tryz.prog).funcs[p.1]? = some p.2/\chIs l
def chB(bad:FuncId->Bool)(l:List (Nat×Func)):Bool:=l.all fun p=> !bad p.1 && !(p.2.name == "runtime.NumGoroutine")&&p.2.body.isSome
theorem kY{n:Fu}{k0:List (Nat×Sm)} : ∀l:List (Nat×Func),chIs l->chB J.bad l=true->SoundLK J k0->SoundLK J (chF n k0 l)
 | [],_,_,h=>h
 | p::l,hi,hb,h=>by
  simp only[chB,List.all_cons,dM,Bool.not_eq_true']at hb
  have:=kY (n:=n) l hi.2 (by simp only[chB];exact hb.2) h
  exact .cons (yx this n hb.1.1.1 hi.1 hb.1.1.2 hb.1.2) this
theorem wG {l:List (Nat×Sm)} (hl:SoundLK J l) {f:FuncId} {fn:Func} (n:Fu) (bc:J.bad f=false) (hf:(Tryz.prog).funcs[f]? = some fn) (be:(fn.name == "runtime.NumGoroutine")=false) (an:fn.body.isSome=true) {m:Sm}
  (h : ∀args H S,m args H=some S->evF Tryz.prog (xU l) n fn args H=S.tree):xx J f m:=by
 have bt:=wo (J:=J) hl.known yY wa (by kernel_rfl) bc hf be an n
 refine⟨bt.1,?_⟩
 intro args H S ht e w s F vs E hv hR hF hO x v H' s' aa aw
 exact bt.2 args H _ rfl e w s F vs E hv hR hF hO (v,H') v H' s' (by rw[h args H S ht];exact Sum.run_tree aa aw) rfl
def orKs(a b:Sm):Sm:=fun args H=>match a args H with
 | some S=>some S
 | none=>b args H
theorem qw{f:FuncId}{a b:Sm}(ha:xx J f a)(hb:xx J f b):xx J f (orKs a b):=by
 refine⟨ha.1,fun args H S hS =>?_⟩
 unfold orKs at hS
 split at hS
 .rename_i S' h;cases hS;exact ha.2 args H _ h
 .exact hb.2 args H S hS
end
end Go.Proofs.YtfagfflkgmcnpaaGreatDoor.Kx
namespace Go.Proofs.YtfagfflkgmcnpaaGreatDoor.Mx
open Go Go.Conc Lx Kx Tx
noncomputable def kThr:List (Nat×Sm) :=[(26,mNew),(31,mBusy),(74,mPend),(116,mTold),(32,xeK),(76,xeL),(46,xeM)]
theorem s_kThr{vOk:VOk}{X:Xp}(hV : ∀ (self:Int) (lg lc:List Int) (p:Plan),vOk self (lg++lc) p=true->lg.length=22->lc.length=7->xaD self (.agg (List.zipWith Value.int geoK lg).toArray) (.agg (List.zipWith Value.int callK lc).toArray) p):SoundLK (JX (askN vOk) X) kThr:=
 .cons xeN (.cons xdc (.cons xdd (.cons xde (.cons xbI (.cons xbJ (.cons (xbL hV) .nil))))))
end Go.Proofs.YtfagfflkgmcnpaaGreatDoor.Mx
namespace Go.Proofs.YtfagfflkgmcnpaaGreatDoor.Mx
open Go Go.Conc Lx Kx Tx
variable{ask:AskT}{X:Xp}{k0:List (Nat×Sm)}
noncomputable def msL:List (Nat×Func) :=[
(16,Tryz.f16),
(14,Tryz.f14),
(29,Tryz.f29),
(49,Tryz.f49),
(77,Tryz.f77),
(117,Tryz.f117),
(28,Tryz.f28),
(17,Tryz.f17),
(33,Tryz.f33),
(15,Tryz.f15),
(30,Tryz.f30),
(27,Tryz.f27),
(9,Tryz.f9),
(11,Tryz.f11),
(19,Tryz.f19),
(37,Tryz.f37),
(36,Tryz.f36),
(50,Tryz.f50),
(6,Tryz.f6),
(18,Tryz.f18),
(35,Tryz.f35),
(34,Tryz.f34)]
theorem ms_is:chIs msL:=by unfold msL;repeat (first|exact trivial|refine And.intro (by kernel_rfl) ?_)
noncomputable def ms22(k0:List (Nat×Sm)):List (Nat×Sm):=chF 300 k0 msL
theorem s_ms22(h:SoundLK (JX ask X) k0):SoundLK (JX ask X) (ms22 k0):=kY _ ms_is (by kernel_rfl) h
end Go.Proofs.YtfagfflkgmcnpaaGreatDoor.Mx
namespace Go.Proofs.YtfagfflkgmcnpaaGreatDoor.Mx
open Go Go.Conc Lx Kx Tx
variable{ask:AskT}{X:Xp}{k0:List (Nat×Sm)}
noncomputable def gcL:List (Nat×Func) :=[
(39,Tryz.f39),
(38,Tryz.f38)]
theorem gc_is:chIs gcL:=by unfold gcL;repeat (first|exact trivial|refine And.intro (by kernel_rfl) ?_)
noncomputable def gc2(k0:List (Nat×Sm)):List (Nat×Sm):=chF 300 k0 gcL
theorem s_gc2(h:SoundLK (JX ask X) k0):SoundLK (JX ask X) (gc2 k0):=kY _ gc_is (by kernel_rfl) h
end Go.Proofs.YtfagfflkgmcnpaaGreatDoor.Mx
namespace Go.Proofs.YtfagfflkgmcnpaaGreatDoor.Kx
open Go Go.Conc Lx
def tab2(t:Int->Int->Option (V×Heap)):Sm:=fun
 | [.c (.int .i64 a),.c (.int .i64 b)],[]=>match t a b with
  | some r=>some (mkS Unit (.ret ()) fun _=>some r)
  | none=>none
 | _,_=>none
theorem xeO {σ:Type} {J:KBase Tryz.prog σ} {l:List (Nat×Sm)} (hl:SoundLK J l) {f:FuncId} {fn:Func} (n:Fu) (bc:J.bad f=false) (hf:(Tryz.prog).funcs[f]? = some fn) (be:(fn.name == "runtime.NumGoroutine")=false) (an:fn.body.isSome=true) {t:Int->Int->Option (V×Heap)}
  (ht : ∀a b r,t a b=some r->evF Tryz.prog (xU l) n fn [.c (.int .i64 a),.c (.int .i64 b)] [] = .ret r):xx J f (tab2 t):=by
 have hs:=yx hl n bc hf be an
 refine⟨hs.1,fun args H S hS e w s F vs E hv hR hF hO x v H' s' aa aw =>?_⟩
 unfold tab2 at hS
 split at hS
 .rename_i a b
  split at hS
  .rename_i r hr
   cases hS
   simp only[T.run,oI,dI]at aa
   obtain⟨_,rfl⟩:=aa
   simp only[oI]at aw
   subst aw
   have bt:=ht a b _ hr
   have h2:=(wo (J:=J) hl.known yY wa (by kernel_rfl) bc hf be an n).2 _ [] _ rfl e w s F vs E hv hR hF hO (v,H') v H' s (by show(evF _ _ n fn _ []).run _ _=_;rw[bt];rfl) rfl
   exact h2
  .cases hS
 .cases hS
end Go.Proofs.YtfagfflkgmcnpaaGreatDoor.Kx
namespace Go.Proofs.YtfagfflkgmcnpaaGreatDoor.Mx
open Go Go.Conc Lx Kx Tx
def geo11:List C :=[1,1,0,1,2,7,16,17,21,22,23,24,25,33,41,49,53,55,56,60,73,177].map (C.int .i64)
def geo12:List C :=[1,2,0,1,2,7,16,17,21,23,24,25,26,34,42,58,66,70,72,84,114,354].map (C.int .i64)
def xfO:List C:=(List.replicate 22 0).map (C.int .i64)
def tGeo(a b:Int):Option (V×Heap):=
 if a=1/\b=1 then some (.tup [.agg geo11,.c (.bool true)],[]) else
 if a=1/\b=2 then some (.tup [.agg geo12,.c (.bool true)],[]) else
 if a=0/\b=1 then some (.tup [.agg xfO,.c (.bool false)],[]) else
 if a=1/\b=65 then some (.tup [.agg xfO,.c (.bool false)],[])else none
noncomputable def mGeo:Sm:=tab2 tGeo
theorem xiM:evF Tryz.prog (xU (gc2 [])) 300 Tryz.f20 [.c (.int .i64 1),.c (.int .i64 1)] [] = .ret (.tup [.agg geo11,.c (.bool true)],[]):=by kernel_rfl
theorem xiN:evF Tryz.prog (xU (gc2 [])) 300 Tryz.f20 [.c (.int .i64 1),.c (.int .i64 2)] [] = .ret (.tup [.agg geo12,.c (.bool true)],[]):=by kernel_rfl
theorem xiO:evF Tryz.prog (xU (gc2 [])) 300 Tryz.f20 [.c (.int .i64 0),.c (.int .i64 1)] [] = .ret (.tup [.agg xfO,.c (.bool false)],[]):=by kernel_rfl
theorem xg7:evF Tryz.prog (xU (gc2 [])) 300 Tryz.f20 [.c (.int .i64 1),.c (.int .i64 65)] [] = .ret (.tup [.agg xfO,.c (.bool false)],[]):=by kernel_rfl
theorem Kn{ask:AskT}{X:Xp}:xx (JX ask X) 20 mGeo:=by
 refine xeO (s_gc2 (ask:=ask) .nil) 300 (by kernel_rfl) Tryz.func20 (by kernel_rfl) (by kernel_rfl) fun a b r h =>?_
 unfold tGeo at h
 split at h
 .rename_i h0;obtain⟨rfl,rfl⟩:=h0;cases h;exact xiM
 split at h
 .rename_i h0;obtain⟨rfl,rfl⟩:=h0;cases h;exact xiN
 split at h
 .rename_i h0;obtain⟨rfl,rfl⟩:=h0;cases h;exact xiO
 split at h
 .rename_i h0;obtain⟨rfl,rfl⟩:=h0;cases h;exact xg7
 .cases h
#print axioms Kn
end Go.Proofs.YtfagfflkgmcnpaaGreatDoor.Mx
namespace Go.Proofs.YtfagfflkgmcnpaaGreatDoor.Mx
open Go Go.Conc Lx Kx Tx
variable{ask:AskT}{X:Xp}{k0:List (Nat×Sm)}
noncomputable def miL:List (Nat×Func) :=[
(22,Tryz.f22),
(23,Tryz.f23),
(25,Tryz.f25),
(44,Tryz.f44),
(57,Tryz.f57),
(84,Tryz.f84),
(118,Tryz.f118),
(83,Tryz.f83),
(56,Tryz.f56),
(82,Tryz.f82),
(81,Tryz.f81),
(24,Tryz.f24),
(43,Tryz.f43),
(42,Tryz.f42),
(55,Tryz.f55),
(54,Tryz.f54),
(41,Tryz.f41),
(53,Tryz.f53),
(52,Tryz.f52),
(40,Tryz.f40),
(51,Tryz.f51),
(80,Tryz.f80),
(45,Tryz.f45),
(39,Tryz.f39),
(268,Tryz.f268),
(266,Tryz.f266),
(265,Tryz.f265),
(264,Tryz.f264),
(262,Tryz.f262),
(259,Tryz.f259),
(260,Tryz.f260),
(267,Tryz.f267),
(263,Tryz.f263),
(270,Tryz.f270),
(75,Tryz.f75),
(114,Tryz.f114),
(151,Tryz.f151),
(150,Tryz.f150),
(149,Tryz.f149),
(148,Tryz.f148),
(115,Tryz.f115),
(113,Tryz.f113),
(269,Tryz.f269)]
theorem mi_is:chIs miL:=by unfold miL;repeat (first|exact trivial|refine And.intro (by kernel_rfl) ?_)
noncomputable def mi43(k0:List (Nat×Sm)):List (Nat×Sm):=chF 300 k0 miL
theorem s_mi43(h:SoundLK (JX ask X) k0):SoundLK (JX ask X) (mi43 k0):=kY _ mi_is (by kernel_rfl) h
end Go.Proofs.YtfagfflkgmcnpaaGreatDoor.Mx
namespace Go.Proofs.YtfagfflkgmcnpaaGreatDoor.Mx
open Go Go.Conc Lx Kx Tx
def drv{α:Type}:List (List Int)->T α->List (Nat×List Int)×Option α
 | l,t=>match t with
  | .ret a=>([],some a)
  | .fail=>([],none)
  | .op o f=>match l with
   | []=>([],none)
   | r::l=>match o,f with
    | .ask k a,f=>match drv l (f r) with
     | (q,x)=>((k,a)::q,x)
    | _,_=>([],none)
def scr:List (Nat×List Int×List Int)->T Unit
 | [] =>.ret ()
 | (k,a,r)::l =>.op (.ask k a) fun x=>bif eqZ x r then scr l else .fail
theorem xbM{α σ:Type}{step:PStep σ} : ∀ (L:List (Nat×List Int×List Int)) (t:T α) (a:α),drv (L.map fun x=>x.2.2) t=(L.map fun x=>(x.1,x.2.1),some a) ->∀s s',(scr L).run step s=some ((),s')->t.run step s=some (a,s')
 | [],t,a,h,s,s',hr=>by
  cases t with
  | ret b=>simp only[drv,List.map_nil,dI,oI,true_and]at h;subst h;simp only[scr,T.run,oI,dI,true_and]at hr;subst hr;rfl
  | fail=>simp[drv]at h
  | op o f=>simp[drv]at h
 | (k,q,r)::L,t,a,h,s,s',hr=>by
  cases t with
  | ret b=>simp[drv]at h
  | fail=>simp[drv]at h
  | op o f=>
   cases o with
   | ask k' q'=>
    simp only[drv,List.map_cons,dI]at h
    obtain⟨h1,h2⟩:=h
    simp only[List.cons.injEq,dI]at h1
    obtain⟨⟨rfl,rfl⟩,h1⟩:=h1
    simp only[scr,T.run]at hr |-
    split at hr
    rotate_left
    .cases hr
    rename_i x s1 hx
    cases he:eqZ x r with
    | false=>rw[he]at hr;cases hr
    | true=>
     rw[he]at hr
     have:=YM he
     subst this
     exact xbM L (f x) a (Prod.ext h1 h2) s1 s' hr
   | _=>simp[drv]at h
def xdg(k:Nat)(a:List Int)(f:Int->T Unit):T Unit :=.op (.ask k a) fun x=>match x with
 | [i]=>f i
 | _ =>.fail
theorem YO{σ:Type}{step:PStep σ}{k:Nat}{a:List Int}{f:Int->T Unit}{s s':σ}(h:(xdg k a f).run step s=some ((),s')) : ∃i s1,step (.ask k a) s=some ([i],s1)/\(f i).run step s1=some ((),s'):=by
 simp only[xdg,T.run]at h
 split at h
 .rename_i x s1 hx
  split at h
  .rename_i i
   exact⟨i,s1,hx,h⟩
  .cases h
 .cases h
theorem jo{σ:Type}{step:PStep σ}{k:Nat}{a r:List Int}{L:List (Nat×List Int×List Int)}{s s1 s':σ}(h:step (.ask k a) s=some (r,s1))(h':(scr L).run step s1=some ((),s')):(scr ((k,a,r)::L)).run step s=some ((),s'):=by
 simp only[scr,T.run,h]
 have:eqZ r r=true:=by
  clear h h'
  induction r with
  | nil=>rfl
  | cons x r ih=>simp[eqZ,ih]
 rw[this]
 exact h'
theorem Ko{σ:Type}{step:PStep σ}{k:Nat}{a r:List Int}{f:T Unit}{s s':σ}(h:T.run step (.op (.ask k a) fun x=>bif eqZ x r then f else .fail) s=some ((),s')) : ∃s1,step (.ask k a) s=some (r,s1)/\f.run step s1=some ((),s'):=by
 simp only[T.run]at h
 split at h
 .rename_i x s1 hx
  cases he:eqZ x r with
  | false=>rw[he]at h;cases h
  | true=>
   rw[he]at h
   have:=YM he
   subst this
   exact⟨s1,hx,h⟩
 .cases h
theorem xg8 {σ:Type} {J:KBase Tryz.prog σ} {l:List (Nat×Sm)} (hl:SoundLK J l) {f:FuncId} {fn:Func} (n:Fu) (bc:J.bad f=false) (hf:(Tryz.prog).funcs[f]? = some fn) (be:(fn.name == "runtime.NumGoroutine")=false) (an:fn.body.isSome=true) {args0:List V} {t:T Unit} {v0:V} {H0:Heap} {m:Sm}
  (hm : ∀args H S,m args H=some S->args=args0/\H = []/\S=mkS Unit t fun _=>some (v0,H0))
  (ht : ∀s s',t.run J.step s=some ((),s')->(evF Tryz.prog (xU l) n fn args0 []).run J.step s=some ((v0,H0),s')):xx J f m:=by
 refine⟨(yx hl n bc hf be an).1,fun args H S hS e w s F vs E hv hR hF hO x v H' s' aa aw =>?_⟩
 obtain⟨rfl,rfl,rfl⟩:=hm _ _ _ hS
 simp only[mkS,oI,dI]at aw
 obtain⟨rfl,rfl⟩:=aw
 have hx:x=():=rfl
 subst hx
 exact(wo (J:=J) hl.known yY wa (by kernel_rfl) bc hf be an n).2 _ [] _ rfl e w s F vs E hv hR hF hO (v0,H0) v0 H0 s' (ht _ _ aa) rfl
end Go.Proofs.YtfagfflkgmcnpaaGreatDoor.Mx
namespace Go.Proofs.YtfagfflkgmcnpaaGreatDoor.Kx
open Go Go.Conc Lx
section
variable{P:Program}{σ:Type}{J:KBase P σ}
theorem xaH (hr:Ze P) {f:FuncId} {fn:Func} {c:Code} {m:Sm} (bc:J.bad f=false) (hf:P.funcs[f]? = some fn) (be:(fn.name == "runtime.NumGoroutine")=false) (hb:fn.body=some c)
  (h : ∀args H S,m args H=some S ->∀x v H' s s',S.t.run J.step s=some (x,s')->S.f x=some (v,H') ->∀ (e:Env) (w:World) (F:Fo) (a:Act),e.length=H.length->CfgK J (fun q b=>Own q e H b\/F b) w e e ⟨Lx.begun fn args,H⟩ s F a w->OffS J (fun q b=>Own q e H b\/F b) w->
   KWp J f c (fun ex a' s1 F' w'=>s1=s'/\(ex = .normal\/ex = .ret)/\ ∃e' ac u,resV P fn ac=some u/\finish e.length u ac.heap=some (v,H')/\CfgK J (fun q b=>Own q e H b\/F b) w e e' ac s1 F' a' w') a s F w):xx J f m:=by
 refine⟨⟨fn,c,hf,be,hb⟩,?_⟩
 intro args H S ht e w s F vs E hv hR hF hO x v H' s' aa aw
 have aj:=xV _ _ _ hv
 intro O caller cs et ni
 rw[enter_at _ hf hb]
 refine h args H S ht x v H' s s' aa aw e w F _ E.len.symm ?_ (OffS.of hR hO) (O.from F.A) (base f) [] (caller::cs) ⟨rfl,bc⟩ rfl ?_ (Toks.le.refl _)
 .refine⟨⟨E,?_,fun t u hu =>?_,rfl⟩,hR,hF,Keeps.refl _ w,fun q b hb =>.inl hb,Ext.refl e⟩
  .simp[Lx.begun,aj];omega
  .obtain⟨_,hu⟩:=vR hu
   rcases jp args 0 .tip t u hu with⟨_,h1⟩|h1
   .rw[Nat.sub_zero]at h1
    have ht:=(List.getElem?_eq_some_iff.1 h1).1
    obtain⟨y,h2,h3⟩:=yD _ _ _ hv t _ h1
    refine⟨y,?_,h2⟩
    rw[Array.getElem?_append_left (by simpa[aj]using ht)]
    simpa using h3
   .rw[kr]at h1;cases h1
 .rintro ex a' s1 F' w' ⟨rfl,hex,e',ac,u,hu,gn,C⟩
  have leave : ∀todo,(O.from F.A).Ok s1 F' {(base f).at a' todo with mode :=.returning} (caller::cs) w':=fun todo=>(O.from F.A).okStep bc fun F₁ w₁ h₁=>by
   have C1:=relyK C h₁
   obtain⟨rv,h1,h2⟩:=Zc (P:=P) C1.rel hu
   obtain⟨e2,h3,h4,h5,h6⟩:=qp C1.rel.emb h2 C1.ext gn
   refine⟨_,_,_,_,stepG_leaveE rfl C1.rel.defers hf h1,J.dOwn (Keeps.refl _ w₁) (fun ev he=>hr (J.at F₁).toPortB C1.rel hu F₁ C1.disj ev (mem_seen he)),O.csTail et,fun hA=>ni rv F₁ w₁ ⟨hA,e2,h3,h4,h5,C1.rep,fun b hb=>C1.disj b (h6 _ b hb),C1.keeps,fun q b hb =>?_⟩⟩
   rcases C1.mine _ b (hb.imp (h6 _ b) id)with(h|h)|h
   .exact .inl h
   .exact .inr (.inl h)
   .exact .inr (.inr h)
  rcases hex with rfl|rfl
  .exact vE bc (fun _=>stepG_end) (leave [])
  .exact leave
def ordB(P:Program)(Γ:xK)(ops:Array Oper)(Z:St->Bool):Nat->Array Bool->St->Bool
 | 0,listed,st=>(Region.ready .any ops listed).isEmpty&&Z st
 | n+1,listed,st=>match Region.ready .any ops listed with
  | []=>Z st
  | i::l=>(i::l).all fun i=>match ops[i]? with
   | some o=>match yl P Γ ops .free o st T.ret with
    | .ret ac=>ordB P Γ ops Z n (listed.setIfInBounds i true) ac
    | _=>false
   | none=>false
theorem xaI{Γ:xK}(hΓ : ∀f m,Γ f=some m->xx J f m)(hq:OpsQuiet P){ops:Array Oper}{Z:St->Bool}{fn:FuncId}{Q:wN σ}{S0:Bool->Nat->Prop}{w0:World}[OffS J S0 w0]{e0:Env}{s:σ} : ∀ (n:Nat) (listed:Array Bool) (st:St) (e:Env) (F:Fo) (a:Act) (w:World),(∀e' ac F' a' w',Z ac=true->CfgK J S0 w0 e0 e' ac s F' a' w'->Q .normal a' s F' w')->
  CfgK J S0 w0 e0 e st s F a w->ordB P Γ ops Z n listed st=true->KAny J fn .any ops Q n listed a s F w
 | 0,listed,st,e,F,a,w,hQ,C,h=>by
  simp only[ordB,dM,List.isEmpty_iff]at h
  exact⟨h.1,hQ e st F a w h.2 C⟩
 | n+1,listed,st,e,F,a,w,hQ,C,h=>by
  simp only[ordB]at h
  split at h
  .rename_i hr
   refine⟨fun _=>hQ e st F a w h C,fun i hi =>?_⟩
   rw[hr]at hi;cases hi
  .rename_i i0 l hr
   refine⟨fun h0=>(by rw[hr]at h0;cases h0),fun i hi =>?_⟩
   rw[hr]at hi
   have h1:=List.all_eq_true.1 h i hi
   split at h1
   .rename_i o ho
    split at h1
    .rename_i ac az
     have aa:(yl P Γ ops .free o st T.ret).run J.step s=some (ac,s):=by rw[az];rfl
     obtain⟨st2,s2,g1,_,g3⟩:=vO hΓ hq C aa
     simp only[T.run,oI,dI]at g1
     obtain⟨rfl,rfl⟩:=g1
     exact⟨o,ho,g3 fn _ fun e' F' a' w' _ C'=>xaI hΓ hq n _ _ e' F' a' w' hQ C' h1⟩
    .cases h1
   .cases h1
theorem xbN{Γ:xK}(hΓ : ∀f m,Γ f=some m->xx J f m)(hq:OpsQuiet P)(hm:P.follows .mixedOrders=true){n:Fu}{c:Code}{st st1:St}{fn:FuncId}{K:Act->σ->Fo->World->Prop}{Q:wN σ}{S0:Bool->Nat->Prop}{w0:World}[OffS J S0 w0]{e0 e:Env}{s:σ}{F:Fo}{a:Act}{w:World}
  (C:CfgK J S0 w0 e0 e st s F a w) (h:ev P Γ n e0.length c 0 st (fun ex st=>T.ret (ex,st)) = .ret (.normal,st1)) (hK : ∀e' F' a' w',CfgK J S0 w0 e0 e' st1 s F' a' w'->K a' s F' w'):KWp J fn c (xfq K Q) a s F w:=by
 refine vi hΓ hq hm n (r:=((.normal,st1),s)) c 0 (fun ex st=>T.ret (ex,st)) (xfq K Q) (fun ex e1 st2 s2 F1 a1 w1 hr C1 =>?_) e st s F a w C (by rw[h];rfl)
 simp only[T.run,oI,dI]at hr
 obtain⟨⟨rfl,rfl⟩,rfl⟩:=hr
 exact hK e1 F1 a1 w1 C1
end
end Go.Proofs.YtfagfflkgmcnpaaGreatDoor.Kx
namespace Go.Proofs.YtfagfflkgmcnpaaGreatDoor.Mx
open Go Go.Conc Lx Kx Tx
noncomputable def Xa:Code->Code
 | .seq a _=>a
 | c=>c
noncomputable def Wr:Code->Code
 | .seq _ b=>b
 | c=>c
noncomputable def codeO:Code->Array Oper
 | .region _ ops _=>ops
 | _=> #[]
noncomputable def memB:Code:= Tryz.f21.body.getD .ret
noncomputable def memR:Code:=Xa (Wr (Wr memB))
noncomputable def memOps:Array Oper:=codeO memR
noncomputable def memV:V :=.tup [.c (.ptr 0 0),.c (.int .i64 0)]
noncomputable def memH(n k:Nat):Heap :=[some ⟨[.slr 1 n,.slr 2 k], 94,false,none⟩,some ⟨[], 50,true,some (.col .u64 (List.replicate n 0))⟩,some ⟨[], 5,true,some (.col .u8 (List.replicate k 0))⟩]
noncomputable def isMem(n k:Nat):V->Heap->Bool
 | .tup [.c (.ptr 0 0),.c (.int .i64 0)],[some ⟨[.slr 1 n1,.slr 2 k1],t1,false,none⟩,some ⟨[],t2,true,some (.col .u64 l)⟩,some ⟨[],t3,true,some (.col .u8 l')⟩]=>Nat.beq n1 n&&Nat.beq k1 k&&Nat.beq t1 94 && Nat.beq t2 50 && Nat.beq t3 5 && decide (l=List.replicate n 0)&&decide (l'=List.replicate k 0)
 | _,_=>false
theorem xiP{n k:Nat}{v:V}{H:Heap}(h:isMem n k v H=true):v=memV/\H=memH n k:=by
 unfold isMem at h
 split at h
 .simp only[dM,decide_eq_true_eq]at h
  obtain⟨⟨⟨⟨⟨⟨h1,h2⟩,h3⟩,h4⟩,h5⟩,rfl⟩,rfl⟩:=h
  have h1:=dP h1
  have h2:=dP h2
  have h3:=dP h3
  have h4:=dP h4
  have h5:=dP h5
  subst h1 h2 h3 h4 h5
  exact⟨rfl,rfl⟩
 .cases h
noncomputable def memZ(n k:Nat)(st:St):Bool:=match Lx.resV Tryz.prog Tryz.f21 st with
 | some u=>match finish 0 u st.heap with
  | some r=>isMem n k r.1 r.2
  | none=>false
 | none=>false
noncomputable def xiQ(n k:Int):Bool:=match ev Tryz.prog (fun _=>none) 0 0 (Xa memB) 0 ⟨Lx.begun Tryz.f21 [.c (.int .i64 n),.c (.int .i64 k)],[]⟩ (fun ex st=>T.ret (ex,st)) with
 | .ret (.normal,st1)=>match ev Tryz.prog (fun _=>none) 0 0 (Xa (Wr memB)) 0 st1 (fun ex st=>T.ret (ex,st)) with
  | .ret (.normal,st2)=>ordB Tryz.prog (fun _=>none) memOps (memZ n.toNat k.toNat) memOps.size (Array.replicate memOps.size false) st2
  | _=>false
 | _=>false
noncomputable def mMem:Sm:=fun
 | [.c (.int .i64 n),.c (.int .i64 k)],[]=>match xiQ n k with
  | true=>some (mkS Unit (.ret ()) fun _=>some (memV,memH n.toNat k.toNat))
  | false=>none
 | _,_=>none
theorem memB_eq : ∃id,Tryz.f21.body=some (.seq (Xa memB) (.seq (Xa (Wr memB)) (.seq (.region id memOps true) .ret))):=⟨_,rfl⟩
theorem Kp{ask:AskT}{X:Xp}:xx (JX ask X) 21 mMem:=by
 obtain⟨id,an⟩:=memB_eq
 refine xaH wa (by kernel_rfl) Tryz.func21 (by kernel_rfl) an fun args H S hm x v H' s s' aa aw e w F a he C hOff =>?_
 unfold mMem at hm
 split at hm
 .rename_i n k
  split at hm
  .rename_i fl
   cases hm
   simp only[T.run,oI,dI]at aa
   obtain⟨_,rfl⟩:=aa
   simp only[oI,dI]at aw
   obtain⟨rfl,rfl⟩:=aw
   have Bk:e.length=0:=by simpa using he
   unfold xiQ at fl
   split at fl
   .rename_i st1 h1
    split at fl
    .rename_i st2 h2
     have hΓ : ∀f m,(fun _=>none:xK) f=some m->xx (JX ask X) f m:=fun f m h=>by cases h
     refine qr (xbN hΓ yY (by kernel_rfl) C (by rw[Bk];exact h1) fun e1 F1 a1 w1 C1 =>?_)
     refine qr (xbN hΓ yY (by kernel_rfl) C1 (by rw[Bk];exact h2) fun e2 F2 a2 w2 C2 =>?_)
     refine qr (wO (by kernel_rfl) fun F3 w3 u7 =>?_)
     refine xaI hΓ yY _ _ st2 e2 F3 a2 _ (fun e' ac F' a' w' hz C' =>?_) (relyK C2 u7).drew fl
     refine xbk ⟨rfl,.inr rfl,e',ac,?_⟩
     unfold memZ at hz
     split at hz
     .rename_i u hu
      split at hz
      .rename_i r hr
       obtain⟨g1,g2⟩:=xiP hz
       refine⟨u,hu,?_,C'⟩
       rw[Bk,hr,<- g1,<- g2]
      .cases hz
     .cases hz
    .cases fl
   .cases fl
  .cases hm
 .cases hm
#print axioms Kp
end Go.Proofs.YtfagfflkgmcnpaaGreatDoor.Mx
namespace Go.Proofs.YtfagfflkgmcnpaaGreatDoor.Mx
open Go Go.Conc Lx Kx Tx
noncomputable def kIni:List (Nat×Sm):=(21,mMem)::(20,mGeo)::kThr
theorem s_kIni{ask:AskT}{X:Xp}(h:SoundLK (JX ask X) kThr):SoundLK (JX ask X) kIni :=.cons Kp (.cons Kn h)
end Go.Proofs.YtfagfflkgmcnpaaGreatDoor.Mx
namespace Go.Proofs.YtfagfflkgmcnpaaGreatDoor.Mx
open Go Go.Conc Lx Kx Tx
def words12:List Int :=[0,0,0,0,0,0,0,1,0,0,0,0,0,0,0,0,1,0,0,0,0,0,0,9,0,0,0,0,0,0,0,0,0,0,0,0,0,0,0,0,0,0,0,0,0,0,0,0,0,0,0,0,0,0,0,0,0,0,0,0,0,0,0,0,0,0,0,0,0,0,0,0,0,0,0,0,0,0,0,0,0,0,0,0,2,3,4,5,6,7,8,9,10,11,12,13,14,15,16,17,18,19,20,21,22,23,24,25,26,27,28,29,30,0,0,0,0,0,0,0,0,0,0,0,0,0,0,0,0,0,0,0,0,0,0,0,0,0,0,0,0,0,0,0,0,0,0,0,0,0,0,0,0,0,0,0,0,0,0,0,0,0,0,0,0,0,0,0,0,0,0,0,0,0,0,0,0,0,0,0,0,0,0,0,0,0,0,0,0,0,0,0,0,0,0,0,0,0,0,0,0,0,0,0,0,0,0,0,0,0,0,0,0,0,0,0,0,0,0,0,0,0,0,0,0,0,0,0,0,0,0,0,0,0,0,0,0,0,0,0,0,0,0,0,0,0,0,0,0,0,0,0,0,0,0,0,0,0,0,0,0,0,0,0,0,0,0,0,0,0,0,0,0,0,0,0,0,0,0,0,0,0,0,0,0,0,0,0,0,0,0,0,0,0,0,0,0,0,0,0,0,0,0,0,0,0,0,0,0,0,0,0,0,0,0,0,0,0,0,0,0,0,0,0,0,0,0,0,0,0,0,0,0,0,0,0,0,0,0,0,0,0,0,0,0,0,0,0,0,0,0,0,0,0]
def xeP(i0 i1:Int):Heap :=[some ⟨geo12 ++ [.ptr 1 0,.slg 4 0 2,.nils,.int .i64 0,.bool false], 69,false,none⟩,
 some ⟨[.slr 2 354,.slr 3 64], 94,false,none⟩,
 some ⟨[], 50,true,some (.col .u64 words12)⟩,
 some ⟨[], 5,true,some (.col .u8 (List.replicate 64 0))⟩,
 some ⟨[.ptr 5 0,.ptr 7 0], 73,true,none⟩,
 some ⟨[.ptr 6 0,.int .i64 0,.nils]++resC [0,0,0,0,0,0,0,0,0,0,0], 78,false,none⟩,
 some ⟨[],0,false,some (.tok i0.toNat 0)⟩,
 some ⟨[.ptr 8 0,.int .i64 0,.nils]++resC [0,0,0,0,0,0,0,0,0,0,0], 78,false,none⟩,
 some ⟨[],0,false,some (.tok i1.toNat 0)⟩]
def xbO:V :=.tup [.c (.ptr 0 0),.c (.int .i64 0)]
theorem xg9(i0 i1:Int):drv [[i0],[i1]] (evF Tryz.prog (xU (mi43 kIni)) 300 Tryz.f13 [.c (.int .i64 1),.c (.int .i64 2)] [])=([(0,[0]),(0,[1])],some (xbO,xeP i0 i1)):=by kernel_rfl
end Go.Proofs.YtfagfflkgmcnpaaGreatDoor.Mx
namespace Go.Proofs.YtfagfflkgmcnpaaGreatDoor.Mx
open Go Go.Conc Lx Kx Tx
def newT12:T (Int×Int) :=.op (.ask 0 [0]) fun x=>match x with
 | [i] =>.op (.ask 0 [1]) fun y=>match y with
  | [j] =>.ret (i,j)
  | _ =>.fail
 | _ =>.fail
theorem xeQ{σ:Type}{step:PStep σ}{s s':σ}{p:Int×Int}(h:newT12.run step s=some (p,s')) : ∃s1,step (.ask 0 [0]) s=some ([p.1],s1)/\step (.ask 0 [1]) s1=some ([p.2],s'):=by
 simp only[newT12,T.run]at h
 split at h
 .rename_i x s1 hx
  split at h
  .rename_i i
   simp only[T.run]at h
   split at h
   .rename_i y s2 hy
    split at h
    .rename_i j
     simp only[T.run,oI,dI]at h
     obtain⟨rfl,rfl⟩:=h
     exact⟨s1,hx,hy⟩
    .cases h
   .cases h
  .cases h
 .cases h
def xbP:Sm:=fun
 | [.c (.int .i64 a),.c (.int .i64 b)],[]=>if a=1/\b=2 then some (mkS (Int×Int) newT12 fun p=>some (xbO,xeP p.1 p.2))else none
 | _,_=>none
theorem Xb{ask:AskT}{X:Xp}(h:SoundLK (JX ask X) kThr):xx (JX ask X) 13 xbP:=by
 have hl:=s_mi43 (s_kIni h)
 refine⟨(yx (J:=JX ask X) hl 300 (by kernel_rfl) Tryz.func13 (by kernel_rfl) (by kernel_rfl)).1,fun args H S hS e w s F vs E hv hR hF hO x v H' s' aa aw =>?_⟩
 unfold xbP at hS
 split at hS
 rotate_left
 .cases hS
 rename_i a b
 split at hS
 rotate_left
 .cases hS
 rename_i Dh
 obtain⟨rfl,rfl⟩:=Dh
 cases hS
 obtain⟨s1,h1,h2⟩:=xeQ aa
 simp only[mkS,oI,dI]at aw
 obtain⟨rfl,rfl⟩:=aw
 refine(wo (J:=JX ask X) hl.known yY wa (by kernel_rfl) (by kernel_rfl) Tryz.func13 (by kernel_rfl) (by kernel_rfl) 300).2 _ [] _ rfl e w s F vs E hv hR hF hO (xbO,xeP x.1 x.2) xbO _ s' ?_ rfl
 refine xbM [(0,[0],[x.1]),(0,[1],[x.2])] _ _ (xg9 x.1 x.2) s s' ?_
 exact jo (step:=(JX ask X).step) h1 (jo (step:=(JX ask X).step) h2 rfl)
#print axioms Xb
end Go.Proofs.YtfagfflkgmcnpaaGreatDoor.Mx
namespace Go.Proofs.YtfagfflkgmcnpaaGreatDoor.Mx
open Go Go.Conc Lx Kx Tx
variable{c:WC}{k0:List (Nat×Sm)}
noncomputable def wkL:List (Nat×Func) :=[
(73,Tryz.f73),
(72,Tryz.f72),
(111,Tryz.f111),
(71,Tryz.f71),
(70,Tryz.f70),
(110,Tryz.f110),
(146,Tryz.f146),
(187,Tryz.f187),
(211,Tryz.f211),
(185,Tryz.f185),
(38,Tryz.f38),
(145,Tryz.f145),
(69,Tryz.f69),
(68,Tryz.f68),
(104,Tryz.f104),
(67,Tryz.f67),
(99,Tryz.f99),
(98,Tryz.f98),
(103,Tryz.f103),
(66,Tryz.f66),
(97,Tryz.f97),
(96,Tryz.f96),
(134,Tryz.f134),
(65,Tryz.f65),
(95,Tryz.f95),
(94,Tryz.f94),
(133,Tryz.f133),
(172,Tryz.f172),
(171,Tryz.f171),
(170,Tryz.f170),
(169,Tryz.f169),
(202,Tryz.f202),
(168,Tryz.f168),
(132,Tryz.f132),
(167,Tryz.f167),
(131,Tryz.f131),
(130,Tryz.f130),
(135,Tryz.f135),
(177,Tryz.f177),
(205,Tryz.f205),
(226,Tryz.f226),
(240,Tryz.f240),
(43,Tryz.f43),
(42,Tryz.f42),
(225,Tryz.f225),
(176,Tryz.f176),
(175,Tryz.f175),
(174,Tryz.f174),
(173,Tryz.f173),
(129,Tryz.f129),
(166,Tryz.f166),
(165,Tryz.f165),
(128,Tryz.f128),
(127,Tryz.f127),
(63,Tryz.f63),
(62,Tryz.f62),
(64,Tryz.f64),
(93,Tryz.f93),
(126,Tryz.f126),
(164,Tryz.f164),
(163,Tryz.f163),
(201,Tryz.f201),
(102,Tryz.f102),
(101,Tryz.f101),
(92,Tryz.f92),
(125,Tryz.f125),
(124,Tryz.f124),
(122,Tryz.f122),
(155,Tryz.f155),
(147,Tryz.f147),
(193,Tryz.f193),
(220,Tryz.f220),
(219,Tryz.f219),
(190,Tryz.f190),
(189,Tryz.f189),
(188,Tryz.f188),
(154,Tryz.f154),
(153,Tryz.f153),
(106,Tryz.f106),
(138,Tryz.f138),
(121,Tryz.f121),
(152,Tryz.f152),
(120,Tryz.f120),
(91,Tryz.f91),
(90,Tryz.f90),
(61,Tryz.f61),
(89,Tryz.f89),
(88,Tryz.f88),
(87,Tryz.f87),
(86,Tryz.f86),
(119,Tryz.f119),
(112,Tryz.f112),
(105,Tryz.f105),
(162,Tryz.f162),
(160,Tryz.f160),
(161,Tryz.f161),
(192,Tryz.f192),
(217,Tryz.f217),
(234,Tryz.f234),
(233,Tryz.f233),
(232,Tryz.f232),
(158,Tryz.f158),
(156,Tryz.f156),
(157,Tryz.f157),
(199,Tryz.f199),
(223,Tryz.f223),
(238,Tryz.f238),
(200,Tryz.f200),
(224,Tryz.f224),
(239,Tryz.f239),
(218,Tryz.f218),
(216,Tryz.f216),
(44,Tryz.f44),
(57,Tryz.f57),
(84,Tryz.f84),
(118,Tryz.f118),
(83,Tryz.f83),
(56,Tryz.f56),
(82,Tryz.f82),
(194,Tryz.f194),
(191,Tryz.f191),
(215,Tryz.f215),
(214,Tryz.f214),
(198,Tryz.f198),
(222,Tryz.f222),
(237,Tryz.f237),
(236,Tryz.f236),
(235,Tryz.f235),
(197,Tryz.f197),
(221,Tryz.f221),
(213,Tryz.f213),
(231,Tryz.f231),
(204,Tryz.f204),
(203,Tryz.f203),
(108,Tryz.f108),
(141,Tryz.f141),
(60,Tryz.f60),
(140,Tryz.f140),
(182,Tryz.f182),
(209,Tryz.f209),
(228,Tryz.f228),
(55,Tryz.f55),
(54,Tryz.f54),
(181,Tryz.f181),
(123,Tryz.f123),
(159,Tryz.f159),
(180,Tryz.f180),
(208,Tryz.f208),
(207,Tryz.f207),
(227,Tryz.f227),
(100,Tryz.f100),
(81,Tryz.f81),
(137,Tryz.f137),
(136,Tryz.f136),
(196,Tryz.f196),
(212,Tryz.f212),
(230,Tryz.f230),
(243,Tryz.f243),
(229,Tryz.f229),
(242,Tryz.f242),
(184,Tryz.f184),
(241,Tryz.f241),
(210,Tryz.f210),
(144,Tryz.f144),
(183,Tryz.f183),
(178,Tryz.f178),
(40,Tryz.f40),
(51,Tryz.f51),
(80,Tryz.f80),
(45,Tryz.f45),
(22,Tryz.f22),
(41,Tryz.f41),
(206,Tryz.f206),
(142,Tryz.f142),
(143,Tryz.f143),
(186,Tryz.f186),
(195,Tryz.f195),
(109,Tryz.f109),
(107,Tryz.f107),
(139,Tryz.f139),
(179,Tryz.f179),
(53,Tryz.f53),
(52,Tryz.f52)]
theorem wk_is:chIs wkL:=by unfold wkL;repeat (first|exact trivial|refine And.intro (by kernel_rfl) ?_)
noncomputable def wk183(k0:List (Nat×Sm)):List (Nat×Sm):=chF 60 k0 wkL
theorem s_wk183(h:SoundLK (JW c) k0):SoundLK (JW c) (wk183 k0):=kY _ wk_is (by kernel_rfl) h
end Go.Proofs.YtfagfflkgmcnpaaGreatDoor.Mx
namespace Go.Proofs.YtfagfflkgmcnpaaGreatDoor.Mx
open Go Go.Conc Lx Kx Tx
noncomputable def mCall:Sm:=inl Tryz.prog (xU (wk183 [])) 60 Tryz.f48
theorem xdh(c:WC):xx (JW c) 48 mCall:=yx (s_wk183 (c:=c) .nil) 60 (by kernel_rfl) Tryz.func48 (by kernel_rfl) (by kernel_rfl)
def okRun(p:Plan):Option ((V×Heap)×WS)->Bool
 | some ((.agg r,_),s1)=>wX s1.orc&&eqT s1.told p.tf&&eqIs r (resC p.rv)&&Nat.beq p.rv.length 11
 | _=>false
noncomputable def vOkW:VOk:=fun self l p=>okRun p ((evF Tryz.prog (xU (wk183 [])) 60 Tryz.f48 [.c .port,.agg (List.zipWith C.int geoK (l.take 22)),.agg (List.zipWith C.int callK (l.drop 22))] []).run (stepW {wc0 with self:=self}) ⟨0,none,p.orc⟩)
theorem xeR{c d:WC}(h:c.self=d.self):stepW c=stepW d:=by
 funext o s
 cases o<;>simp only[stepW,h]
theorem xiR{p:Plan}{r:Option ((V×Heap)×WS)}(h:okRun p r=true):p.rv.length=11/\ ∃H' s1,r=some ((.agg (resC p.rv),H'),s1)/\s1.orc = []/\s1.told=p.tf:=by
 unfold okRun at h
 split at h
 .rename_i r' H' s1
  simp only[dM]at h
  obtain⟨⟨⟨h1,h2⟩,h3⟩,h4⟩:=h
  refine⟨dP h4,H',s1,?_,?_,xbs h2⟩
  .rw[xbr h3]
  .cases ho:s1.orc with
   | nil=>rfl
   | cons a l=>rw[ho]at h1;cases h1
 .cases h
theorem xdi(self:Int)(lg lc:List Int)(p:Plan)(h:vOkW self (lg++lc) p=true)(hg:lg.length=22)(hc:lc.length=7):xaD self (.agg (List.zipWith Value.int geoK lg).toArray) (.agg (List.zipWith Value.int callK lc).toArray) p:=by
 obtain⟨h1,H',s1,h2,h3,h4⟩:=xiR h
 refine⟨h1,fun c bk=>⟨s1,h3,h4,fun F₁ w₁ hR =>?_⟩⟩
 rw[show(lg++lc).take 22=lg from List.take_left' hg,show(lg++lc).drop 22=lc from List.drop_left' hg,xeR (d:=c) (c :={wc0 with self:=self}) bk.symm]at h2
 refine((xdh c).2 [.c .port,.agg (List.zipWith C.int geoK lg),.agg (List.zipWith C.int callK lc)] [] _ rfl [] w₁ ⟨0,none,p.orc⟩ F₁ [pvW c,.agg (List.zipWith Value.int geoK lg).toArray,.agg (List.zipWith Value.int callK lc).toArray] (xba _ w₁) ?_ hR (fun b hb=>(jt b hb).elim) ⟨fun _ _ h=>h,trivial⟩ (.agg (resC p.rv),H') (.agg (resC p.rv)) H' s1 h2 rfl).mono ?_
 .simp only[allSome,denV,den,Ye,dN]
  rfl
 .rintro rv F' w' ⟨_,e',_,hd,_,hR',_⟩
  refine⟨?_,hR'⟩
  simp only[resC,denV,Ye,dN,oI]at hd
  exact hd.symm
#print axioms xdi
end Go.Proofs.YtfagfflkgmcnpaaGreatDoor.Mx
namespace Go.Proofs.YtfagfflkgmcnpaaGreatDoor.Mx
open Go Go.Conc Lx Kx Tx
def eqA(a b:Tx.Ask):Bool:=decide (a.k=b.k)&&decide (a.at_=b.at_)&&decide (a.a=b.a)&&decide (a.b=b.b)&&eqT a.told b.told&&decide (a.v=b.v)
theorem eqA_eq{a b:Tx.Ask}(h:eqA a b=true):a=b:=by
 simp only[eqA,dM,decide_eq_true_eq]at h
 obtain⟨⟨⟨⟨⟨h1,h2⟩,h3⟩,h4⟩,h5⟩,h6⟩:=h
 cases a;cases b
 simp only at h1 h2 h3 h4 h5 h6
 rw[h1,h2,h3,h4,h6,xbs h5]
def eqAs:List Tx.Ask->List Tx.Ask->Bool
 | [],[]=>true
 | x::l,y::m=>eqA x y&&eqAs l m
 | _,_=>false
theorem xfP : ∀ {l m:List Tx.Ask},eqAs l m=true->l=m
 | [],[],_=>rfl
 | x::l,y::m,h=>by
  simp only[eqAs,dM]at h
  rw[eqA_eq h.1,xfP h.2]
 | [],_::_,h=>by cases h
 | _::_,[],h=>by cases h
def eqP(p q:Plan):Bool:=eqAs p.orc q.orc&&eqZ p.rv q.rv&&eqT p.tf q.tf
theorem eqP_eq{p q:Plan}(h:eqP p q=true):p=q:=by
 simp only[eqP,dM]at h
 obtain⟨⟨h1,h2⟩,h3⟩:=h
 have h1:=xfP h1
 have h2:=YM h2
 have h3:=xbs h3
 cases p;cases q
 simp only at h1 h2 h3
 rw[h1,h2,h3]
def vOkL(L:List (Int×List Int×Plan)):VOk:=fun self l p=>L.any fun x=>decide (x.1=self)&&eqZ l x.2.1&&eqP p x.2.2
theorem xeS{L:List (Int×List Int×Plan)}(hL : ∀x∈L,vOkW x.1 x.2.1 x.2.2=true)(self:Int)(lg lc:List Int)(p:Plan)(h:vOkL L self (lg++lc) p=true)(hg:lg.length=22)(hc:lc.length=7):xaD self (.agg (List.zipWith Value.int geoK lg).toArray) (.agg (List.zipWith Value.int callK lc).toArray) p:=by
 simp only[vOkL,List.any_eq_true,dM,decide_eq_true_eq]at h
 obtain⟨x,hx,⟨rfl,h2⟩,h3⟩:=h
 have e1:=YM h2
 have e2:=eqP_eq h3
 subst e2
 refine xdi _ lg lc _ ?_ hg hc
 rw[e1]
 exact hL x hx
end Go.Proofs.YtfagfflkgmcnpaaGreatDoor.Mx
namespace Go.Proofs.YtfagfflkgmcnpaaGreatDoor.Mx
open Go Go.Conc Lx Kx Tx
def xbQ:Plan:=⟨[⟨1,1,0,0,none,0⟩,⟨1,1,0,0,none,0⟩,⟨1,54,0,0,none,0⟩,⟨1,55,0,0,none,0⟩,⟨1,19,0,0,none,0⟩,⟨1,64,0,0,none,0⟩,⟨2,68,0,0,none,0⟩,⟨1,64,0,0,none,0⟩,⟨1,60,0,0,none,0⟩,⟨2,68,0,0,none,0⟩,⟨1,60,0,0,none,0⟩,⟨1,19,0,0,none,0⟩,⟨2,68,0,0,none,0⟩,⟨2,69,0,0,none,0⟩,⟨1,24,0,0,none,0⟩,⟨1,24,0,0,none,0⟩,⟨3,0,0,2,none,1⟩,⟨1,7,0,0,none,1⟩,⟨1,23,0,0,none,9⟩,⟨4,7,18446744073709551615,0,none,1⟩,⟨2,23,12,0,none,0⟩,⟨2,23,81931,0,none,0⟩,⟨1,24,0,0,none,0⟩,⟨2,24,4294968066,0,none,0⟩,⟨4,1,1,0,none,0⟩,⟨3,0,2,0,none,1⟩,⟨4,22,1,0,none,0⟩,⟨2,34,279172874321,0,none,0⟩,⟨4,2,1,0,some (resC [0,24,0,0,0,0,0,0,0,28,0]),0⟩,⟨4,5,1,0,some (resC [0,24,0,0,0,0,0,0,0,28,0]),0⟩,⟨4,6,20,0,some (resC [0,24,0,0,0,0,0,0,0,28,0]),0⟩],[0,24,0,0,0,0,0,0,0,28,0],some (resC [0,24,0,0,0,0,0,0,0,28,0])⟩
def xiS:List Int :=[1,2,0,1,2,7,16,17,21,23,24,25,26,34,42,58,66,70,72,84,114,354]
def xiT:List Int :=[1,20,0,1,0,0,0]
theorem xha:vOkW 1 (xiS++xiT) xbQ=true:=by kernel_rfl
def pl12:List (Int×List Int×Plan) :=[(1,xiS++xiT,xbQ)]
theorem pl12_ok : ∀x∈pl12,vOkW x.1 x.2.1 x.2.2=true:=fun x hx=>by
 simp only[pl12,List.mem_cons,List.not_mem_nil,or_false]at hx
 subst hx
 exact xha
abbrev xfQ:AskT:=askN (vOkL pl12)
theorem s_thr12{X:Xp}:SoundLK (JX xfQ X) kThr:=s_kThr (xeS pl12_ok)
end Go.Proofs.YtfagfflkgmcnpaaGreatDoor.Mx
namespace Go.Proofs.YtfagfflkgmcnpaaGreatDoor.Mx
open Go Go.Conc Lx Kx Tx
variable{ask:AskT}{X:Xp}{k0:List (Nat×Sm)}
noncomputable def md1(k0:List (Nat×Sm)):List (Nat×Sm):=(113,inl Tryz.prog (xU k0) 300 Tryz.f113)::k0
theorem s_md1(h:SoundLK (JX ask X) k0):SoundLK (JX ask X) (md1 k0) :=.cons (yx h 300 (by kernel_rfl) Tryz.func113 (by kernel_rfl) (by kernel_rfl)) (h)
noncomputable def md2(k0:List (Nat×Sm)):List (Nat×Sm):=(115,inl Tryz.prog (xU (md1 k0)) 300 Tryz.f115)::(md1 k0)
theorem s_md2(h:SoundLK (JX ask X) k0):SoundLK (JX ask X) (md2 k0) :=.cons (yx (s_md1 h) 300 (by kernel_rfl) Tryz.func115 (by kernel_rfl) (by kernel_rfl)) (s_md1 h)
noncomputable def md3(k0:List (Nat×Sm)):List (Nat×Sm):=(148,inl Tryz.prog (xU (md2 k0)) 300 Tryz.f148)::(md2 k0)
theorem s_md3(h:SoundLK (JX ask X) k0):SoundLK (JX ask X) (md3 k0) :=.cons (yx (s_md2 h) 300 (by kernel_rfl) Tryz.func148 (by kernel_rfl) (by kernel_rfl)) (s_md2 h)
noncomputable def md4(k0:List (Nat×Sm)):List (Nat×Sm):=(149,inl Tryz.prog (xU (md3 k0)) 300 Tryz.f149)::(md3 k0)
theorem s_md4(h:SoundLK (JX ask X) k0):SoundLK (JX ask X) (md4 k0) :=.cons (yx (s_md3 h) 300 (by kernel_rfl) Tryz.func149 (by kernel_rfl) (by kernel_rfl)) (s_md3 h)
noncomputable def md5(k0:List (Nat×Sm)):List (Nat×Sm):=(150,inl Tryz.prog (xU (md4 k0)) 300 Tryz.f150)::(md4 k0)
theorem s_md5(h:SoundLK (JX ask X) k0):SoundLK (JX ask X) (md5 k0) :=.cons (yx (s_md4 h) 300 (by kernel_rfl) Tryz.func150 (by kernel_rfl) (by kernel_rfl)) (s_md4 h)
noncomputable def md6(k0:List (Nat×Sm)):List (Nat×Sm):=(151,inl Tryz.prog (xU (md5 k0)) 300 Tryz.f151)::(md5 k0)
theorem s_md6(h:SoundLK (JX ask X) k0):SoundLK (JX ask X) (md6 k0) :=.cons (yx (s_md5 h) 300 (by kernel_rfl) Tryz.func151 (by kernel_rfl) (by kernel_rfl)) (s_md5 h)
noncomputable def md7(k0:List (Nat×Sm)):List (Nat×Sm):=(114,inl Tryz.prog (xU (md6 k0)) 300 Tryz.f114)::(md6 k0)
theorem s_md7(h:SoundLK (JX ask X) k0):SoundLK (JX ask X) (md7 k0) :=.cons (yx (s_md6 h) 300 (by kernel_rfl) Tryz.func114 (by kernel_rfl) (by kernel_rfl)) (s_md6 h)
end Go.Proofs.YtfagfflkgmcnpaaGreatDoor.Mx
namespace Go.Proofs.YtfagfflkgmcnpaaGreatDoor.Mx
open Go Go.Conc Lx Kx Tx
def qH(n k:Nat)(w l:List Int):Heap :=[some ⟨[.slr 1 n,.slr 2 k], 94,false,none⟩,some ⟨[], 50,true,some (.col .u64 w)⟩,some ⟨[], 5,true,some (.col .u8 l)⟩]
def noDo(n k:Nat)(w l:List Int):T (V×Heap) :=.ret (.tup [.c (.int .u64 0),.c (.bool false)],qH n k w l)
def atDo(n k:Nat)(w l:List Int)(m:Nat)(at_:Int)(t:T (V×Heap)):T (V×Heap):=bif decide (at_<0)then noDo n k w l else bif decide (at_>=(m:Int))then noDo n k w l else bif decide (0<=at_/\at_<(m:Int))then t else .fail
def xdj(n k:Nat)(w l:List Int)(at_ now told:Int):T (V×Heap):=bif decide (0<=at_/\at_<(n:Int))then(bif inB w (prO 0 at_ 1 0)then .ret (.tup [.c (.int .u64 told),.c (.bool true)],qH n k (w.set (prO 0 at_ 1 0) now) l)else .fail)else .fail
def doT(n k:Nat)(w l:List Int)(at_ a b:Int):Int->T (V×Heap)
 | 1=>atDo n k w l n at_ (bif inR w.length at_ then xdj n k w l at_ (getI w at_.toNat) (getI w at_.toNat)else .fail)
 | 2=>atDo n k w l n at_ (bif inR w.length at_ then xdj n k w l at_ a 0 else .fail)
 | 3=>atDo n k w l n at_ (bif inR w.length at_ then(bif getI w at_.toNat != a then xdj n k w l at_ (getI w at_.toNat) 0 else xdj n k w l at_ b 1)else .fail)
 | 4=>atDo n k w l n at_ (bif inR w.length at_ then xdj n k w l at_ (u64.wrap (getI w at_.toNat+a)) (getI w at_.toNat)else .fail)
 | 5=>atDo n k w l k at_ (bif inR l.length at_ then .ret (.tup [.c (.int .u64 (u64.wrap (getI l at_.toNat))),.c (.bool true)],qH n k w l)else .fail)
 | 6=>atDo n k w l k at_ (bif inB l (prO 0 at_ 1 0)then .ret (.tup [.c (.int .u64 0),.c (.bool true)],qH n k w (l.set (prO 0 at_ 1 0) (u8.wrap a)))else .fail)
 | _ =>.fail
abbrev Zn(d at_ a b:Int):List V :=[.c (.ptr 0 0),.agg [.int .u8 d,.int .i64 at_,.int .u64 a,.int .u64 b]]
theorem do1_eq(n k:Nat)(w l:List Int)(at_ a b:Int):evF Tryz.prog (xU (md7 [])) 300 Tryz.f75 (Zn 1 at_ a b) (qH n k w l)=doT n k w l at_ a b 1:=by kernel_rfl
theorem do2_eq(n k:Nat)(w l:List Int)(at_ a b:Int):evF Tryz.prog (xU (md7 [])) 300 Tryz.f75 (Zn 2 at_ a b) (qH n k w l)=doT n k w l at_ a b 2:=by kernel_rfl
theorem do3_eq(n k:Nat)(w l:List Int)(at_ a b:Int):evF Tryz.prog (xU (md7 [])) 300 Tryz.f75 (Zn 3 at_ a b) (qH n k w l)=doT n k w l at_ a b 3:=by kernel_rfl
theorem do4_eq(n k:Nat)(w l:List Int)(at_ a b:Int):evF Tryz.prog (xU (md7 [])) 300 Tryz.f75 (Zn 4 at_ a b) (qH n k w l)=doT n k w l at_ a b 4:=by kernel_rfl
theorem do5_eq(n k:Nat)(w l:List Int)(at_ a b:Int):evF Tryz.prog (xU (md7 [])) 300 Tryz.f75 (Zn 5 at_ a b) (qH n k w l)=doT n k w l at_ a b 5:=by kernel_rfl
theorem do6_eq(n k:Nat)(w l:List Int)(at_ a b:Int):evF Tryz.prog (xU (md7 [])) 300 Tryz.f75 (Zn 6 at_ a b) (qH n k w l)=doT n k w l at_ a b 6:=by kernel_rfl
def mDoS:Sm:=fun args H=>match args with
 | [.c (.ptr 0 0),.agg [.int .u8 d,.int .i64 at_,.int .u64 a,.int .u64 b]]=>match H with
  | [some ⟨[.slr 1 n,.slr 2 k],t0,false,none⟩,some ⟨[],t1,true,some (.col .u64 w)⟩,some ⟨[],t2,true,some (.col .u8 l)⟩]=>
   bif Nat.beq t0 94 && Nat.beq t1 50 && Nat.beq t2 5 && decide (1<=d)&&decide (d<=6)then some (mkS (V×Heap) (doT n k w l at_ a b d) some)else none
  | _=>none
 | _=>none
theorem mDoS_eq{args:List V}{H:Heap}{S:Sum}(h:mDoS args H=some S) : ∃n k w l at_ a b d,args=Zn d at_ a b/\H=qH n k w l/\S=mkS (V×Heap) (doT n k w l at_ a b d) some/\(d=1\/d=2\/d=3\/d=4\/d=5\/d=6):=by
 unfold mDoS at h
 split at h
 .split at h
  .rename_i d at_ a b _ n k t0 t1 w t2 l
   rw[cond_eq_ite]at h
   split at h
   .rename_i hc
    simp only[dM,decide_eq_true_eq]at hc
    obtain⟨⟨⟨⟨h1,h2⟩,h3⟩,h4⟩,h5⟩:=hc
    have h1:=dP h1
    have h2:=dP h2
    have h3:=dP h3
    subst h1 h2 h3
    cases h
    exact⟨n,k,w,l,at_,a,b,d,rfl,rfl,rfl,by omega⟩
   .cases h
  .cases h
 .cases h
theorem Kq{ask:AskT}{X:Xp}:xx (JX ask X) 75 mDoS:=by
 have hl:=s_md7 (ask:=ask) (X:=X) (k0 :=[]) .nil
 refine⟨(yx (J:=JX ask X) hl 300 (by kernel_rfl) Tryz.func75 (by kernel_rfl) (by kernel_rfl)).1,fun args H S hS e w s F vs E hv hR hF hO x v H' s' aa aw =>?_⟩
 obtain⟨n,k,ws,l,at_,a,b,d,rfl,rfl,rfl,hd⟩:=mDoS_eq hS
 have bt:evF Tryz.prog (xU (md7 [])) 300 Tryz.f75 (Zn d at_ a b) (qH n k ws l)=doT n k ws l at_ a b d:=by
  rcases hd with rfl|rfl|rfl|rfl|rfl|rfl
  .exact do1_eq ..
  .exact do2_eq ..
  .exact do3_eq ..
  .exact do4_eq ..
  .exact do5_eq ..
  .exact do6_eq ..
 refine(wo (J:=JX ask X) hl.known yY wa (by kernel_rfl) (by kernel_rfl) Tryz.func75 (by kernel_rfl) (by kernel_rfl) 300).2 _ _ _ rfl e w s F vs E hv hR hF hO x v H' s' ?_ aw
 have aa:(doT n k ws l at_ a b d).run (JX ask X).step s=some (x,s'):=aa
 rw[<- bt]at aa
 exact aa
#print axioms Kq
end Go.Proofs.YtfagfflkgmcnpaaGreatDoor.Mx
namespace Go.Proofs.YtfagfflkgmcnpaaGreatDoor.Mx
open Go Go.Conc Lx Kx Tx
variable{ask:AskT}{g:Nat}{cs:List C}{vs:List Value}{el:TypeId}{fr:Nat×Nat}
abbrev varO(vs:List Value)(el:TypeId)(fr:Nat×Nat):Obj :=.cells vs.toArray el fr
theorem rdG_off{F:Nat->Prop}{n:Nat}{e:Event}(hg : ¬F g)(h6:EvGd (fun b=>b=g/\b<n) e):EvOff F n e:=by
 unfold EvGd at h6
 unfold EvOff
 split at h6
 .rename_i a ha
  rw[ha]
  exact⟨fun x=>hg (h6.1▸x),h6.2⟩
 .rename_i r hr
  rw[hr]
  exact⟨fun x=>hg (h6.1▸x),h6.2⟩
 .rename_i m hm
  rw[hm]
  exact h6
 .exact h6.elim
theorem xhb{S0:Bool->Nat->Prop}{w0:World}{e0 e:Lx.Env}{st:St}{s:MS}{F:Fo}{a:Act}{w:World}[OffS (JX ask (xpG g (varO vs el fr))) S0 w0]{fn:FuncId}{ops:Array Oper}{o:Oper}{K:Act->MS->Fo->World->Prop}{t:TypeId}{x:Operand}{p:Nat}{v:V}(bk : ∀pv e,denL pv e cs=some vs)
  (C:CfgK (JX ask (xpG g (varO vs el fr))) S0 w0 e0 e st s F a w) (ho:o.op = .load t x) (hx:xW st.tmps x=some (.c (.gp g p))) (hp:partT Tryz.prog t cs p=some v) (hw:Region.wanted o (yielded ops a.tmps)=true)
  (hK : ∀rv w',CfgK (JX ask (xpG g (varO vs el fr))) S0 w0 e0 e ⟨putT st.tmps o.dst v,st.heap⟩ s F (a.put o.dst rv) w'->K (a.put o.dst rv) s F w'):KOper (JX ask (xpG g (varO vs el fr))) fn ops o K a s F w:=by
 refine jS hw fun F₁ w₁ h₁ =>?_
 have C1:=relyK C h₁
 obtain⟨rfl,d,rfl⟩:=h₁
 have pg:(w.at d).heap[g]? = some (varO vs el fr):=CfgK.std C1
 have hR:RepG g s F₁ (w.at d):=C1.rep
 have mw:a.eval x = .pointer (some ⟨g,p,none⟩):=by
  have:=C1.rel.says x _ hx
  simpa[denV,den]using this.symm
 obtain⟨rv,h2,h3⟩:=jd (P:= Tryz.prog) (pv:=((JX ask (xpG g (varO vs el fr))).pv F₁).val) (e:=e) (w:=w.at d) (r:=g) (q:=0) (bk _ _) (fun j u hj=>by
  rw[Nat.zero_add,cell_of pg,List.getElem?_toArray,hj]) hp
 rw[Nat.zero_add]at h2
 refine⟨.value rv,w.at d,rv,?_,.inl rfl,⟨Keeps.refl _ _,fun ev he =>?_⟩,hK rv _ ?_⟩
 .simp[execOp,ho,mw,Instr.loadAt,Instr.sureAddr,h2]
 .have ao:g<(w.at d).heap.size:=(Array.getElem?_eq_some_iff.1 pg).1
  have hG:GdW (fun b=>b=g/\b<(w.at d).heap.size) (w.at d):=fun r hr=>⟨varO vs el fr,by rw[hr.1];exact pg,by trivial⟩
  have Jg:Tm Tryz.prog (fun b=>b=g/\b<(w.at d).heap.size) (execOp a.eval o):=by
   simp only[execOp,ho,mw]
   exact tm_v (ye (a:=⟨g,p,none⟩) (xA _).tm (fun _=>rfl) (qt hp fun _=>⟨rfl,ao⟩))
  have:=(Jg _ hG).1 #[] ev (Kx.mem_seen he)
  exact rdG_off hR.off (this.resolve_left (by simp))
 .exact ZD C1 (Toks.le.refl _) (Ext.refl e) h3 (v:=v) (rv:=rv) C1.rel.emb C1.rep C1.disj (Keeps.refl _ _) (fun q b hb=>hb.elim .inl fun h =>.inr (.inl h)) o.dst
noncomputable def extG(g:Nat)(cs:List C)(o:Oper)(tmps:Tm):Option V:=match o.op,o.guard with
 | .load t x,none=>match xW tmps x with
  | some (.c (.gp g' p))=>if g'=g then partT Tryz.prog t cs p else none
  | _=>none
 | _,_=>none
noncomputable def seqX(Γ:xK)(g:Nat)(cs:List C)(ops:Array Oper)(Z:St->Bool):List Nat->St->Bool
 | [],st=>Z st
 | i::l,st=>match ops[i]? with
  | some o=>match extG g cs o st.tmps with
   | some v=>seqX Γ g cs ops Z l ⟨putT st.tmps o.dst v,st.heap⟩
   | none=>match yl Tryz.prog Γ ops .free o st T.ret with
    | .ret ac=>seqX Γ g cs ops Z l ac
    | _=>false
  | none=>false
theorem YP{Γ:xK}(bk : ∀pv e,denL pv e cs=some vs)(hΓ : ∀f m,Γ f=some m->xx (JX ask (xpG g (varO vs el fr))) f m){ops:Array Oper}{Z:St->Bool}{fn:FuncId}{Q:wN MS}{S0:Bool->Nat->Prop}{w0:World}[OffS (JX ask (xpG g (varO vs el fr))) S0 w0]{e0:Lx.Env}{s:MS} : ∀ (l:List Nat) (st:St) (e:Lx.Env) (F:Fo) (a:Act) (w:World),(∀e' ac F' a' w',Z ac=true->CfgK (JX ask (xpG g (varO vs el fr))) S0 w0 e0 e' ac s F' a' w'->Q .normal a' s F' w')->
  CfgK (JX ask (xpG g (varO vs el fr))) S0 w0 e0 e st s F a w->seqX Γ g cs ops Z l st=true->KOps (JX ask (xpG g (varO vs el fr))) fn ops l Q a s F w
 | [],st,e,F,a,w,hQ,C,h=>XS (hQ e st F a w h C)
 | i::l,st,e,F,a,w,hQ,C,h=>by
  simp only[seqX]at h
  split at h
  .rename_i o ho
   refine YD ho ?_
   split at h
   .rename_i v hv
    unfold extG at hv
    split at hv
    .rename_i t x ab Ad
     split at hv
     .rename_i g' p hx
      split at hv
      .rename_i hg
       rw[hg]at hx
       exact xhb bk C ab hx hv (by simp[Region.wanted,Ad]) fun rv w' C'=>YP bk hΓ l _ e F _ w' hQ C' h
      .cases hv
     .cases hv
    .cases hv
   .split at h
    .rename_i ac az
     have aa:(yl Tryz.prog Γ ops .free o st T.ret).run (JX ask (xpG g (varO vs el fr))).step s=some (ac,s):=by rw[az];rfl
     obtain⟨st2,s2,g1,_,g3⟩:=vO hΓ yY C aa
     simp only[T.run,oI,dI]at g1
     obtain⟨rfl,rfl⟩:=g1
     exact g3 fn _ fun e' F' a' w' _ C'=>YP bk hΓ l _ e' F' a' w' hQ C' h
    .cases h
  .cases h
end Go.Proofs.YtfagfflkgmcnpaaGreatDoor.Mx
