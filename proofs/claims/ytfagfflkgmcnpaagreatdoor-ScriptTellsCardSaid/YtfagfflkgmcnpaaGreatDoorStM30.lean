/- Part. -/
import Derived.Test.YtfagfflkgmcnpaaGreatDoorStM29
import Derived.Test.YtfagfflkgmcnpaaGreatDoorRows
import Derived.LaidMore
import Derived.Lay
import Derived.LaidLaws
import Derived.Conc.LeavingOf
import Derived.Test.YtfagfflkgmcnpaaGreatDoorStLxMrg
import Derived.Laws.BitsAllLaws
import Derived.ChangeSlices
import Derived.Test.YtfagfflkgmcnpaaGreatDoorStOpenEvent
set_option linter.all false
open Go.IntKind (i64 u64 u32 u8)
set_option maxRecDepth 1000000
namespace Go.Proofs.YtfagfflkgmcnpaaGreatDoor.Mx
open Go Go.Conc Lx Kx Tx
def dbZ:List Int :=[0,1,56,2,57,49,28,3,61,58,42,50,38,29,17,4,62,47,59,36,45,43,51,22,53,39,33,30,24,18,12,5,63,55,48,27,60,41,37,16,46,35,44,21,52,32,23,11,54,26,40,15,34,20,31,10,25,14,19,9,13,8,7,6]
def dbC:List C:=dbZ.map (C.int .u8)
def dbV:List Value:=dbZ.map (Value.int .u8)
theorem Kr(k:IntKind)(pv:Value)(e:Lx.Env) : ∀l:List Int,denL pv e (l.map (C.int k))=some (l.map (Value.int k))
 | []=>by simp[denL]
 | x::l=>by simp only[List.map_cons,denL,den,Kr k pv e l]
theorem dbC_den(pv:Value)(e:Lx.Env):denL pv e dbC=some dbV:=Kr .u8 pv e dbZ
abbrev dbO(el:TypeId)(fr:Nat×Nat):Obj:=varO dbV el fr
noncomputable def tzB:Code:= Tryz.f79.body.getD .ret
noncomputable def tzOps:Array Oper:=codeO (Xa (Wr (Wr tzB)))
noncomputable def isTz(r:Int):V->Heap->Bool
 | .c (.int .i64 n),[]=>decide (n=r)
 | _,_=>false
theorem isTz_eq{r:Int}{v:V}{H:Heap}(h:isTz r v H=true):v = .c (.int .i64 r)/\H = []:=by
 unfold isTz at h
 split at h
 .simp only[decide_eq_true_eq]at h;subst h;exact⟨rfl,rfl⟩
 .cases h
noncomputable def tzZ(r:Int)(st:St):Bool:=match Lx.resV Tryz.prog Tryz.f79 st with
 | some u=>match finish 0 u st.heap with
  | some q=>isTz r q.1 q.2
  | none=>false
 | none=>false
noncomputable def xfR(x r:Int):Bool:=match ev Tryz.prog (fun _=>none) 0 0 (Xa tzB) 0 ⟨Lx.begun Tryz.f79 [.c (.int .u64 x)],[]⟩ (fun ex st=>T.ret (ex,st)) with
 | .ret (.normal,st1)=>match ev Tryz.prog (fun _=>none) 0 0 (Xa (Wr tzB)) 0 st1 (fun ex st=>T.ret (ex,st)) with
  | .ret (.normal,st2)=>seqX (fun _=>none) 1 dbC tzOps (tzZ r) (List.range tzOps.size) st2
  | _=>false
 | _=>false
def xaK(x:Int):Nat->Option Int
 | 0=>none
 | n+1=>if x=2 ^ n then some (n:Int)else xaK x n
noncomputable def xdl:Sm:=fun
 | [.c (.int .u64 x)],[]=>match xaK x 64 with
  | some r=>match xfR x r with
   | true=>some (mkS Unit (.ret ()) fun _=>some (.c (.int .i64 r),[]))
   | false=>none
  | none=>none
 | _,_=>none
theorem tzB_eq : ∃id,Tryz.f79.body=some (.seq (Xa tzB) (.seq (Xa (Wr tzB)) (.seq (.region id tzOps false) .ret))):=⟨_,rfl⟩
theorem jC{ask:AskT}{el:TypeId}{fr:Nat×Nat}:xx (JX ask (xpG 1 (dbO el fr))) 79 xdl:=by
 obtain⟨id,an⟩:=tzB_eq
 refine xaH wa (by kernel_rfl) Tryz.func79 (by kernel_rfl) an fun args H S hm x v H' s s' aa aw e w F a he C hOff =>?_
 unfold xdl at hm
 split at hm
 .rename_i n
  split at hm
  .rename_i r hr
   split at hm
   .rename_i fl
    cases hm
    simp only[T.run,oI,dI]at aa
    obtain⟨_,rfl⟩:=aa
    simp only[oI,dI]at aw
    obtain⟨rfl,rfl⟩:=aw
    have Bk:e.length=0:=by simpa using he
    unfold xfR at fl
    split at fl
    .rename_i st1 h1
     split at fl
     .rename_i st2 h2
      have hΓ : ∀f m,(fun _=>none:xK) f=some m->xx (JX ask (xpG 1 (dbO el fr))) f m:=fun f m h=>by cases h
      refine qr (xbN hΓ yY (by kernel_rfl) C (by rw[Bk];exact h1) fun e1 F1 a1 w1 C1 =>?_)
      refine qr (xbN hΓ yY (by kernel_rfl) C1 (by rw[Bk];exact h2) fun e2 F2 a2 w2 C2 =>?_)
      refine qr (VP ?_)
      refine YP dbC_den hΓ _ st2 e2 F2 a2 _ (fun e' ac F' a' w' hz C' =>?_) C2 fl
      refine xbk ⟨rfl,.inr rfl,e',ac,?_⟩
      unfold tzZ at hz
      split at hz
      .rename_i u hu
       split at hz
       .rename_i q hq
        obtain⟨g1,g2⟩:=isTz_eq hz
        refine⟨u,hu,?_,C'⟩
        rw[Bk,hq,<- g1,<- g2]
       .cases hz
      .cases hz
     .cases fl
    .cases fl
   .cases hm
  .cases hm
 .cases hm
#print axioms jC
end Go.Proofs.YtfagfflkgmcnpaaGreatDoor.Mx
namespace Go.Proofs.YtfagfflkgmcnpaaGreatDoor.Mx
open Go Go.Conc Lx Kx Tx
noncomputable def kScr:List (Nat×Sm):=(79,xdl)::(13,xbP)::(75,mDoS)::kThr
theorem s_kScr{ask:AskT}{el:TypeId}{fr:Nat×Nat}(h:SoundLK (JX ask (xpG 1 (dbO el fr))) kThr):SoundLK (JX ask (xpG 1 (dbO el fr))) kScr :=.cons jC (.cons (Xb h) (.cons Kq h))
end Go.Proofs.YtfagfflkgmcnpaaGreatDoor.Mx
namespace Go.Proofs.YtfagfflkgmcnpaaGreatDoor.Mx
open Go Go.Conc Lx Kx Tx
def xdm(i0 i1 n0:Int):List (Nat×List Int×List Int) :=[(4,[((i1.toNat:Nat):Int)],[1,1,0,0]),
 (2,[((i1.toNat:Nat):Int),0,((n0.toNat:Nat):Int),0,0,0,0,0,0,0,0,0,0,0],[]),
 (6,[((i1.toNat:Nat):Int)],[]),
 (5,[((i1.toNat:Nat):Int)],[1]),
 (4,[((i1.toNat:Nat):Int)],[1,1,0,0]),
 (2,[((i1.toNat:Nat):Int),0,((n0.toNat:Nat):Int),0,0,0,0,0,0,0,0,0,0,0],[]),
 (6,[((i1.toNat:Nat):Int)],[]),
 (5,[((i1.toNat:Nat):Int)],[1]),
 (4,[((i1.toNat:Nat):Int)],[1,54,0,0]),
 (2,[((i1.toNat:Nat):Int),0,((n0.toNat:Nat):Int),0,0,0,0,0,0,0,0,0,0,0],[]),
 (6,[((i1.toNat:Nat):Int)],[]),
 (5,[((i1.toNat:Nat):Int)],[1]),
 (4,[((i1.toNat:Nat):Int)],[1,55,0,0]),
 (2,[((i1.toNat:Nat):Int),0,((n0.toNat:Nat):Int),0,0,0,0,0,0,0,0,0,0,0],[]),
 (6,[((i1.toNat:Nat):Int)],[]),
 (5,[((i1.toNat:Nat):Int)],[1]),
 (4,[((i1.toNat:Nat):Int)],[1,19,0,0]),
 (2,[((i1.toNat:Nat):Int),0,((n0.toNat:Nat):Int),0,0,0,0,0,0,0,0,0,0,0],[]),
 (6,[((i1.toNat:Nat):Int)],[]),
 (5,[((i1.toNat:Nat):Int)],[1]),
 (5,[((i1.toNat:Nat):Int)],[1]),
 (3,[((i0.toNat:Nat):Int)],[]),
 (3,[((i1.toNat:Nat):Int),((n0.toNat:Nat):Int),0,0,0,0,0,0,0,0,0,0,0],[])]
def aw21T:T Unit:=xdg 0 [0] fun i0=>xdg 0 [1] fun i1 =>.op (.ask 5 [((i1.toNat:Nat):Int)]) fun x=>bif eqZ x [0]then(.op (.ask 5 [((i1.toNat:Nat):Int)]) fun x=>bif eqZ x [0]then(xdg 1 [((i1.toNat:Nat):Int),1,2,0,1,2,7,16,17,21,23,24,25,26,34,42,58,66,70,72,84,114,354,1,20,0,1,0,0,0,0,0,0,0,0,0,0,0,0,0,0] fun n0=>scr (xdm i0 i1 n0))else .fail)else .fail
def xbT(i0 i1 n0:Int):List (Nat×List Int×List Int) :=[(0,[0],[i0]),(0,[1],[i1]),(5,[((i1.toNat:Nat):Int)],[0]),(5,[((i1.toNat:Nat):Int)],[0]),(1,[((i1.toNat:Nat):Int),1,2,0,1,2,7,16,17,21,23,24,25,26,34,42,58,66,70,72,84,114,354,1,20,0,1,0,0,0,0,0,0,0,0,0,0,0,0,0,0],[n0])]++xdm i0 i1 n0
theorem xiW(i0 i1 n0:Int):drv ((xbT i0 i1 n0).map fun x=>x.2.2) (evF Tryz.prog (xU (ms22 kScr)) 300 Tryz.f5 [] [])=((xbT i0 i1 n0).map fun x=>(x.1,x.2.1),some (.c (.bool true),[])):=by kernel_rfl
theorem xiX{σ:Type}{step:PStep σ}{s s':σ}(h:aw21T.run step s=some ((),s')):(evF Tryz.prog (xU (ms22 kScr)) 300 Tryz.f5 [] []).run step s=some ((.c (.bool true),[]),s'):=by
 obtain⟨i0,s0,e0,h0⟩:=YO h
 obtain⟨i1,s1,e1,h1⟩:=YO h0
 obtain⟨s2,e2,h2⟩:=Ko h1
 obtain⟨s3,e3,h3⟩:=Ko h2
 obtain⟨n0,s4,e4,h4⟩:=YO h3
 exact xbM (xbT i0 i1 n0) _ _ (xiW i0 i1 n0) _ _ (jo e0 (jo e1 (jo e2 (jo e3 (jo e4 h4)))))
def mAw21:Sm:=fun
 | [],[]=>some (mkS Unit aw21T fun _=>some (.c (.bool true),[]))
 | _,_=>none
theorem Ws{ask:AskT}{X:Xp}(h:SoundLK (JX ask X) (ms22 kScr)):xx (JX ask X) 5 mAw21:=by
 refine xg8 h 300 (by kernel_rfl) Tryz.func5 (by kernel_rfl) (by kernel_rfl) (args0 :=[]) (t:=aw21T) (v0 :=.c (.bool true)) (H0 :=[]) (fun args H S hS =>?_) fun s s' hr=>xiX hr
 unfold mAw21 at hS
 split at hS
 .cases hS;exact⟨rfl,rfl,rfl⟩
 .cases hS
#print axioms Ws
end Go.Proofs.YtfagfflkgmcnpaaGreatDoor.Mx
namespace Go.Proofs.YtfagfflkgmcnpaaGreatDoor.Mx
open Go Go.Conc Lx Kx Tx Go.RowKit Go.ChangeShapes Go.WideShapes Go.ChangeAt
def laidL:List (String×DataW Unit) :=[("math/bits.deBruijn32tab",Rows.laid_math_bits_deBruijn32tab),("math/bits.deBruijn64tab",Rows.laid_math_bits_deBruijn64tab)]
theorem xfS{W:World}(h:laidMetH Tryz.prog laidL W) : ∃el fr,W.heap[1]? = some (dbO el fr):=by
 rw[MakeChecks.laidMetH_plain _ _ _ (by kernel_rfl)]at h
 obtain⟨ps,⟨g0,t0,Ma,f0,p0,q0,_,_,_,_,⟨g,t,cs,fuel,p,q,hg,ht,hv,hd,_,_⟩,_⟩,_,_⟩:=h
 obtain rfl:=Option.some.inj ((show Tryz.prog.globalNamed "math/bits.deBruijn64tab" = some 1 by kernel_rfl).symm.trans hg)
 obtain rfl:=Option.some.inj ((show(Tryz.prog.globals[1]?).map (·.type)=some 200 by kernel_rfl).symm.trans ht)
 obtain⟨xs,m,_,ex,cq,hl,ss⟩:=DataW.trod_array Tryz.underlying200 hd
 have c5 : Tryz.prog.cellsOf 5 = 1:=by kernel_rfl
 have c64 : Tryz.prog.cellsOf 200 = 64:=by kernel_rfl
 have aj:dbZ.length=64:=by kernel_rfl
 have e3:(xs.map (·.1))=dbZ.map fun n =>.lit (.int .u8 n):=(DataW.agg.inj (Prod.mk.inj ex).1).symm
 have bk:cs.toList=dbV:=by
  refine List.ext_getElem? fun r =>?_
  by_cases hr:r<64
  .have hE:=ss r hr
   rw[c5,Nat.mul_one,List.getElem?_eq_getElem (by omega)]at hE
   obtain⟨z,e1,e2,_⟩:=DataW.trod_int Tryz.underlying5 hE
   have e4:(xs.map (·.1))[r]? = (dbZ.map fun n=>(DataW.lit (.int .u8 n):DataW Unit))[r]? :=by rw[e3]
   rw[List.getElem?_map,List.getElem?_map,List.getElem?_eq_getElem (by omega:r<xs.length),List.getElem?_eq_getElem (by omega:r<dbZ.length),e2]at e4
   have hz:z=dbZ[r]'(by omega):=by
    simp only[dN,oI,DataW.lit.injEq,Lit.int.injEq,true_and]at e4
    exact e4
   have h0:((cs.toList.drop r).take 1)[0]? = some (.int .u8 z):=by rw[e1];rfl
   have h1:cs.toList[r]? = some (.int .u8 z):=by simpa using h0
   rw[h1,dbV,List.getElem?_map,List.getElem?_eq_getElem (by omega:r<dbZ.length),hz]
   rfl
  .rw[List.getElem?_eq_none (by omega),List.getElem?_eq_none (by rw[dbV,List.length_map];omega)]
 unfold World.var? at hv
 rw[hg]at hv
 simp only[Option.bind_some]at hv
 split at hv
 .rename_i cs' el fr hh
  cases hv
  refine⟨el,fr,?_⟩
  rw[hh];show _=some (Obj.cells dbV.toArray el fr);rw[<- bk]
 .cases hv
#print axioms xfS
end Go.Proofs.YtfagfflkgmcnpaaGreatDoor.Mx
namespace Go.Proofs.YtfagfflkgmcnpaaGreatDoor.Mx
open Go Go.Conc
section
variable{H:Type}{enc:TypeId×Value->H}
theorem leaving_and{a:Assume}{C:Checked}{os:Os}{f:FuncId}{fn:Func}{s:ChangeSpec}{conds:List PathCond}{apart fresh handsOn again:Bool}{X:World->Array Value->Prop}(hX : ∀w w' args,w.heap=w'.heap->X w args->X w' args)
  (own:ownKnob C.prog.godebug=none) (started:os.Started) (Gf:C.prog.funcs[f]? = some fn)
  (witness : ∃ (w:World) (tape:Tape) (i:Input),w.os=os/\(w.forCall tape i).Shaped C.prog/\i.vars = []/\Input.okWide C.prog (w.forCall tape i) .any w.heap.size f i/\
   ((s.pre enc C.prog fn conds apart (w.forCall tape i).memory i.args/\X (w.forCall tape i).memory i.args)/\sizedMet enc C.prog fn (OpenSpec.ofChange s) apart (w.forCall tape i).memory i.args)/\a.holds C.prog (lone (Frame.enter C.prog f i.args .normal) [] (w.forCall tape i)))
  (runs : ∀ (W:World) (base:Nat) (args:Array Value) (ds gs:List (DataW H)) (before:List MemPlace),
   (∀ (j:Nat) t v,fn.params[j]? = some t->args[j]? = some v->Value.okWide C.prog W .any base t v)->
   DataW.Whole enc C.prog fn.params.toList s.vars apart W args.toList ds gs before->
   conds.all (PathCond.test C.prog ⟨fn.params.toList,ds,s.plain.varTypes C.prog,gs⟩)=true->X W args->
   ∃M last o w' t',runNT C.prog (M+1) (solo (G (Frame.enter C.prog f args .normal) []) W) #[]=(.ended o w',t')/\runN C.prog M (solo (G (Frame.enter C.prog f args .normal) []) W) = .next last/\
    step C.prog last = .ended o w'/\Conc.Good C.prog (fun v W'=>s.post enc C.prog fn apart fresh handsOn again W args v W') last o w' t') :
  ReturnsInLeavingWide a C os f .any (fun w args=>(s.pre enc C.prog fn conds apart w args/\X w args)/\sizedMet enc C.prog fn (OpenSpec.ofChange s) apart w args) (s.post enc C.prog fn apart fresh handsOn again):=by
 refine returnsInLeavingWide_of_good own started witness ?_
 intro w tape i _ _ _ ay mz F7
 obtain⟨_,_,_,Lp,Ge,_,_,_,_,ge⟩:=ay
 have e:Lp=fn:=Option.some.inj (Ge.symm.trans Gf)
 subst e
 obtain⟨⟨⟨ds,gs,before,hw,hc⟩,hx⟩,hz⟩:=mz
 have f6:=DataW.Whole.of_heap (w':=w.forCall tape i) (by rfl) hw
 obtain⟨M,last,o,w',t',h1,h2,h3,h4⟩:=runs (w.forCall tape i) w.heap.size i.args ds gs before ge f6 hc (hX _ _ _ (by rfl) hx)
 exact⟨M,last,o,w',t',h1,h2,h3,h4.mono fun v hp=>ChangeSpec.post_blind hp⟩
end
end Go.Proofs.YtfagfflkgmcnpaaGreatDoor.Mx
namespace Go.Proofs.YtfagfflkgmcnpaaGreatDoor.Lx
open Go Go.Conc Kx Mx Tx
abbrev JB(ask:AskT)(el:TypeId)(fr:Nat×Nat):=JX ask (xpG 1 (dbO el fr))
def gdT(c:Bool):T Unit:=bif c then .ret ()else .fail
theorem run_gdT{σ:Type}{step:PStep σ}{c:Bool}{s s':σ}{x:Unit}(h:(gdT c).run step s=some (x,s')):c=true/\s'=s:=by
 cases c
 .simp[gdT,T.run]at h
 .simp only[gdT,cond_true,T.run,oI,dI]at h
  exact⟨rfl,h.2.symm⟩
def pwZ(x:Int):Bool:=(xaK x 64).isSome
def lgZ(x:Int):Int:=(xaK x 64).getD 0
noncomputable def mTzG:Sm:=fun
 | [.c (.int .u64 x)],[]=>some (mkS Unit (gdT (pwZ x)) fun _=>some (.c (.int .i64 (lgZ x)),[]))
 | _,_=>none
theorem tz_all:((List.range 64).all fun r=>xfR (2 ^ r) (r:Int))=true:=by kernel_rfl
theorem xdn{x r:Int} : ∀ {n:Nat},xaK x n=some r ->∃k:Nat,k<n/\r=(k:Int)/\x=2 ^ k
 | 0,h=>by cases h
 | n+1,h=>by
  unfold xaK at h
  split at h
  .rename_i hx;cases h;exact⟨n,by omega,rfl,hx⟩
  .obtain⟨k,h1,h2,h3⟩:=xdn h;exact⟨k,by omega,h2,h3⟩
theorem xeU{ask:AskT}{el:TypeId}{fr:Nat×Nat}:xx (JB ask el fr) 79 mTzG:=by
 refine⟨(jC (ask:=ask) (el:=el) (fr:=fr)).1,fun args H S hS e w s F vs E hv hR hF hO x v H' s' aa aw =>?_⟩
 unfold mTzG at hS
 split at hS
 .rename_i n
  cases hS
  obtain⟨hp,rfl⟩:=run_gdT aa
  simp only[oI,dI]at aw
  obtain⟨rfl,rfl⟩:=aw
  obtain⟨r,hr⟩:=Option.isSome_iff_exists.1 hp
  obtain⟨k,hk,rfl,rfl⟩:=xdn hr
  have hc:xfR (2 ^ k) (k:Int)=true:=List.all_eq_true.1 tz_all k (List.mem_range.2 hk)
  have hm:xdl [.c (.int .u64 (2 ^ k))] []=some (mkS Unit (.ret ()) fun _=>some (.c (.int .i64 (k:Int)),[])):=by
   unfold xdl
   simp only[hr,hc]
  have hl:lgZ (2 ^ k)=(k:Int):=by rw[lgZ,hr];rfl
  rw[hl]
  exact(jC (ask:=ask) (el:=el) (fr:=fr)).2 _ [] _ hm e w _ F vs E hv hR hF hO () _ [] _ rfl rfl
 .cases hS
noncomputable def kq0L:List (Nat×Func) :=[
(19,Tryz.f19),
(36,Tryz.f36),
(37,Tryz.f37),
(50,Tryz.f50),
(8,Tryz.f8),
(35,Tryz.f35),
(34,Tryz.f34)]
theorem kq0_is:chIs kq0L:=by unfold kq0L;repeat (first|exact trivial|refine And.intro (by kernel_rfl) ?_)
noncomputable def kq0:List (Nat×Sm):=chF 300 [(79,mTzG)] kq0L
theorem s_kq0{ask:AskT}{el:TypeId}{fr:Nat×Nat}:SoundLK (JB ask el fr) kq0:=kY _ kq0_is (by kernel_rfl) (.cons xeU .nil)
def kw(n q:Nat)(L:List Int):Bool:=kA (List.replicate n 0) [some ⟨[], 5,false,some (.wcol q .u8 L)⟩] [some ⟨[], 5,false,some (.wcol q .u8 L)⟩]
theorem Wt : ∀L:List Int,qK L L=true
 | []=>rfl
 | x::L=>by simp[qK,Wt L]
theorem kw_true(n q:Nat)(L:List Int):kw n q L=true:=by
 simp only[kw,kA,List.all_eq_true,List.mem_replicate]
 rintro b ⟨_,rfl⟩
 simp[blkAt,Xx,Yo,Xw,WA,Wt]
structure Ent where
 (th op sz n al at_ off by_ rf st:Int)
def Ent.cells(r:Ent):List C :=[.int .i64 r.th,.int .u8 r.op,.int .i64 r.sz,.int .i64 r.n,.int .i64 r.al,.int .i64 r.at_,.int .i64 r.off,.int .u8 r.by_,.int .i64 r.rf,.int .i64 r.st]
def Ent.of:List C->Option Ent
 | [.int .i64 a,.int .u8 b,.int .i64 c,.int .i64 d,.int .i64 e,.int .i64 f,.int .i64 g,.int .u8 h,.int .i64 i,.int .i64 j]=>some ⟨a,b,c,d,e,f,g,h,i,j⟩
 | _=>none
theorem Ent.of_eq{l:List C}{r:Ent}(h:Ent.of l=some r):l=r.cells:=by
 unfold Ent.of at h;split at h<;>cases h;rfl
structure Cll where
 (op sz n al at_ off by_:Int)
def Cll.cells(r:Cll):List C :=[.int .u8 r.op,.int .i64 r.sz,.int .i64 r.n,.int .i64 r.al,.int .i64 r.at_,.int .i64 r.off,.int .u8 r.by_]
def Cll.of:List C->Option Cll
 | [.int .u8 a,.int .i64 b,.int .i64 c,.int .i64 d,.int .i64 e,.int .i64 f,.int .u8 g]=>some ⟨a,b,c,d,e,f,g⟩
 | _=>none
theorem Cll.of_eq{l:List C}{r:Cll}(h:Cll.of l=some r):l=r.cells:=by
 unfold Cll.of at h;split at h<;>cases h;rfl
structure B12 where
 (x0 x1 x2 x3 x4 x5 x6 x7 x8 x9 x10 x11:Int)
def B12.list(r:B12):List Int :=[r.x0,r.x1,r.x2,r.x3,r.x4,r.x5,r.x6,r.x7,r.x8,r.x9,r.x10,r.x11]
end Go.Proofs.YtfagfflkgmcnpaaGreatDoor.Lx
namespace Go.Proofs.YtfagfflkgmcnpaaGreatDoor.Lx
variable{β:Type}(g:Geo)
open Go Go.Conc Kx Mx Tx
def xfT(o d a q:Nat)(L:yS)(κ:Ent->T β):T β:=
 bif Nat.beq q o&&inR (List.length L) (↑d+0)then(bif Nat.beq q o&&inR (List.length L) (↑d+1)then(bif Nat.beq q o&&inR (List.length L) (↑(d+2)+0)then(bif Nat.beq q o&&inR (List.length L) (↑(d+2)+1)then(bif kw 6 q L then(bif Nat.beq q o&&inR (List.length L) (↑d+4)then(bif Nat.beq q o&&inR (List.length L) (↑d+5)then(bif decide (getI L (Int.toNat (↑d+(5:Int)))<(62:Int))then(bif !decide (getI L (Int.toNat (↑d+(5:Int)))<(0:Int))then(bif Nat.beq q o&&inR (List.length L) (↑(d+6)+0)then(bif Nat.beq q o&&inR (List.length L) (↑(d+6)+1)then(bif kw 5 q L then(bif Nat.beq q o&&inR (List.length L) (↑d+8)then(bif Nat.beq q o&&inR (List.length L) (↑d+9)then(bif Nat.beq q o&&inR (List.length L) (↑(d+10)+0)then(bif Nat.beq q o&&inR (List.length L) (↑(d+10)+1)then(bif kw 5 q L then(bif Nat.beq q o&&inR (List.length L) (↑d+10)then(bif bits BinOp.and u8 (getI L (Int.toNat (↑d+10))) 1==1 then(κ ⟨(i64.wrap (getI L (Int.toNat (↑d+0)))),(getI L (Int.toNat (↑d+1))),(bits BinOp.or i64 (i64.wrap (getI L (Int.toNat (↑(d+2)+0)))) (i64.wrap (i64.wrap (getI L (Int.toNat (↑(d+2)+1)))*256))),(i64.wrap (getI L (Int.toNat (↑d+4)))),(i64.wrap (1*2 ^ if Int.toNat (getI L (Int.toNat (↑d+5)))<=64 then Int.toNat (getI L (Int.toNat (↑d+5)))else(64:Nat))),0,(i64.wrap (IntKind.i8.wrap (getI L (Int.toNat (↑d+8))))),(getI L (Int.toNat (↑d+9))),(bits BinOp.or i64 (i64.wrap (getI L (Int.toNat (↑(d+6)+0)))) (i64.wrap (i64.wrap (getI L (Int.toNat (↑(d+6)+1)))*256))),(Int.fdiv (bits BinOp.or i64 (i64.wrap (getI L (Int.toNat (↑(d+10)+0)))) (i64.wrap (i64.wrap (getI L (Int.toNat (↑(d+10)+1)))*256))) 2)⟩) else
 κ ⟨(i64.wrap (getI L (Int.toNat (↑d+0)))),(getI L (Int.toNat (↑d+1))),(bits BinOp.or i64 (i64.wrap (getI L (Int.toNat (↑(d+2)+0)))) (i64.wrap (i64.wrap (getI L (Int.toNat (↑(d+2)+1)))*256))),(i64.wrap (getI L (Int.toNat (↑d+4)))),(i64.wrap (1*2 ^ if Int.toNat (getI L (Int.toNat (↑d+5)))<=64 then Int.toNat (getI L (Int.toNat (↑d+5)))else(64:Nat))),(bits BinOp.or i64 (i64.wrap (getI L (Int.toNat (↑(d+6)+0)))) (i64.wrap (i64.wrap (getI L (Int.toNat (↑(d+6)+1)))*256))),(i64.wrap (IntKind.i8.wrap (getI L (Int.toNat (↑d+8))))),(getI L (Int.toNat (↑d+9))),((-1)),(Int.fdiv (bits BinOp.or i64 (i64.wrap (getI L (Int.toNat (↑(d+10)+0)))) (i64.wrap (i64.wrap (getI L (Int.toNat (↑(d+10)+1)))*256))) 2)⟩) else
 .fail) else
 .fail) else
 .fail) else
 .fail) else
 .fail) else
 .fail) else
 .fail) else
 .fail) else
 .fail) else
 .fail) else
 bif Nat.beq q o&&inR (List.length L) (↑(d+6)+0)then(bif Nat.beq q o&&inR (List.length L) (↑(d+6)+1)then(bif kw 5 q L then(bif Nat.beq q o&&inR (List.length L) (↑d+8)then(bif Nat.beq q o&&inR (List.length L) (↑d+9)then(bif Nat.beq q o&&inR (List.length L) (↑(d+10)+0)then(bif Nat.beq q o&&inR (List.length L) (↑(d+10)+1)then(bif kw 5 q L then(bif Nat.beq q o&&inR (List.length L) (↑d+10)then(bif bits BinOp.and u8 (getI L (Int.toNat (↑d+10))) 1==1 then(κ ⟨(i64.wrap (getI L (Int.toNat (↑d+0)))),(getI L (Int.toNat (↑d+1))),(bits BinOp.or i64 (i64.wrap (getI L (Int.toNat (↑(d+2)+0)))) (i64.wrap (i64.wrap (getI L (Int.toNat (↑(d+2)+1)))*256))),(i64.wrap (getI L (Int.toNat (↑d+4)))),(i64.wrap (3*i64.wrap (getI L (Int.toNat (↑d+5))))),0,(i64.wrap (IntKind.i8.wrap (getI L (Int.toNat (↑d+8))))),(getI L (Int.toNat (↑d+9))),(bits BinOp.or i64 (i64.wrap (getI L (Int.toNat (↑(d+6)+0)))) (i64.wrap (i64.wrap (getI L (Int.toNat (↑(d+6)+1)))*256))),(Int.fdiv (bits BinOp.or i64 (i64.wrap (getI L (Int.toNat (↑(d+10)+0)))) (i64.wrap (i64.wrap (getI L (Int.toNat (↑(d+10)+1)))*256))) 2)⟩) else
 κ ⟨(i64.wrap (getI L (Int.toNat (↑d+0)))),(getI L (Int.toNat (↑d+1))),(bits BinOp.or i64 (i64.wrap (getI L (Int.toNat (↑(d+2)+0)))) (i64.wrap (i64.wrap (getI L (Int.toNat (↑(d+2)+1)))*256))),(i64.wrap (getI L (Int.toNat (↑d+4)))),(i64.wrap (3*i64.wrap (getI L (Int.toNat (↑d+5))))),(bits BinOp.or i64 (i64.wrap (getI L (Int.toNat (↑(d+6)+0)))) (i64.wrap (i64.wrap (getI L (Int.toNat (↑(d+6)+1)))*256))),(i64.wrap (IntKind.i8.wrap (getI L (Int.toNat (↑d+8))))),(getI L (Int.toNat (↑d+9))),((-1)),(Int.fdiv (bits BinOp.or i64 (i64.wrap (getI L (Int.toNat (↑(d+10)+0)))) (i64.wrap (i64.wrap (getI L (Int.toNat (↑(d+10)+1)))*256))) 2)⟩) else
 .fail) else
 .fail) else
 .fail) else
 .fail) else
 .fail) else
 .fail) else
 .fail) else
 .fail) else
 .fail) else
 .fail) else
 .fail) else
 .fail) else
 .fail) else
 .fail) else
 .fail) else
 .fail
def entT(o d a q:Nat)(L:yS):T Ent:=xfT o d a q L .ret
theorem xhf(o d a q L)(κ:Ent->T β):(entT o d a q L).bind κ=xfT o d a q L κ:=by
 unfold entT xfT
 simp only[bz]
def xeV:Sm:=fun
 | [.c (.slx 0 o d a 12 12)],[some ⟨[], 5,false,some (.wcol q .u8 L)⟩]=>some (mkS Ent (entT o d a q L) fun r=>some (.agg r.cells,[some ⟨[], 5,false,some (.wcol q .u8 L)⟩]))
 | _,_=>none
theorem xiY{ask:AskT}{el:TypeId}{fr:Nat×Nat}(hl:SoundLK (JB ask el fr) kq0):xx (JB ask el fr) 18 xeV:=by
 refine wG hl 300 (by kernel_rfl) Tryz.func18 (by kernel_rfl) (by kernel_rfl) fun _ _ t ht =>?_
 unfold xeV at ht
 split at ht
 .rename_i o d a q L
  cases ht
  exact ey (xhf o d a q L _)
 .cases ht
noncomputable def kq1:List (Nat×Sm):=(18,orKs xeV (inl Tryz.prog (xU kq0) 300 Tryz.f18))::kq0
theorem s_kq1{ask:AskT}{el:TypeId}{fr:Nat×Nat}(h:SoundLK (JB ask el fr) kq0):SoundLK (JB ask el fr) kq1:=(.cons (qw (xiY h) (yx h 300 (by kernel_rfl) Tryz.func18 (by kernel_rfl) (by kernel_rfl))) h)
end Go.Proofs.YtfagfflkgmcnpaaGreatDoor.Lx
namespace Go.Proofs.YtfagfflkgmcnpaaGreatDoor.Lx
variable{β:Type}(g:Geo)
open Go Go.Conc Kx Mx Tx
def shR:List CK :=[.int .i64,.int .u8,.int .i64,.int .i64,.int .i64,.int .i64,.int .i64,.int .u8,.int .i64,.int .i64]
def shE:List CK:=ek
def qx(n0 n5 n7:Nat)(l8:yS)(q9:xq)(κ0:Nat->xq->T β)(i:Nat×Nat×Nat×Nat×Nat×xq)(k:Nat×Nat×Nat×Nat×Nat×xq->T β):T β:=
 bif decide (↑i.2.2.1>=(12:Int))then(bif decide ((0:Int)<=(12:Int)/\(12:Int) <= ↑i.2.2.2.1)&&decide (0<=12/\12<=12)&&true&&true&&Nat.ble 1 i.2.2.1 then((entT n0 (i.1+0) (if Int.toNat 12=0 then i.2.1 else i.2.1+0) n7 l8).bind fun r2=>
 bif Nat.beq (List.length i.2.2.2.2.2) i.2.2.2.2.1&&Nat.ble i.2.2.2.2.1 1000 then(bif true&&true&&decide ((0:Int)<=(12:Int)/\(12:Int) <= ↑i.2.2.1)&&true&&Nat.ble 1 i.2.2.1 then(k (i.1+12,if i.2.2.2.1=12 then i.2.1 else i.2.1+12,i.2.2.1-12,i.2.2.2.1-12,i.2.2.2.2.1+1,i.2.2.2.2.2 ++ [[r2.th,r2.op,r2.sz,r2.n,r2.al,r2.at_,r2.off,r2.by_,r2.rf,r2.st]])) else
 .fail) else
 .fail) else
 .fail) else
 κ0 i.2.2.2.2.1 (i.2.2.2.2.2)
def qy(n0 n5 n7:Nat)(l8:yS)(q9:xq)(n1 n2 n3 n4 n6:Nat)(ik:xq)(κ0:Nat->xq->T β):T β:=vo xG (qx n0 n5 n7 l8 q9 κ0) (n1,n2,n3,n4,n6,ik)
theorem xbU{β γ:Type}(n0 n5 n7 l8 q9 n1 n2 n3 n4 n6 ik κ0)(κ:β->T γ):(qy n0 n5 n7 l8 q9 n1 n2 n3 n4 n6 ik κ0).bind κ=qy n0 n5 n7 l8 q9 n1 n2 n3 n4 n6 ik (fun Al Ak=>(κ0 Al Ak).bind κ):=by
 unfold qy
 refine wn κ (fun i k =>?_) _ _
 unfold qx
 simp only[bz]
def xdo:Pat:=⟨wu 16 0 [(0,.c (.slx 0)),(2,.c (.slr 1)),(3,.c (.slr 2))],[some ⟨[], 5,false,some (.wcol .u8)⟩,some ⟨[], 26,true,some (.rows shR)⟩,some ⟨[], 26,true,some (.rows shR)⟩]⟩
def xhg:Pat:=⟨wu 16 0 [(2,.c (.slr 1)),(3,.c (.slr 2))],[some ⟨[], 5,false,some (.wcol .u8)⟩,some ⟨[], 26,true,some (.rows shR)⟩,some ⟨[], 26,true,some (.rows shR)⟩]⟩
def WL:LF:=fun st K=>match wR xdo st with
 | some [.n n0,.n n1,.n n2,.n n3,.n n4,.n n5,.n n6,.n n7,.l l8,.r q9,.r ik]=>some (qy n0 n5 n7 l8 q9 n1 n2 n3 n4 n6 ik (fun Al Ak=>K (.exit 0) (yX xhg [.n n5,.n Al,.n n7,.l l8,.r q9,.r Ak])))
 | _=>none
theorem xiZ : ∀st K t,WL st K=some t->vH xG (lf kq1 (⟨xG,[⟨2, 26,.rows shR⟩,⟨3, 26,.rows shR⟩],true⟩:Fu) 1 .no [1,1,0,0] Tryz.f6 K) st=t:=by
 intro st K t h
 unfold WL at h
 split at h
 .rename_i n0 n1 n2 n3 n4 n5 n6 n7 l8 q9 ik hm
  cases h
  rw[vr hm]
  unfold qy
  exact qq (S:=fun(i:Nat×Nat×Nat×Nat×Nat×xq)=>yX xdo [.n n0,.n i.1,.n i.2.1,.n i.2.2.1,.n i.2.2.2.1,.n n5,.n i.2.2.2.2.1,.n n7,.l l8,.r q9,.r i.2.2.2.2.2]) (fun i k=>by kernel_rfl) xG (n1,n2,n3,n4,n6,ik)
 .cases h
def xfU(o d a n c q:Nat)(L:yS)(κ:(Nat×xq)->T β):T β:=
 qy o 0 q L ([]) d a n c 0 ([]) (fun oe s5=>
 κ (oe,s5))
def decT(o d a n c q:Nat)(L:yS):T (Nat×xq):=xfU o d a n c q L .ret
theorem xhh(o d a n c q L)(κ:(Nat×xq)->T β):(decT o d a n c q L).bind κ=xfU o d a n c q L κ:=by
 unfold decT xfU
 simp only[bz,xbU]
def Yi(n0 n1 n2 n3 n4 n5 n6:Nat)(a7:Int)(n9:Nat)(l10:yS)(ed ug:xq)(a13 a14 a15 a16 a18 a19 a20 a21 a22:Int)(κ0:Int->T β)(i:Int×Int)(k:Int×Int->T β):T β:=
 bif decide ((0:Int)<=i64.wrap (a7+(5:Int))/\i64.wrap (a7+(5:Int)) < ↑n3)then(bif Nat.beq n9 n0&&inR (List.length l10) (↑n1+i64.wrap (a7+5))then(bif decide (i.1<i64.wrap (getI l10 (Int.toNat (↑n1+i64.wrap (a7+(5:Int))))))then(k (i64.wrap (i.1+1),i64.wrap (2*i.2))) else
 κ0 i.2) else
 .fail) else
 .fail
def qz(n0 n1 n2 n3 n4 n5 n6:Nat)(a7:Int)(n9:Nat)(l10:yS)(ed ug:xq)(a13 a14 a15 a16 a18 a19 a20 a21 a22 a8 a17:Int)(κ0:Int->T β):T β:=vo xG (Yi n0 n1 n2 n3 n4 n5 n6 a7 n9 l10 ed ug a13 a14 a15 a16 a18 a19 a20 a21 a22 κ0) (a8,a17)
theorem xbV{β γ:Type}(n0 n1 n2 n3 n4 n5 n6 a7 n9 l10 ed ug a13 a14 a15 a16 a18 a19 a20 a21 a22 a8 a17 κ0)(κ:β->T γ):(qz n0 n1 n2 n3 n4 n5 n6 a7 n9 l10 ed ug a13 a14 a15 a16 a18 a19 a20 a21 a22 a8 a17 κ0).bind κ=qz n0 n1 n2 n3 n4 n5 n6 a7 n9 l10 ed ug a13 a14 a15 a16 a18 a19 a20 a21 a22 a8 a17 (fun Br=>(κ0 Br).bind κ):=by
 unfold qz
 refine wn κ (fun i k =>?_) _ _
 unfold Yi
 simp only[bz]
def xdp:Pat:=⟨wu 161 0 [(0,.c (.slx 0)),(2,.c (.slr 1)),(3,.c (.slr 2)),(4,.c (.int .i64)),(5,.c (.raw (.ptr 3 0))),(6,.c (.int .i64))],[some ⟨[], 5,false,some (.wcol .u8)⟩,some ⟨[], 33,true,some (.rows shR)⟩,some ⟨[], 33,true,some (.rows shR)⟩,some ⟨[.int .i64,.int .u8,.int .i64,.int .i64,.int .i64,.int .i64,.int .i64,.int .u8,.int .i64,.int .i64], 33,false,none⟩]⟩
def xhi:Pat:=⟨wu 161 0 [(0,.c (.slx 0)),(2,.c (.slr 1)),(3,.c (.slr 2)),(4,.c (.int .i64)),(5,.c (.raw (.ptr 3 0)))],[some ⟨[], 5,false,some (.wcol .u8)⟩,some ⟨[], 33,true,some (.rows shR)⟩,some ⟨[], 33,true,some (.rows shR)⟩,some ⟨[.int .i64,.int .u8,.int .i64,.int .i64,.int .i64,.int .i64,.int .i64,.int .u8,.int .i64,.int .i64], 33,false,none⟩]⟩
def Yj:LF:=fun st K=>match wR xdp st with
 | some [.n n0,.n n1,.n n2,.n n3,.n n4,.n n5,.n n6,.i a7,.i a8,.n n9,.l l10,.r ed,.r ug,.i a13,.i a14,.i a15,.i a16,.i a17,.i a18,.i a19,.i a20,.i a21,.i a22]=>some (qz n0 n1 n2 n3 n4 n5 n6 a7 n9 l10 ed ug a13 a14 a15 a16 a18 a19 a20 a21 a22 a8 a17 (fun Br=>K (.exit 2) (yX xhi [.n n0,.n n1,.n n2,.n n3,.n n4,.n n5,.n n6,.i a7,.n n9,.l l10,.r ed,.r ug,.i a13,.i a14,.i a15,.i a16,.i Br,.i a18,.i a19,.i a20,.i a21,.i a22])))
 | _=>none
theorem xi0 : ∀st K t,Yj st K=some t->vH xG (lf kq1 (⟨xG,[⟨2, 33,.rows shR⟩,⟨3, 33,.rows shR⟩],true⟩:Fu) 1 .no [1,1,0,1,0,0,1,0,0,1,1,1,1,1,1,0,1,0,1,1,0] Tryz.f7 K) st=t:=by
 intro st K t h
 unfold Yj at h
 split at h
 .rename_i n0 n1 n2 n3 n4 n5 n6 a7 a8 n9 l10 ed ug a13 a14 a15 a16 a17 a18 a19 a20 a21 a22 hm
  cases h
  rw[vr hm]
  unfold qz
  exact qq (S:=fun(i:Int×Int)=>yX xdp [.n n0,.n n1,.n n2,.n n3,.n n4,.n n5,.n n6,.i a7,.i i.1,.n n9,.l l10,.r ed,.r ug,.i a13,.i a14,.i a15,.i a16,.i i.2,.i a18,.i a19,.i a20,.i a21,.i a22]) (fun i k=>by kernel_rfl) xG (a8,a17)
 .cases h
def Yk(n0 n1 n3 n8:Nat)(l9:yS)(i:Nat×Int×xq)(k:Nat×Int×xq->T β)(o6:Int):T β:=
 bif decide ((0:Int)<=i64.wrap (i.2.1+(6:Int))/\i64.wrap (i.2.1+(6:Int)) < ↑n3)then(bif Nat.beq n8 n0&&inR (List.length l9) (↑n1+i64.wrap (i.2.1+6))then(bif decide ((0:Int)<=i64.wrap (i.2.1+(7:Int))/\i64.wrap (i.2.1+(7:Int)) < ↑n3)then(bif Nat.beq n8 n0&&inR (List.length l9) (↑n1+i64.wrap (i.2.1+7))then(bif decide ((0:Int)<=i64.wrap (i.2.1+(8:Int))/\i64.wrap (i.2.1+(8:Int)) < ↑n3)then(bif Nat.beq n8 n0&&inR (List.length l9) (↑n1+i64.wrap (i.2.1+8))then(bif decide ((0:Int)<=i64.wrap (i.2.1+(8:Int))/\i64.wrap (i.2.1+(8:Int)) < ↑n3)then(bif Nat.beq n8 n0&&inR (List.length l9) (↑n1+i64.wrap (i.2.1+8))then(bif decide (getI l9 (Int.toNat (↑n1+i64.wrap (i.2.1+(8:Int))))>(127:Int))then(bif decide ((0:Int)<=i64.wrap (i.2.1+(8:Int))/\i64.wrap (i.2.1+(8:Int)) < ↑n3)then(bif Nat.beq n8 n0&&inR (List.length l9) (↑n1+i64.wrap (i.2.1+8))then(bif decide ((0:Int)<=i64.wrap (i.2.1+(9:Int))/\i64.wrap (i.2.1+(9:Int)) < ↑n3)then(bif Nat.beq n8 n0&&inR (List.length l9) (↑n1+i64.wrap (i.2.1+9))then(bif decide ((0:Int)<=i64.wrap (i.2.1+(10:Int))/\i64.wrap (i.2.1+(10:Int)) < ↑n3)then(bif Nat.beq n8 n0&&inR (List.length l9) (↑n1+i64.wrap (i.2.1+10))then(bif decide ((0:Int)<=i64.wrap (i.2.1+(11:Int))/\i64.wrap (i.2.1+(11:Int)) < ↑n3)then(bif Nat.beq n8 n0&&inR (List.length l9) (↑n1+i64.wrap (i.2.1+11))then(bif Int.tmod (i64.wrap (i64.wrap (getI l9 (Int.toNat (↑n1+i64.wrap (i.2.1+10))))+i64.wrap (256*i64.wrap (getI l9 (Int.toNat (↑n1+i64.wrap (i.2.1+11))))))) 2==1 then(bif Nat.beq (List.length i.2.2) i.1&&Nat.ble i.1 1000 then(k (i.1+1,i64.wrap (i.2.1+12),i.2.2 ++ [[i64.wrap (getI l9 (Int.toNat (↑n1+i.2.1))),getI l9 (Int.toNat (↑n1+i64.wrap (i.2.1+1))),i64.wrap (i64.wrap (getI l9 (Int.toNat (↑n1+i64.wrap (i.2.1+2))))+i64.wrap (256*i64.wrap (getI l9 (Int.toNat (↑n1+i64.wrap (i.2.1+3)))))),i64.wrap (getI l9 (Int.toNat (↑n1+i64.wrap (i.2.1+4)))),o6,0,i64.wrap (i64.wrap (getI l9 (Int.toNat (↑n1+i64.wrap (i.2.1+8))))-256),getI l9 (Int.toNat (↑n1+i64.wrap (i.2.1+9))),i64.wrap (i64.wrap (getI l9 (Int.toNat (↑n1+i64.wrap (i.2.1+6))))+i64.wrap (256*i64.wrap (getI l9 (Int.toNat (↑n1+i64.wrap (i.2.1+7)))))),i64.wrap (Int.tdiv (i64.wrap (i64.wrap (getI l9 (Int.toNat (↑n1+i64.wrap (i.2.1+10))))+i64.wrap (256*i64.wrap (getI l9 (Int.toNat (↑n1+i64.wrap (i.2.1+11))))))) 2)]])) else
 .fail) else
 bif Nat.beq (List.length i.2.2) i.1&&Nat.ble i.1 1000 then(k (i.1+1,i64.wrap (i.2.1+12),i.2.2 ++ [[i64.wrap (getI l9 (Int.toNat (↑n1+i.2.1))),getI l9 (Int.toNat (↑n1+i64.wrap (i.2.1+1))),i64.wrap (i64.wrap (getI l9 (Int.toNat (↑n1+i64.wrap (i.2.1+2))))+i64.wrap (256*i64.wrap (getI l9 (Int.toNat (↑n1+i64.wrap (i.2.1+3)))))),i64.wrap (getI l9 (Int.toNat (↑n1+i64.wrap (i.2.1+4)))),o6,i64.wrap (i64.wrap (getI l9 (Int.toNat (↑n1+i64.wrap (i.2.1+6))))+i64.wrap (256*i64.wrap (getI l9 (Int.toNat (↑n1+i64.wrap (i.2.1+7)))))),i64.wrap (i64.wrap (getI l9 (Int.toNat (↑n1+i64.wrap (i.2.1+8))))-256),getI l9 (Int.toNat (↑n1+i64.wrap (i.2.1+9))),(-1),i64.wrap (Int.tdiv (i64.wrap (i64.wrap (getI l9 (Int.toNat (↑n1+i64.wrap (i.2.1+10))))+i64.wrap (256*i64.wrap (getI l9 (Int.toNat (↑n1+i64.wrap (i.2.1+11))))))) 2)]])) else
 .fail) else
 .fail) else
 .fail) else
 .fail) else
 .fail) else
 .fail) else
 .fail) else
 .fail) else
 .fail) else
 bif decide ((0:Int)<=i64.wrap (i.2.1+(9:Int))/\i64.wrap (i.2.1+(9:Int)) < ↑n3)then(bif Nat.beq n8 n0&&inR (List.length l9) (↑n1+i64.wrap (i.2.1+9))then(bif decide ((0:Int)<=i64.wrap (i.2.1+(10:Int))/\i64.wrap (i.2.1+(10:Int)) < ↑n3)then(bif Nat.beq n8 n0&&inR (List.length l9) (↑n1+i64.wrap (i.2.1+10))then(bif decide ((0:Int)<=i64.wrap (i.2.1+(11:Int))/\i64.wrap (i.2.1+(11:Int)) < ↑n3)then(bif Nat.beq n8 n0&&inR (List.length l9) (↑n1+i64.wrap (i.2.1+11))then(bif Int.tmod (i64.wrap (i64.wrap (getI l9 (Int.toNat (↑n1+i64.wrap (i.2.1+10))))+i64.wrap (256*i64.wrap (getI l9 (Int.toNat (↑n1+i64.wrap (i.2.1+11))))))) 2==1 then(bif Nat.beq (List.length i.2.2) i.1&&Nat.ble i.1 1000 then(k (i.1+1,i64.wrap (i.2.1+12),i.2.2 ++ [[i64.wrap (getI l9 (Int.toNat (↑n1+i.2.1))),getI l9 (Int.toNat (↑n1+i64.wrap (i.2.1+1))),i64.wrap (i64.wrap (getI l9 (Int.toNat (↑n1+i64.wrap (i.2.1+2))))+i64.wrap (256*i64.wrap (getI l9 (Int.toNat (↑n1+i64.wrap (i.2.1+3)))))),i64.wrap (getI l9 (Int.toNat (↑n1+i64.wrap (i.2.1+4)))),o6,0,i64.wrap (getI l9 (Int.toNat (↑n1+i64.wrap (i.2.1+8)))),getI l9 (Int.toNat (↑n1+i64.wrap (i.2.1+9))),i64.wrap (i64.wrap (getI l9 (Int.toNat (↑n1+i64.wrap (i.2.1+6))))+i64.wrap (256*i64.wrap (getI l9 (Int.toNat (↑n1+i64.wrap (i.2.1+7)))))),i64.wrap (Int.tdiv (i64.wrap (i64.wrap (getI l9 (Int.toNat (↑n1+i64.wrap (i.2.1+10))))+i64.wrap (256*i64.wrap (getI l9 (Int.toNat (↑n1+i64.wrap (i.2.1+11))))))) 2)]])) else
 .fail) else
 bif Nat.beq (List.length i.2.2) i.1&&Nat.ble i.1 1000 then(k (i.1+1,i64.wrap (i.2.1+12),i.2.2 ++ [[i64.wrap (getI l9 (Int.toNat (↑n1+i.2.1))),getI l9 (Int.toNat (↑n1+i64.wrap (i.2.1+1))),i64.wrap (i64.wrap (getI l9 (Int.toNat (↑n1+i64.wrap (i.2.1+2))))+i64.wrap (256*i64.wrap (getI l9 (Int.toNat (↑n1+i64.wrap (i.2.1+3)))))),i64.wrap (getI l9 (Int.toNat (↑n1+i64.wrap (i.2.1+4)))),o6,i64.wrap (i64.wrap (getI l9 (Int.toNat (↑n1+i64.wrap (i.2.1+6))))+i64.wrap (256*i64.wrap (getI l9 (Int.toNat (↑n1+i64.wrap (i.2.1+7)))))),i64.wrap (getI l9 (Int.toNat (↑n1+i64.wrap (i.2.1+8)))),getI l9 (Int.toNat (↑n1+i64.wrap (i.2.1+9))),(-1),i64.wrap (Int.tdiv (i64.wrap (i64.wrap (getI l9 (Int.toNat (↑n1+i64.wrap (i.2.1+10))))+i64.wrap (256*i64.wrap (getI l9 (Int.toNat (↑n1+i64.wrap (i.2.1+11))))))) 2)]])) else
 .fail) else
 .fail) else
 .fail) else
 .fail) else
 .fail) else
 .fail) else
 .fail) else
 .fail) else
 .fail) else
 .fail) else
 .fail) else
 .fail) else
 .fail) else
 .fail) else
 .fail
def qA(n0 n1 n2 n3 n4 n5 n8:Nat)(l9:yS)(ik:xq)(κ0:Nat->xq->T β)(i:Nat×Int×xq)(k:Nat×Int×xq->T β):T β:=
 bif decide (i64.wrap (i.2.1+(12:Int)) <= ↑n3)then(bif decide ((0:Int)<=i.2.1/\i.2.1 < ↑n3)then(bif Nat.beq n8 n0&&inR (List.length l9) (↑n1+i.2.1)then(bif decide ((0:Int)<=i64.wrap (i.2.1+(1:Int))/\i64.wrap (i.2.1+(1:Int)) < ↑n3)then(bif Nat.beq n8 n0&&inR (List.length l9) (↑n1+i64.wrap (i.2.1+1))then(bif decide ((0:Int)<=i64.wrap (i.2.1+(2:Int))/\i64.wrap (i.2.1+(2:Int)) < ↑n3)then(bif Nat.beq n8 n0&&inR (List.length l9) (↑n1+i64.wrap (i.2.1+2))then(bif decide ((0:Int)<=i64.wrap (i.2.1+(3:Int))/\i64.wrap (i.2.1+(3:Int)) < ↑n3)then(bif Nat.beq n8 n0&&inR (List.length l9) (↑n1+i64.wrap (i.2.1+3))then(bif decide ((0:Int)<=i64.wrap (i.2.1+(4:Int))/\i64.wrap (i.2.1+(4:Int)) < ↑n3)then(bif Nat.beq n8 n0&&inR (List.length l9) (↑n1+i64.wrap (i.2.1+4))then(bif decide ((0:Int)<=i64.wrap (i.2.1+(5:Int))/\i64.wrap (i.2.1+(5:Int)) < ↑n3)then(bif Nat.beq n8 n0&&inR (List.length l9) (↑n1+i64.wrap (i.2.1+5))then(bif decide ((0:Int)<=i64.wrap (i.2.1+(5:Int))/\i64.wrap (i.2.1+(5:Int)) < ↑n3)then(bif Nat.beq n8 n0&&inR (List.length l9) (↑n1+i64.wrap (i.2.1+5))then(bif decide (getI l9 (Int.toNat (↑n1+i64.wrap (i.2.1+(5:Int))))<(62:Int))then(qz n0 n1 n2 n3 n4 n5 i.1 i.2.1 n8 l9 ik i.2.2 (i64.wrap (getI l9 (Int.toNat (↑n1+i.2.1)))) (getI l9 (Int.toNat (↑n1+i64.wrap (i.2.1+1)))) (i64.wrap (i64.wrap (getI l9 (Int.toNat (↑n1+i64.wrap (i.2.1+2))))+i64.wrap (256*i64.wrap (getI l9 (Int.toNat (↑n1+i64.wrap (i.2.1+3))))))) (i64.wrap (getI l9 (Int.toNat (↑n1+i64.wrap (i.2.1+4))))) 0 0 0 0 0 0 1 (Yk n0 n1 n3 n8 l9 i k)) else
 Yk n0 n1 n3 n8 l9 i k (i64.wrap (3*i64.wrap (getI l9 (Int.toNat (↑n1+i64.wrap (i.2.1+5))))))) else
 .fail) else
 .fail) else
 .fail) else
 .fail) else
 .fail) else
 .fail) else
 .fail) else
 .fail) else
 .fail) else
 .fail) else
 .fail) else
 .fail) else
 .fail) else
 .fail) else
 κ0 i.1 (i.2.2)
def qB(n0 n1 n2 n3 n4 n5 n8:Nat)(l9:yS)(ik:xq)(n6:Nat)(a7:Int)(ed:xq)(κ0:Nat->xq->T β):T β:=vo xG (qA n0 n1 n2 n3 n4 n5 n8 l9 ik κ0) (n6,a7,ed)
theorem xbW{β γ:Type}(n0 n1 n2 n3 n4 n5 n8 l9 ik n6 a7 ed κ0)(κ:β->T γ):(qB n0 n1 n2 n3 n4 n5 n8 l9 ik n6 a7 ed κ0).bind κ=qB n0 n1 n2 n3 n4 n5 n8 l9 ik n6 a7 ed (fun Al Ak=>(κ0 Al Ak).bind κ):=by
 unfold qB
 refine wn κ (fun i k =>?_) _ _
 unfold qA Yk
 simp only[bz,xbV]
def xdq:Pat:=⟨wu 161 0 [(0,.c (.slx 0)),(2,.c (.slr 1)),(3,.c (.slr 2)),(4,.c (.int .i64))],[some ⟨[], 5,false,some (.wcol .u8)⟩,some ⟨[], 33,true,some (.rows shR)⟩,some ⟨[], 33,true,some (.rows shR)⟩]⟩
def xhj:Pat:=⟨wu 161 0 [(2,.c (.slr 1)),(3,.c (.slr 2))],[some ⟨[], 5,false,some (.wcol .u8)⟩,some ⟨[], 33,true,some (.rows shR)⟩,some ⟨[], 33,true,some (.rows shR)⟩]⟩
def WM:LF:=fun st K=>match wR xdq st with
 | some [.n n0,.n n1,.n n2,.n n3,.n n4,.n n5,.n n6,.i a7,.n n8,.l l9,.r ik,.r ed]=>some (qB n0 n1 n2 n3 n4 n5 n8 l9 ik n6 a7 ed (fun Al Ak=>K (.exit 0) (yX xhj [.n n5,.n Al,.n n8,.l l9,.r ik,.r Ak])))
 | _=>none
theorem xi1 : ∀st K t,WM st K=some t->vH xG (lf kq1 (⟨xG,[⟨2, 33,.rows shR⟩,⟨3, 33,.rows shR⟩],true⟩:Fu) 1 (lsAt Yj .no [1,0,0,1,1,1,1,1,1,0,1,0,1,1,0]) [1,1,0,1,0] Tryz.f7 K) st=t:=by
 intro st K t h
 unfold WM at h
 split at h
 .rename_i n0 n1 n2 n3 n4 n5 n6 a7 n8 l9 ik ed hm
  cases h
  rw[vr hm]
  unfold qB
  exact qq (S:=fun(i:Nat×Int×xq)=>yX xdq [.n n0,.n n1,.n n2,.n n3,.n n4,.n n5,.n i.1,.i i.2.1,.n n8,.l l9,.r ik,.r i.2.2]) (fun i k=>by kernel_rfl) xG (n6,a7,ed)
 .cases h
def xfV(o d a n c q:Nat)(L:yS)(κ:(Nat×xq)->T β):T β:=
 qB o d a n c 0 q L ([]) 0 0 ([]) (fun oe s5=>
 κ (oe,s5))
def recT(o d a n c q:Nat)(L:yS):T (Nat×xq):=xfV o d a n c q L .ret
theorem xhk(o d a n c q L)(κ:(Nat×xq)->T β):(recT o d a n c q L).bind κ=xfV o d a n c q L κ:=by
 unfold recT xfV
 simp only[bz,xbW]
def xbX:Sm:=fun
 | [.c (.slx 0 o d a n c)],[some ⟨[], 5,false,some (.wcol q .u8 L)⟩]=>some (mkS ((Nat×xq)) (decT o d a n c q L) fun r=>some (.c (.slr 1 r.1),[some ⟨[], 5,false,some (.wcol q .u8 L)⟩,some ⟨[], 26,true,some (.rows [.int .i64,.int .u8,.int .i64,.int .i64,.int .i64,.int .i64,.int .i64,.int .u8,.int .i64,.int .i64] r.2)⟩]))
 | _,_=>none
theorem xhl:Good Tryz.prog (xU kq1) (⟨xG,[⟨2, 26,.rows shR⟩,⟨3, 26,.rows shR⟩],true⟩:Fu) 1 (lsAt WL .no [1,1,0,0]) (Tryz.f6.body.getD .skip) (yy Tryz.f6.results.toList):=(WG (ve (by kernel_rfl)) jv xiZ)
theorem xdr{ask:AskT}{el:TypeId}{fr:Nat×Nat}(hl:SoundLK (JB ask el fr) kq1):xx (JB ask el fr) 6 xbX:=by
 refine wG hl (⟨xG,[⟨2, 26,.rows shR⟩,⟨3, 26,.rows shR⟩],true⟩:Fu) (by kernel_rfl) Tryz.func6 (by kernel_rfl) (by kernel_rfl) fun _ _ t ht =>?_
 unfold xbX at ht
 split at ht
 .rename_i o d a n c q L
  cases ht
  refine(ZC (P:= Tryz.prog) (n:=(⟨xG,[⟨2, 26,.rows shR⟩,⟨3, 26,.rows shR⟩],true⟩:Fu)) (x:=(lsAt WL .no [1,1,0,0])) (fn:= Tryz.f6) (H :=[some ⟨[], 5,false,some (.wcol q .u8 L)⟩]) (c:= Tryz.f6.body.getD .skip) (ve (by kernel_rfl)) xhl).symm.trans ?_
  exact ey (xhh o d a n c q L _)
 .cases ht
def xbY:Sm:=fun
 | [.c (.slx 0 o d a n c)],[some ⟨[], 5,false,some (.wcol q .u8 L)⟩]=>some (mkS ((Nat×xq)) (recT o d a n c q L) fun r=>some (.c (.slr 1 r.1),[some ⟨[], 5,false,some (.wcol q .u8 L)⟩,some ⟨[], 33,true,some (.rows [.int .i64,.int .u8,.int .i64,.int .i64,.int .i64,.int .i64,.int .i64,.int .u8,.int .i64,.int .i64] r.2)⟩]))
 | _,_=>none
theorem xhm:Good Tryz.prog (xU kq1) (⟨xG,[⟨2, 33,.rows shR⟩,⟨3, 33,.rows shR⟩],true⟩:Fu) 1 (lsAt WM (lsAt Yj .no [1,0,0,1,1,1,1,1,1,0,1,0,1,1,0]) [1,1,0,1,0]) (Tryz.f7.body.getD .skip) (yy Tryz.f7.results.toList):=(WG (ve (by kernel_rfl)) (good_in (p :=[1,1,0,1,0]) (q :=[1,0,0,1,1,1,1,1,1,0,1,0,1,1,0]) (ve (fn:= Tryz.f7) (by kernel_rfl)) jv xi0 (by kernel_rfl)) xi1)
theorem xds{ask:AskT}{el:TypeId}{fr:Nat×Nat}(hl:SoundLK (JB ask el fr) kq1):xx (JB ask el fr) 7 xbY:=by
 refine wG hl (⟨xG,[⟨2, 33,.rows shR⟩,⟨3, 33,.rows shR⟩],true⟩:Fu) (by kernel_rfl) Tryz.func7 (by kernel_rfl) (by kernel_rfl) fun _ _ t ht =>?_
 unfold xbY at ht
 split at ht
 .rename_i o d a n c q L
  cases ht
  refine(ZC (P:= Tryz.prog) (n:=(⟨xG,[⟨2, 33,.rows shR⟩,⟨3, 33,.rows shR⟩],true⟩:Fu)) (x:=(lsAt WM (lsAt Yj .no [1,0,0,1,1,1,1,1,1,0,1,0,1,1,0]) [1,1,0,1,0])) (fn:= Tryz.f7) (H :=[some ⟨[], 5,false,some (.wcol q .u8 L)⟩]) (c:= Tryz.f7.body.getD .skip) (ve (by kernel_rfl)) xhm).symm.trans ?_
  exact ey (xhk o d a n c q L _)
 .cases ht
noncomputable def kq2:List (Nat×Sm):=(6,orKs xbX (inl Tryz.prog (xU kq1) 300 Tryz.f6))::(7,xbY)::kq1
theorem s_kq2{ask:AskT}{el:TypeId}{fr:Nat×Nat}(h:SoundLK (JB ask el fr) kq1):SoundLK (JB ask el fr) kq2:=(.cons (qw (xdr h) (yx h 300 (by kernel_rfl) Tryz.func6 (by kernel_rfl) (by kernel_rfl))) (.cons (xds h) h))
end Go.Proofs.YtfagfflkgmcnpaaGreatDoor.Lx
namespace Go.Proofs.YtfagfflkgmcnpaaGreatDoor.Lx
variable{β:Type}(g:Geo)
open Go Go.Conc Kx Mx Tx
def f12:B12:=⟨255,255,255,255,255,255,255,255,255,255,255,255⟩
def encZ(e:Ent)(v a r:Int):B12:=⟨IntKind.wrap .u8 e.th,e.op,IntKind.wrap .u8 e.sz,IntKind.wrap .u8 (Int.fdiv e.sz 256),IntKind.wrap .u8 e.n,IntKind.wrap .u8 v,IntKind.wrap .u8 a,IntKind.wrap .u8 (Int.fdiv a 256),IntKind.wrap .u8 e.off,e.by_,IntKind.wrap .u8 (bits .or .i64 (IntKind.wrap .i64 (e.st*2)) r),IntKind.wrap .u8 (Int.fdiv (bits .or .i64 (IntKind.wrap .i64 (e.st*2)) r) 256)⟩
def ecT(e:Ent)(a:Int)(L:T β)(κ:B12->T β):T β:=bif decide (e.th<0)then κ f12 else bif decide (e.th>=256)then κ f12 else bif decide (e.n<0)then κ f12 else bif decide (e.n>=256)then κ f12 else bif decide (i64.wrap (e.off+128)<0)then κ f12 else bif decide (i64.wrap (e.off+128)>=256)then κ f12 else bif decide (e.sz<0)then κ f12 else bif decide (e.sz>=65536)then κ f12 else bif decide (a<0)then κ f12 else bif decide (a>=65536)then κ f12 else bif decide (e.st<0)then κ f12 else bif decide (e.st>=32768)then κ f12 else L
def ecR(e:Ent)(κ:B12->T β)(v:Int):T β:=ecT e e.rf (bif e.at_ != 0 then κ f12 else κ (encZ e v e.rf 1)) κ
def ecA(e:Ent)(κ:B12->T β)(v:Int):T β:=ecT e e.at_ (κ (encZ e v e.at_ 0)) κ
def ec3(e:Ent)(κ:B12->T β)(f:Int->T β):T β:=bif Int.tmod e.al 3==0 then(bif decide (i64.wrap (Int.tdiv e.al 3)>=62)then(bif decide (i64.wrap (Int.tdiv e.al 3)<256)then f (i64.wrap (Int.tdiv e.al 3))else κ f12)else κ f12)else κ f12
def ec2(e:Ent)(κ:B12->T β)(f:Int->T β):T β:=bif decide (e.al>0)then(bif bits BinOp.and i64 e.al (i64.wrap (e.al-1))==0 then((gdT (pwZ (u64.wrap e.al))).bind fun r3=>
 bif decide (lgZ (u64.wrap e.al)<62)then((gdT (pwZ (u64.wrap e.al))).bind fun r5=>f (lgZ (u64.wrap e.al)))else ec3 e κ f)else ec3 e κ f)else ec3 e κ f
def xfW(e:Ent)(κ:B12->T β):T β:=bif e.rf != (-1)then(ec2 e κ (ecR e κ))else ec2 e κ (ecA e κ)
def encT(e:Ent):T B12:=xfW e .ret
theorem xhn(e)(κ:B12->T β):(encT e).bind κ=xfW e κ:=by
 unfold encT xfW ec2 ec3 ecR ecA ecT
 simp only[bz]
def xfX(e:Ent)(o:Nat)(z:yW)(n c q:Nat)(L:xq)(κ:(Cll×Bool)->T β):T β:=
 bif decide (e.rf<0)then(κ (⟨e.op,e.sz,e.n,e.al,e.at_,e.off,e.by_⟩,true)) else
 bif decide (e.rf >= ↑n)then(κ (⟨0,0,0,0,0,0,0⟩,false)) else
 bif decide ((0:Int)<=e.rf/\e.rf < ↑n)then(bif Nat.beq q o&&inR (List.length L) e.rf then(bif decide (getI (getR L (Int.toNat e.rf)) 10<1)then(κ (⟨0,0,0,0,0,0,0⟩,false)) else
 bif getI (getR L (Int.toNat e.rf)) 21 != 0 then(κ (⟨0,0,0,0,0,0,0⟩,false)) else
 bif decide (getI (getR L (Int.toNat e.rf)) 1<1)then(κ (⟨0,0,0,0,0,0,0⟩,false)) else
 bif decide (getI (getR L (Int.toNat e.rf)) 1>4)then(κ (⟨0,0,0,0,0,0,0⟩,false)) else
 κ (⟨e.op,e.sz,e.n,e.al,(getI (getR L (Int.toNat e.rf)) 13),e.off,e.by_⟩,true)) else
 .fail) else
 .fail
def askT(e:Ent)(o:Nat)(z:yW)(n c q:Nat)(L:xq):T (Cll×Bool):=xfX e o z n c q L .ret
theorem xho(e o z n c q L)(κ:(Cll×Bool)->T β):(askT e o z n c q L).bind κ=xfX e o z n c q L κ:=by
 unfold askT xfX
 simp only[bz]
def ZJ(n0:Nat)(z1:yW)(n2 n3:Nat)(b4:Bool)(n6:Nat)(q7:xq)(a8 a9 a10 a11 a12 a13 a14 a15 a16 a17 a18 a19 a20 a21 a22 a23 a24 a25 a26 a27 a28 a29 a30 a31:Int)(κ0:Int->T β)(κ1:Unit->T β)(i:Int)(k:Int->T β):T β:=
 bif decide (i < ↑n2)then(bif i==a16 then(bif decide ((0:Int)<=i/\i < ↑n2)then(bif Nat.beq n6 n0&&inR (List.length q7) i then(bif decide (getI (getR q7 (Int.toNat i)) 10>0)then(bif decide ((0:Int)<=i/\i < ↑n2)then(bif Nat.beq n6 n0&&inR (List.length q7) i then(bif getI (getR q7 (Int.toNat i)) 21==0 then(bif decide ((0:Int)<=i/\i < ↑n2)then(bif Nat.beq n6 n0&&inR (List.length q7) i then(bif decide (getI (getR q7 (Int.toNat i)) 1>=1)then(bif decide ((0:Int)<=i/\i < ↑n2)then(bif Nat.beq n6 n0&&inR (List.length q7) i then(bif decide (getI (getR q7 (Int.toNat i)) 1<=4)then(bif decide ((0:Int)<=i/\i < ↑n2)then(bif Nat.beq n6 n0&&inR (List.length q7) i then(κ0 (getI (getR q7 (Int.toNat i)) 13)) else
 .fail) else
 .fail) else
 k (i64.wrap (i+1))) else
 .fail) else
 .fail) else
 k (i64.wrap (i+1))) else
 .fail) else
 .fail) else
 k (i64.wrap (i+1))) else
 .fail) else
 .fail) else
 k (i64.wrap (i+1))) else
 .fail) else
 .fail) else
 k (i64.wrap (i+1))) else
 κ1 ()
def qC(n0:Nat)(z1:yW)(n2 n3:Nat)(b4:Bool)(n6:Nat)(q7:xq)(a8 a9 a10 a11 a12 a13 a14 a15 a16 a17 a18 a19 a20 a21 a22 a23 a24 a25 a26 a27 a28 a29 a30 a31 a5:Int)(κ0:Int->T β)(κ1:Unit->T β):T β:=vo xG (ZJ n0 z1 n2 n3 b4 n6 q7 a8 a9 a10 a11 a12 a13 a14 a15 a16 a17 a18 a19 a20 a21 a22 a23 a24 a25 a26 a27 a28 a29 a30 a31 κ0 κ1) a5
theorem xbZ{β γ:Type}(n0 z1 n2 n3 b4 n6 q7 a8 a9 a10 a11 a12 a13 a14 a15 a16 a17 a18 a19 a20 a21 a22 a23 a24 a25 a26 a27 a28 a29 a30 a31 a5 κ0 κ1)(κ:β->T γ):(qC n0 z1 n2 n3 b4 n6 q7 a8 a9 a10 a11 a12 a13 a14 a15 a16 a17 a18 a19 a20 a21 a22 a23 a24 a25 a26 a27 a28 a29 a30 a31 a5 κ0 κ1).bind κ=qC n0 z1 n2 n3 b4 n6 q7 a8 a9 a10 a11 a12 a13 a14 a15 a16 a17 a18 a19 a20 a21 a22 a23 a24 a25 a26 a27 a28 a29 a30 a31 a5 (fun G0=>(κ0 G0).bind κ) (fun u=>(κ1 u).bind κ):=by
 unfold qC
 refine wn κ (fun i k =>?_) _ _
 unfold ZJ
 simp only[bz]
def xdt:Pat:=⟨wu 68 0 [(1,.c (.slw 0)),(2,.c (.raw (.ptr 1 0))),(4,.c (.raw (.ptr 2 0))),(5,.c (.bool)),(6,.c (.raw (.ptr 3 0))),(7,.c (.int .i64))],[some ⟨[], 56,false,some (.wrows shE)⟩,some ⟨[.int .i64,.int .u8,.int .i64,.int .i64,.int .i64,.int .i64,.int .i64,.int .u8,.int .i64,.int .i64], 33,false,none⟩,some ⟨[.int .u8,.int .i64,.int .i64,.int .i64,.int .i64,.int .i64,.int .u8], 24,false,none⟩,some ⟨[.int .u8,.int .i64,.int .i64,.int .i64,.int .i64,.int .i64,.int .u8], 24,false,none⟩]⟩
def xaL:Pat:=⟨wu 68 0 [(4,.c (.raw (.ptr 2 0))),(5,.c (.bool))],[some ⟨[], 56,false,some (.wrows shE)⟩,none,some ⟨[.int .u8,.int .i64,.int .i64,.int .i64,.int .i64,.int .i64,.int .u8], 24,false,none⟩]⟩
def WN:LF:=fun st K=>match wR xdt st with
 | some (.n n0 :: .z z1 :: .n n2 :: .n n3 :: .b b4 :: .i a5 :: .n n6 :: .r q7 :: .i a8 :: .i a9 :: .i a10 :: .i a11 :: .i a12 :: .i a13 :: .i a14 :: .i a15 :: .i a16 :: .i a17 :: .i a18 :: .i a19 :: .i a20 :: .i a21 :: .i a22 :: .i a23 :: .i a24 :: .i a25 :: .i a26 :: .i a27 :: .i a28 :: .i a29 :: .i a30 :: .i a31 :: [])=>some (qC n0 z1 n2 n3 b4 n6 q7 a8 a9 a10 a11 a12 a13 a14 a15 a16 a17 a18 a19 a20 a21 a22 a23 a24 a25 a26 a27 a28 a29 a30 a31 a5 (fun G0=>K (.ret) (yX xaL [.b true,.n n6,.r q7,.i a25,.i a26,.i a27,.i a28,.i G0,.i a30,.i a31])) (fun _=>K (.exit 0) (yX xaL [.b b4,.n n6,.r q7,.i a18,.i a19,.i a20,.i a21,.i a22,.i a23,.i a24])))
 | _=>none
theorem xi2 : ∀st K t,WN st K=some t->vH xG (lf kq2 xG 1 .no [1,1,1,0,1,0] Tryz.f10 K) st=t:=by
 intro st K t h
 unfold WN at h
 split at h
 .rename_i n0 z1 n2 n3 b4 a5 n6 q7 a8 a9 a10 a11 a12 a13 a14 a15 a16 a17 a18 a19 a20 a21 a22 a23 a24 a25 a26 a27 a28 a29 a30 a31 hm
  cases h
  rw[vr hm]
  unfold qC
  exact qq (S:=fun(i:Int)=>yX xdt [.n n0,.z z1,.n n2,.n n3,.b b4,.i i,.n n6,.r q7,.i a8,.i a9,.i a10,.i a11,.i a12,.i a13,.i a14,.i a15,.i a16,.i a17,.i a18,.i a19,.i a20,.i a21,.i a22,.i a23,.i a24,.i a25,.i a26,.i a27,.i a28,.i a29,.i a30,.i a31]) (fun i k=>by kernel_rfl) xG a5
 .cases h
def xfY(e:Ent)(o:Nat)(z:yW)(n c q:Nat)(L:xq)(κ:(Cll×Bool)->T β):T β:=
 bif decide (e.rf<0)then(κ (⟨e.op,e.sz,e.n,e.al,e.at_,e.off,e.by_⟩,true)) else
 qC o z n c false q L e.th e.op e.sz e.n e.al e.at_ e.off e.by_ e.rf e.st 0 0 0 0 0 0 0 e.op e.sz e.n e.al e.at_ e.off e.by_ 0 (fun dz=>
 κ (⟨e.op,e.sz,e.n,e.al,dz,e.off,e.by_⟩,true)) (fun dz=>
 κ (⟨0,0,0,0,0,0,0⟩,false))
def aksT(e:Ent)(o:Nat)(z:yW)(n c q:Nat)(L:xq):T (Cll×Bool):=xfY e o z n c q L .ret
theorem xhp(e o z n c q L)(κ:(Cll×Bool)->T β):(aksT e o z n c q L).bind κ=xfY e o z n c q L κ:=by
 unfold aksT xfY
 simp only[bz,xbZ]
def xeW:Sm:=fun
 | [.c (.sl 0 0 1 1)],[some ⟨ec, 26,false,none⟩]=>(match Ent.of ec with
   | some e=>some (mkS B12 (encT e) fun r=>some (.c (.slg 1 0 12),[some ⟨e.cells, 26,false,none⟩,some ⟨r.list.map (.int .u8), 5,true,none⟩]))
   | _=>none)
 | _,_=>none
theorem xi3{ask:AskT}{el:TypeId}{fr:Nat×Nat}(hl:SoundLK (JB ask el fr) kq2):xx (JB ask el fr) 11 xeW:=by
 refine wG hl 300 (by kernel_rfl) Tryz.func11 (by kernel_rfl) (by kernel_rfl) fun _ _ t ht =>?_
 unfold xeW at ht
 split at ht
 .rename_i ec
  split at ht
  .rename_i e he
   obtain rfl:=Ent.of_eq he
   cases ht
   exact ey (xhn e _)
  .cases ht
 .cases ht
def xeX:Sm:=fun
 | [.agg ec,.c (.slw 0 o z n c)],[some ⟨[], 56,false,some (.wrows q [.int .i64,.int .u8,.int .i64,.int .i64,.int .i64,.int .i64,.int .i64,.int .u8,.int .i64,.int .i64,.int .i64,.int .i64,.bool,.int .i64,.int .i64,.int .u8,.int .u64,.int .u64,.int .u64,.int .u64,.int .u64,.int .i64,.int .i64,.int .i64] L)⟩]=>(match Ent.of ec with
   | some e=>some (mkS ((Cll×Bool)) (askT e o z n c q L) fun r=>some (.tup [.agg r.1.cells,.c (.bool r.2)],[some ⟨[], 56,false,some (.wrows q shE L)⟩]))
   | _=>none)
 | _,_=>none
theorem xi4{ask:AskT}{el:TypeId}{fr:Nat×Nat}(hl:SoundLK (JB ask el fr) kq2):xx (JB ask el fr) 9 xeX:=by
 refine wG hl 300 (by kernel_rfl) Tryz.func9 (by kernel_rfl) (by kernel_rfl) fun _ _ t ht =>?_
 unfold xeX at ht
 split at ht
 .rename_i ec o z n c q L
  split at ht
  .rename_i e he
   obtain rfl:=Ent.of_eq he
   cases ht
   exact ey (xho e o z n c q L _)
  .cases ht
 .cases ht
def xeY:Sm:=fun
 | [.agg ec,.c (.slw 0 o z n c)],[some ⟨[], 56,false,some (.wrows q [.int .i64,.int .u8,.int .i64,.int .i64,.int .i64,.int .i64,.int .i64,.int .u8,.int .i64,.int .i64,.int .i64,.int .i64,.bool,.int .i64,.int .i64,.int .u8,.int .u64,.int .u64,.int .u64,.int .u64,.int .u64,.int .i64,.int .i64,.int .i64] L)⟩]=>(match Ent.of ec with
   | some e=>some (mkS ((Cll×Bool)) (aksT e o z n c q L) fun r=>some (.tup [.agg r.1.cells,.c (.bool r.2)],[some ⟨[], 56,false,some (.wrows q shE L)⟩]))
   | _=>none)
 | _,_=>none
theorem xhq:Good Tryz.prog (xU kq2) xG 1 (lsAt WN .no [1,1,1,0,1,0]) (Tryz.f10.body.getD .skip) (yy Tryz.f10.results.toList):=(WG (ve (by kernel_rfl)) jv xi2)
theorem xi5{ask:AskT}{el:TypeId}{fr:Nat×Nat}(hl:SoundLK (JB ask el fr) kq2):xx (JB ask el fr) 10 xeY:=by
 refine wG hl xG (by kernel_rfl) Tryz.func10 (by kernel_rfl) (by kernel_rfl) fun _ _ t ht =>?_
 unfold xeY at ht
 split at ht
 .rename_i ec o z n c q L
  split at ht
  .rename_i e he
   obtain rfl:=Ent.of_eq he
   cases ht
   refine(ZC (P:= Tryz.prog) (n:=xG) (x:=(lsAt WN .no [1,1,1,0,1,0])) (fn:= Tryz.f10) (H :=[some ⟨[], 56,false,some (.wrows q shE L)⟩]) (c:= Tryz.f10.body.getD .skip) (ve (by kernel_rfl)) xhq).symm.trans ?_
   exact ey (xhp e o z n c q L _)
  .cases ht
 .cases ht
noncomputable def kq3:List (Nat×Sm):=(11,xeW)::(9,xeX)::(10,xeY)::kq2
theorem s_kq3{ask:AskT}{el:TypeId}{fr:Nat×Nat}(h:SoundLK (JB ask el fr) kq2):SoundLK (JB ask el fr) kq3:=(.cons (xi3 h) (.cons (xi4 h) (.cons (xi5 h) h)))
end Go.Proofs.YtfagfflkgmcnpaaGreatDoor.Lx
namespace Go.Proofs.YtfagfflkgmcnpaaGreatDoor.Lx
variable{β:Type}(g:Geo)
open Go Go.Conc Kx Mx Tx
def kS(b0:Bool)(a4 a5 a6 a7 a8 a9 a10 a11 a12 a13 a14 a15 a16 a17 a18 a19 a20:Int)(κ0:Bool->T β)(i:Bool×Int×Int)(k:Bool×Int×Int->T β):T β:=
 bif decide (i.2.2<62)then(bif i.1 then(k (true,i64.wrap (2*i.2.1),i64.wrap (i.2.2+1))) else
 k (a17==i.2.1,i64.wrap (2*i.2.1),i64.wrap (i.2.2+1))) else
 κ0 (i.1)
def qD(b0:Bool)(a4 a5 a6 a7 a8 a9 a10 a11 a12 a13 a14 a15 a16 a17 a18 a19 a20:Int)(b1:Bool)(a2 a3:Int)(κ0:Bool->T β):T β:=vo xG (kS b0 a4 a5 a6 a7 a8 a9 a10 a11 a12 a13 a14 a15 a16 a17 a18 a19 a20 κ0) (b1,a2,a3)
theorem xb0{β γ:Type}(b0 a4 a5 a6 a7 a8 a9 a10 a11 a12 a13 a14 a15 a16 a17 a18 a19 a20 b1 a2 a3 κ0)(κ:β->T γ):(qD b0 a4 a5 a6 a7 a8 a9 a10 a11 a12 a13 a14 a15 a16 a17 a18 a19 a20 b1 a2 a3 κ0).bind κ=qD b0 a4 a5 a6 a7 a8 a9 a10 a11 a12 a13 a14 a15 a16 a17 a18 a19 a20 b1 a2 a3 (fun Gz=>(κ0 Gz).bind κ):=by
 unfold qD
 refine wn κ (fun i k =>?_) _ _
 unfold kS
 simp only[bz]
def xdu:Pat:=⟨wu 112 0 [(1,.c (.raw (.ptr 0 0))),(2,.c (.bool)),(3,.c (.raw (.ptr 1 0))),(4,.c (.bool)),(5,.c (.int .i64)),(6,.c (.int .i64))],[some ⟨[.int .i64,.int .u8,.int .i64,.int .i64,.int .i64,.int .i64,.int .i64,.int .u8,.int .i64,.int .i64], 33,false,none⟩,some ⟨[.int .u8,.int .i64,.int .i64,.int .i64,.int .i64,.int .i64,.int .u8], 24,false,none⟩]⟩
def xaM:Pat:=⟨wu 112 0 [(1,.c (.raw (.ptr 0 0))),(2,.c (.bool)),(3,.c (.raw (.ptr 1 0))),(4,.c (.bool))],[some ⟨[.int .i64,.int .u8,.int .i64,.int .i64,.int .i64,.int .i64,.int .i64,.int .u8,.int .i64,.int .i64], 33,false,none⟩,some ⟨[.int .u8,.int .i64,.int .i64,.int .i64,.int .i64,.int .i64,.int .u8], 24,false,none⟩]⟩
def ZK:LF:=fun st K=>match wR xdu st with
 | some [.b b0,.b b1,.i a2,.i a3,.i a4,.i a5,.i a6,.i a7,.i a8,.i a9,.i a10,.i a11,.i a12,.i a13,.i a14,.i a15,.i a16,.i a17,.i a18,.i a19,.i a20]=>some (qD b0 a4 a5 a6 a7 a8 a9 a10 a11 a12 a13 a14 a15 a16 a17 a18 a19 a20 b1 a2 a3 (fun Gz=>K (.exit 0) (yX xaM [.b b0,.b Gz,.i a4,.i a5,.i a6,.i a7,.i a8,.i a9,.i a10,.i a11,.i a12,.i a13,.i a14,.i a15,.i a16,.i a17,.i a18,.i a19,.i a20])))
 | _=>none
theorem xi6 : ∀st K t,ZK st K=some t->vH xG (lf kq3 (⟨xG,[⟨1000003,0,.col .i64⟩,⟨1000004,0,.col .i64⟩],true⟩:Fu) 0 .no [1,1,1,1,0,1,0] Tryz.f12 K) st=t:=by
 intro st K t h
 unfold ZK at h
 split at h
 .rename_i b0 b1 a2 a3 a4 a5 a6 a7 a8 a9 a10 a11 a12 a13 a14 a15 a16 a17 a18 a19 a20 hm
  cases h
  rw[vr hm]
  unfold qD
  exact qq (S:=fun(i:Bool×Int×Int)=>yX xdu [.b b0,.b i.1,.i i.2.1,.i i.2.2,.i a4,.i a5,.i a6,.i a7,.i a8,.i a9,.i a10,.i a11,.i a12,.i a13,.i a14,.i a15,.i a16,.i a17,.i a18,.i a19,.i a20]) (fun i k=>by kernel_rfl) xG (b1,a2,a3)
 .cases h
def jD(b0 b1:Bool)(a2 a3 a4 a5 a6 a7 a8 a9 a10 a11 a12 a13 a14 a15 a16 a17 a18:Int)(κ0:Unit->T β)(κ1:Bool->T β):T β:=
 bif !b1 then(κ0 ()) else
 bif decide (a2<0)then(κ0 ()) else
 bif decide (a2>255)then(κ0 ()) else
 bif decide (a14<0)then(κ0 ()) else
 bif decide (a14>255)then(κ0 ()) else
 bif decide (a17<(-128))then(κ0 ()) else
 bif decide (a17>127)then(κ0 ()) else
 bif decide (a13<0)then(κ0 ()) else
 bif decide (a13>65535)then(κ0 ()) else
 bif decide (a11<0)then(κ0 ()) else
 bif decide (a11>32767)then(κ0 ()) else
 bif a10==(-1)then(bif decide (a16>=0)then(κ1 (decide (a16<=65535))) else
 κ0 ()) else
 bif decide (a10>=0)then(bif decide (a10<=65535)then(κ1 (a16==0)) else
 κ0 ()) else
 κ0 ()
theorem xb1{β γ:Type}(b0 b1 a2 a3 a4 a5 a6 a7 a8 a9 a10 a11 a12 a13 a14 a15 a16 a17 a18 κ0 κ1)(κ:β->T γ):(jD b0 b1 a2 a3 a4 a5 a6 a7 a8 a9 a10 a11 a12 a13 a14 a15 a16 a17 a18 κ0 κ1).bind κ=jD b0 b1 a2 a3 a4 a5 a6 a7 a8 a9 a10 a11 a12 a13 a14 a15 a16 a17 a18 (fun u=>(κ0 u).bind κ) (fun uf=>(κ1 uf).bind κ):=by
 unfold jD
 simp only[bz]
def ZL:Pat:=⟨wu 112 0 [(2,.c (.bool))],[]⟩
def ZM:LF:=fun st K=>match wR xaM st with
 | some [.b b0,.b b1,.i a2,.i a3,.i a4,.i a5,.i a6,.i a7,.i a8,.i a9,.i a10,.i a11,.i a12,.i a13,.i a14,.i a15,.i a16,.i a17,.i a18]=>some (jD b0 b1 a2 a3 a4 a5 a6 a7 a8 a9 a10 a11 a12 a13 a14 a15 a16 a17 a18 (fun _=>K (.ret) (yX ZL [.b false])) (fun uf=>K (.ret) (yX ZL [.b uf])))
 | _=>none
theorem xi7 : ∀st K t,ZM st K=some t->ev2 Tryz.prog (xU kq3) (⟨xG,[⟨1000003,0,.col .i64⟩,⟨1000004,0,.col .i64⟩],true⟩:Fu) 0 .no (cutC [1,1,1,1,1] Tryz.f12) (cutV [1,1,1,1,1] Tryz.f12) st (jI (⟨xG,[⟨1000003,0,.col .i64⟩,⟨1000004,0,.col .i64⟩],true⟩:Fu) 0 (cutV [1,1,1,1,1] Tryz.f12) K)=t:=by
 intro st K t h
 unfold ZM at h
 split at h
 .rename_i b0 b1 a2 a3 a4 a5 a6 a7 a8 a9 a10 a11 a12 a13 a14 a15 a16 a17 a18 hm hm
  cases h
  rw[vr hm]
  kernel_rfl
 .cases h
def kl(b0 b1:Bool)(a2 a3 a4 a5 a6 a7 a8 a9 a10 a11 a12 a13 a14 a15 a16 a17 a18 a19:Int)(κ0:Unit->T β)(κ1:Bool->T β):T β:=
 qD b0 a3 a4 a5 a6 a7 a8 a9 a10 a11 a12 a13 a14 a15 a16 a17 a18 a19 b1 a2 0 (fun oe=>
 jD b0 oe a3 a4 a5 a6 a7 a8 a9 a10 a11 a12 a13 a14 a15 a16 a17 a18 a19 (fun dz=>
 κ0 ()) (fun dz=>
 κ1 dz))
theorem xb2{β γ:Type}(b0 b1 a2 a3 a4 a5 a6 a7 a8 a9 a10 a11 a12 a13 a14 a15 a16 a17 a18 a19 κ0 κ1)(κ:β->T γ):(kl b0 b1 a2 a3 a4 a5 a6 a7 a8 a9 a10 a11 a12 a13 a14 a15 a16 a17 a18 a19 κ0 κ1).bind κ=kl b0 b1 a2 a3 a4 a5 a6 a7 a8 a9 a10 a11 a12 a13 a14 a15 a16 a17 a18 a19 (fun u=>(κ0 u).bind κ) (fun uf=>(κ1 uf).bind κ):=by
 unfold kl
 simp only[bz,xb0,xb1]
def xi8:Pat:=⟨wu 112 0 [(1,.c (.raw (.ptr 0 0))),(2,.c (.bool)),(3,.c (.raw (.ptr 1 0))),(4,.c (.bool)),(5,.c (.int .i64))],[some ⟨[.int .i64,.int .u8,.int .i64,.int .i64,.int .i64,.int .i64,.int .i64,.int .u8,.int .i64,.int .i64], 33,false,none⟩,some ⟨[.int .u8,.int .i64,.int .i64,.int .i64,.int .i64,.int .i64,.int .u8], 24,false,none⟩]⟩
def xb3(F:Bool->Bool->Int->Int->Int->Int->Int->Int->Int->Int->Int->Int->Int->Int->Int->Int->Int->Int->Int->Int->(Unit->T R)->(Bool->T R)->T R):LF:=fun st K=>match wR xi8 st with
 | some [.b b0,.b b1,.i a2,.i a3,.i a4,.i a5,.i a6,.i a7,.i a8,.i a9,.i a10,.i a11,.i a12,.i a13,.i a14,.i a15,.i a16,.i a17,.i a18,.i a19]=>some (F b0 b1 a2 a3 a4 a5 a6 a7 a8 a9 a10 a11 a12 a13 a14 a15 a16 a17 a18 a19 (fun _=>K (.ret) (yX ZL [.b false])) (fun uf=>K (.ret) (yX ZL [.b uf])))
 | _=>none
def WO:St->(Ex->St->T R)->Option (T R):=xb3 fun v0 v1 v2 v3 v4 v5 v6 v7 v8 v9 pi D8 D7 D6 D5 D4 D3 D2 D1 D0 κ0 κ1=>kl v0 v1 v2 v3 v4 v5 v6 v7 v8 v9 pi D8 D7 D6 D5 D4 D3 D2 D1 D0 κ0 κ1
theorem xi9 : ∀st K t,WO st K=some t->ev2 Tryz.prog (xU kq3) (⟨xG,[⟨1000003,0,.col .i64⟩,⟨1000004,0,.col .i64⟩],true⟩:Fu) 0 (mrg (lsAt ZK .no [0,1,0]) (csAt ZM .no [1])) (cutC [1,1,1,1] Tryz.f12) (cutV [1,1,1,1] Tryz.f12) st (jI (⟨xG,[⟨1000003,0,.col .i64⟩,⟨1000004,0,.col .i64⟩],true⟩:Fu) 0 (cutV [1,1,1,1] Tryz.f12) K)=t:=by
 intro st K t h
 unfold WO xb3 at h
 split at h
 .rename_i b0 b1 a2 a3 a4 a5 a6 a7 a8 a9 a10 a11 a12 a13 a14 a15 a16 a17 a18 a19 hm hm
  cases h
  rw[vr hm]
  kernel_rfl
 .cases h
def xdv(e:Ent)(κ:Bool->T β):T β:=
 bif decide (e.al>=186)then(bif decide (e.al<=765)then(kl false (Int.tmod e.al 3==0) 1 e.th e.op e.sz e.n e.al e.at_ e.off e.by_ e.rf e.st e.op e.sz e.n e.al e.at_ e.off e.by_ (fun gd=>
 κ false) (fun gd=>
 κ gd)) else
 kl false false 1 e.th e.op e.sz e.n e.al e.at_ e.off e.by_ e.rf e.st e.op e.sz e.n e.al e.at_ e.off e.by_ (fun gd=>
 κ false) (fun gd=>
 κ gd)) else
 kl false false 1 e.th e.op e.sz e.n e.al e.at_ e.off e.by_ e.rf e.st e.op e.sz e.n e.al e.at_ e.off e.by_ (fun dz=>
 κ false) (fun dz=>
 κ dz)
def sdrT(e:Ent):T Bool:=xdv e .ret
theorem xhr(e)(κ:Bool->T β):(sdrT e).bind κ=xdv e κ:=by
 unfold sdrT xdv
 simp only[bz,xb2]
def xeZ:Sm:=fun
 | [.agg ec],[]=>(match Ent.of ec with
   | some e=>some (mkS Bool (sdrT e) fun r=>some (.c (.bool r),[]))
   | _=>none)
 | _,_=>none
theorem xhs:Good Tryz.prog (xU kq3) (⟨xG,[⟨1000003,0,.col .i64⟩,⟨1000004,0,.col .i64⟩],true⟩:Fu) 0 (csAt WO (mrg (lsAt ZK .no [0,1,0]) (csAt ZM .no [1])) [1,1,1,1]) (Tryz.f12.body.getD .skip) (yy Tryz.f12.results.toList):=(Zd (ve (by kernel_rfl)) (vu (xcF (p :=[1,1,1,1]) (q :=[0,1,0]) (ve (fn:= Tryz.f12) (by kernel_rfl)) jv xi6 (by kernel_rfl)) (xbi (p :=[1,1,1,1]) (q :=[1]) (ve (fn:= Tryz.f12) (by kernel_rfl)) jv xi7 (by kernel_rfl))) xi9)
theorem sdrT_ev(F:Bool->Bool->Int->Int->Int->Int->Int->Int->Int->Int->Int->Int->Int->Int->Int->Int->Int->Int->Int->Int->(Unit->T R)->(Bool->T R)->T R)(e:Ent):evF2 Tryz.prog (xU kq3) (⟨xG,[⟨1000003,0,.col .i64⟩,⟨1000004,0,.col .i64⟩],true⟩:Fu) (csAt (xb3 F) (mrg (lsAt ZK .no [0,1,0]) (csAt ZM .no [1])) [1,1,1,1]) Tryz.f12 [.agg e.cells] [] =
  (  bif decide (e.al>=186)then(bif decide (e.al<=765)then(F false (Int.tmod e.al 3==0) 1 e.th e.op e.sz e.n e.al e.at_ e.off e.by_ e.rf e.st e.op e.sz e.n e.al e.at_ e.off e.by_ (fun gd=>
    T.ret (V.c (.bool false),([]:Heap))) (fun gd=>
    T.ret (V.c (.bool gd),([]:Heap)))) else
   F false false 1 e.th e.op e.sz e.n e.al e.at_ e.off e.by_ e.rf e.st e.op e.sz e.n e.al e.at_ e.off e.by_ (fun gd=>
    T.ret (V.c (.bool false),([]:Heap))) (fun gd=>
    T.ret (V.c (.bool gd),([]:Heap)))) else
  F false false 1 e.th e.op e.sz e.n e.al e.at_ e.off e.by_ e.rf e.st e.op e.sz e.n e.al e.at_ e.off e.by_ (fun dz=>
   T.ret (V.c (.bool false),([]:Heap))) (fun dz=>
   T.ret (V.c (.bool dz),([]:Heap)))):=by kernel_rfl
theorem xja{ask:AskT}{el:TypeId}{fr:Nat×Nat}(hl:SoundLK (JB ask el fr) kq3):xx (JB ask el fr) 12 xeZ:=by
 refine wG hl (⟨xG,[⟨1000003,0,.col .i64⟩,⟨1000004,0,.col .i64⟩],true⟩:Fu) (by kernel_rfl) Tryz.func12 (by kernel_rfl) (by kernel_rfl) fun _ _ t ht =>?_
 unfold xeZ at ht
 split at ht
 .rename_i ec
  split at ht
  .rename_i e he
   obtain rfl:=Ent.of_eq he
   cases ht
   refine(ZC (P:= Tryz.prog) (n:=(⟨xG,[⟨1000003,0,.col .i64⟩,⟨1000004,0,.col .i64⟩],true⟩:Fu)) (x:=(csAt WO (mrg (lsAt ZK .no [0,1,0]) (csAt ZM .no [1])) [1,1,1,1])) (fn:= Tryz.f12) (H :=[]) (c:= Tryz.f12.body.getD .skip) (ve (by kernel_rfl)) xhs).symm.trans ?_
   refine Eq.trans ?_ (xhr e _).symm
   unfold xdv
   exact sdrT_ev (fun v0 v1 v2 v3 v4 v5 v6 v7 v8 v9 pi D8 D7 D6 D5 D4 D3 D2 D1 D0 κ0 κ1=>kl v0 v1 v2 v3 v4 v5 v6 v7 v8 v9 pi D8 D7 D6 D5 D4 D3 D2 D1 D0 κ0 κ1) e
  .cases ht
 .cases ht
noncomputable def kq4:List (Nat×Sm):=(12,xeZ)::kq3
theorem s_kq4{ask:AskT}{el:TypeId}{fr:Nat×Nat}(h:SoundLK (JB ask el fr) kq3):SoundLK (JB ask el fr) kq4:=(.cons (xja h) h)
end Go.Proofs.YtfagfflkgmcnpaaGreatDoor.Lx
namespace Go.Proofs.YtfagfflkgmcnpaaGreatDoor.Lx
variable{β:Type}(g:Geo)
open Go Go.Conc Kx Mx Tx
def k12(n:Nat)(x0 x1 x2 x3 x4 x5 x6 x7 x8 x9 x10 x11:Int):Bool:=kA (List.replicate n 0) [some ⟨[.int .u8 x0,.int .u8 x1,.int .u8 x2,.int .u8 x3,.int .u8 x4,.int .u8 x5,.int .u8 x6,.int .u8 x7,.int .u8 x8,.int .u8 x9,.int .u8 x10,.int .u8 x11], 5,true,none⟩] [some ⟨[.int .u8 x0,.int .u8 x1,.int .u8 x2,.int .u8 x3,.int .u8 x4,.int .u8 x5,.int .u8 x6,.int .u8 x7,.int .u8 x8,.int .u8 x9,.int .u8 x10,.int .u8 x11], 5,true,none⟩]
theorem xdw(n:Nat)(x0 x1 x2 x3 x4 x5 x6 x7 x8 x9 x10 x11:Int):k12 n x0 x1 x2 x3 x4 x5 x6 x7 x8 x9 x10 x11=true:=by
 simp only[k12,kA,List.all_eq_true,List.mem_replicate]
 rintro b ⟨_,rfl⟩
 simp[blkAt,Xx,Yo,Xw,xfa]
def xdx(x0 x1 x2 x3 x4 x5 x6 x7 x8 x9 x10 x11:Int)(κ:Ent->T β):T β:=
 bif k12 6 x0 x1 x2 x3 x4 x5 x6 x7 x8 x9 x10 x11 then(bif decide (x5<62)then(bif !decide (x5<0)then(bif k12 5 x0 x1 x2 x3 x4 x5 x6 x7 x8 x9 x10 x11 then(bif k12 5 x0 x1 x2 x3 x4 x5 x6 x7 x8 x9 x10 x11 then(bif bits BinOp.and u8 x10 1==1 then(κ ⟨(i64.wrap x0),x1,(bits BinOp.or i64 (i64.wrap x2) (i64.wrap (i64.wrap x3*256))),(i64.wrap x4),(i64.wrap (1*2 ^ if Int.toNat x5<=64 then Int.toNat x5 else(64:Nat))),0,(i64.wrap (IntKind.i8.wrap x8)),x9,(bits BinOp.or i64 (i64.wrap x6) (i64.wrap (i64.wrap x7*256))),(Int.fdiv (bits BinOp.or i64 (i64.wrap x10) (i64.wrap (i64.wrap x11*256))) 2)⟩) else
 κ ⟨(i64.wrap x0),x1,(bits BinOp.or i64 (i64.wrap x2) (i64.wrap (i64.wrap x3*256))),(i64.wrap x4),(i64.wrap (1*2 ^ if Int.toNat x5<=64 then Int.toNat x5 else(64:Nat))),(bits BinOp.or i64 (i64.wrap x6) (i64.wrap (i64.wrap x7*256))),(i64.wrap (IntKind.i8.wrap x8)),x9,((-1)),(Int.fdiv (bits BinOp.or i64 (i64.wrap x10) (i64.wrap (i64.wrap x11*256))) 2)⟩) else
 .fail) else
 .fail) else
 .fail) else
 bif k12 5 x0 x1 x2 x3 x4 x5 x6 x7 x8 x9 x10 x11 then(bif k12 5 x0 x1 x2 x3 x4 x5 x6 x7 x8 x9 x10 x11 then(bif bits BinOp.and u8 x10 1==1 then(κ ⟨(i64.wrap x0),x1,(bits BinOp.or i64 (i64.wrap x2) (i64.wrap (i64.wrap x3*256))),(i64.wrap x4),(i64.wrap (3*i64.wrap x5)),0,(i64.wrap (IntKind.i8.wrap x8)),x9,(bits BinOp.or i64 (i64.wrap x6) (i64.wrap (i64.wrap x7*256))),(Int.fdiv (bits BinOp.or i64 (i64.wrap x10) (i64.wrap (i64.wrap x11*256))) 2)⟩) else
 κ ⟨(i64.wrap x0),x1,(bits BinOp.or i64 (i64.wrap x2) (i64.wrap (i64.wrap x3*256))),(i64.wrap x4),(i64.wrap (3*i64.wrap x5)),(bits BinOp.or i64 (i64.wrap x6) (i64.wrap (i64.wrap x7*256))),(i64.wrap (IntKind.i8.wrap x8)),x9,((-1)),(Int.fdiv (bits BinOp.or i64 (i64.wrap x10) (i64.wrap (i64.wrap x11*256))) 2)⟩) else
 .fail) else
 .fail) else
 .fail
def en1T(x0 x1 x2 x3 x4 x5 x6 x7 x8 x9 x10 x11:Int):T Ent:=xdx x0 x1 x2 x3 x4 x5 x6 x7 x8 x9 x10 x11 .ret
theorem xht(x0 x1 x2 x3 x4 x5 x6 x7 x8 x9 x10 x11)(κ:Ent->T β):(en1T x0 x1 x2 x3 x4 x5 x6 x7 x8 x9 x10 x11).bind κ=xdx x0 x1 x2 x3 x4 x5 x6 x7 x8 x9 x10 x11 κ:=by
 unfold en1T xdx
 simp only[bz]
def xe0:Sm:=fun
 | [.c (.sl 0 0 12 12)],[some ⟨[.int .u8 x0,.int .u8 x1,.int .u8 x2,.int .u8 x3,.int .u8 x4,.int .u8 x5,.int .u8 x6,.int .u8 x7,.int .u8 x8,.int .u8 x9,.int .u8 x10,.int .u8 x11], 5,true,none⟩]=>some (mkS Ent (en1T x0 x1 x2 x3 x4 x5 x6 x7 x8 x9 x10 x11) fun r=>some (.agg r.cells,[some ⟨[.int .u8 x0,.int .u8 x1,.int .u8 x2,.int .u8 x3,.int .u8 x4,.int .u8 x5,.int .u8 x6,.int .u8 x7,.int .u8 x8,.int .u8 x9,.int .u8 x10,.int .u8 x11], 5,true,none⟩]))
 | _,_=>none
theorem xjb{ask:AskT}{el:TypeId}{fr:Nat×Nat}(hl:SoundLK (JB ask el fr) kq4):xx (JB ask el fr) 18 xe0:=by
 refine wG hl 300 (by kernel_rfl) Tryz.func18 (by kernel_rfl) (by kernel_rfl) fun _ _ t ht =>?_
 unfold xe0 at ht
 split at ht
 .rename_i x0 x1 x2 x3 x4 x5 x6 x7 x8 x9 x10 x11
  cases ht
  exact ey (xht x0 x1 x2 x3 x4 x5 x6 x7 x8 x9 x10 x11 _)
 .cases ht
noncomputable def kq4a:List (Nat×Sm):=(18,xe0)::kq4
theorem s_kq4a{ask:AskT}{el:TypeId}{fr:Nat×Nat}(h:SoundLK (JB ask el fr) kq4):SoundLK (JB ask el fr) kq4a:=(.cons (xjb h) h)
end Go.Proofs.YtfagfflkgmcnpaaGreatDoor.Lx
namespace Go.Proofs.YtfagfflkgmcnpaaGreatDoor.Lx
open Go Go.Conc Kx Mx Tx
def awkTK{β:Type}(κ:Bool->T β):T β:=aw21T.bind fun _=>κ true
def awkT:T Bool:=awkTK .ret
def xe1:Sm:=fun
 | [],[]=>some (mkS Bool awkT fun r=>some (.c (.bool r),[]))
 | _,_=>none
theorem xjc{ask:AskT}{el:TypeId}{fr:Nat×Nat}(h:SoundLK (JB ask el fr) (ms22 kScr)):xx (JB ask el fr) 5 xe1:=by
 have hs:=Ws (ask:=ask) (X:=xpG 1 (dbO el fr)) h
 refine⟨hs.1,fun args H S hS e w s F vs E hv hR hF hO x v H' s' aa aw =>?_⟩
 unfold xe1 at hS
 split at hS
 .cases hS
  have aa:(aw21T.bind fun _=>T.ret true).run (JB ask el fr).step s=some (x,s'):=aa
  obtain⟨u,s1,h1,h2⟩:=T.run_bind_some aa
  simp only[T.run,oI,dI]at h2
  obtain⟨rfl,rfl⟩:=h2
  exact hs.2 [] [] _ rfl e w s F vs E hv hR hF hO u v H' s1 h1 aw
 .cases hS
noncomputable def kq4b:List (Nat×Sm):=(6,orKs xbX (inl Tryz.prog (xU kq4a) 300 Tryz.f6))::kq4a
theorem s_kq4b{ask:AskT}{el:TypeId}{fr:Nat×Nat}(h1:SoundLK (JB ask el fr) kq1)(h:SoundLK (JB ask el fr) kq4a):SoundLK (JB ask el fr) kq4b :=.cons (qw (xdr h1) (yx h 300 (by kernel_rfl) Tryz.func6 (by kernel_rfl) (by kernel_rfl))) h
noncomputable def kq4c:List (Nat×Sm):=(7,orKs xbY (inl Tryz.prog (xU kq4b) 300 Tryz.f7))::kq4b
theorem s_kq4c{ask:AskT}{el:TypeId}{fr:Nat×Nat}(h1:SoundLK (JB ask el fr) kq1)(h:SoundLK (JB ask el fr) kq4b):SoundLK (JB ask el fr) kq4c :=.cons (qw (xds h1) (yx h 300 (by kernel_rfl) Tryz.func7 (by kernel_rfl) (by kernel_rfl))) h
noncomputable def kq5:List (Nat×Sm):=(5,xe1)::kq4c
theorem s_kq5{ask:AskT}{el:TypeId}{fr:Nat×Nat}(ha:SoundLK (JB ask el fr) (ms22 kScr)):SoundLK (JB ask el fr) kq5 :=.cons (xjc ha) (s_kq4c (s_kq1 s_kq0) (s_kq4b (s_kq1 s_kq0) (s_kq4a (s_kq4 (s_kq3 (s_kq2 (s_kq1 s_kq0)))))))
end Go.Proofs.YtfagfflkgmcnpaaGreatDoor.Lx
namespace Go.Proofs.YtfagfflkgmcnpaaGreatDoor.Lx
open Go
theorem ZN(a:Nat)(ha:a<9223372036854775808):(BitVec.ofInt 64 (a:Int)).toNat=a:=by
 rw[BitVec.ofInt_natCast,BitVec.toNat_ofNat];exact Nat.mod_eq_of_lt (by omega)
theorem Ks(a b:Nat)(ha:a<9223372036854775808)(hb:b<9223372036854775808):bits .or .i64 (a:Int) (b:Int)=((a ||| b:Nat):Int):=by
 have hx:a ||| b<2 ^ 63:=Nat.or_lt_two_pow (by omega) (by omega)
 show i64.wrap ((BitVec.ofInt 64 (a:Int) ||| BitVec.ofInt 64 (b:Int)).toNat:Int)=_
 rw[BitVec.toNat_or,ZN a ha,ZN b hb,IntKind.wrap_i64]
 omega
theorem xdy(a b:Nat)(ha:a<9223372036854775808)(hb:b<9223372036854775808):bits .and .i64 (a:Int) (b:Int)=((a &&& b:Nat):Int):=by
 have hx:a &&& b<2 ^ 63:=Nat.and_lt_two_pow _ (by omega)
 show i64.wrap ((BitVec.ofInt 64 (a:Int) &&& BitVec.ofInt 64 (b:Int)).toNat:Int)=_
 rw[BitVec.toNat_and,ZN a ha,ZN b hb,IntKind.wrap_i64]
 omega
theorem w64{x:Int}(h0 : -9223372036854775808<=x)(h1:x<=9223372036854775807):IntKind.wrap .i64 x=x:=by rw[IntKind.wrap_i64];omega
theorem xe2{x y:Int}(h0:0<=x)(h1:x<=255)(h2:0<=y)(h3:y<=255):bits .or .i64 (IntKind.wrap .i64 x) (IntKind.wrap .i64 (IntKind.wrap .i64 y*256))=x+256*y:=by
 rw[w64 (x:=x) (by omega) (by omega),w64 (x:=y) (by omega) (by omega),w64 (x:=y*256) (by omega) (by omega)]
 obtain⟨a,rfl⟩:=Int.eq_ofNat_of_zero_le h0
 obtain⟨b,rfl⟩:=Int.eq_ofNat_of_zero_le h2
 have e:((b:Int)*256)=((2 ^ 8*b:Nat):Int):=by omega
 rw[e,Ks a (2 ^ 8*b) (by omega) (by omega),Nat.or_comm,<- Nat.two_pow_add_eq_or_of_lt (show a<2 ^ 8 by omega)]
 omega
theorem Kt(P:Int->Bool)(h:(List.range 256).all (fun k=>P (k:Int))=true){x:Int}(h0:0<=x)(h1:x<=255):P x=true:=by
 obtain⟨a,rfl⟩:=Int.eq_ofNat_of_zero_le h0
 exact List.all_eq_true.1 h a (List.mem_range.2 (by omega))
theorem xjd{x:Int}(h0:0<=x)(h1:x<=255):(bits .and .u8 x 1==1)=decide (x%2=1):=by
 have:=Kt (fun x=>(bits .and .u8 x 1==1)==decide (x%2=1)) (by decide +kernel) h0 h1
 simpa using this
theorem xje{x:Int}(h0:0<=x)(h1:x<=255):IntKind.wrap .i64 (IntKind.wrap .i8 x)=if x>127 then x-256 else x:=by
 have:=Kt (fun x=>IntKind.wrap .i64 (IntKind.wrap .i8 x)==if x>127 then x-256 else x) (by decide +kernel) h0 h1
 simpa using this
theorem xdz{x:Int}(h0:0<=x)(h1:x<62):IntKind.wrap .i64 (1*2 ^ if Int.toNat x<=64 then Int.toNat x else(64:Nat))=2 ^ x.toNat:=by
 have:=Kt (fun x=> !decide (x<62)||IntKind.wrap .i64 (1*2 ^ if Int.toNat x<=64 then Int.toNat x else(64:Nat))==2 ^ x.toNat) (by decide +kernel) h0 (by omega)
 simpa[h1]using this
def alZ(x:Int):Int:=if x<62 then 2 ^ x.toNat else 3*x
def ent12(x0 x1 x2 x3 x4 x5 x6 x7 x8 x9 x10 x11:Int):Ent:=⟨x0,x1,x2+256*x3,x4,alZ x5,if x10%2=1 then 0 else x6+256*x7,if x8>127 then x8-256 else x8,x9,if x10%2=1 then x6+256*x7 else -1,(x10+256*x11) / 2⟩
abbrev By(x:Int):Prop:=0<=x/\x<=255
theorem By.w{x:Int}(h:By x):IntKind.wrap .i64 x=x:=w64 (by omega) (by omega)
theorem fdiv2{v:Int}(h:0<=v):Int.fdiv v 2=v / 2:=Int.fdiv_eq_ediv_of_nonneg _ (by omega)
theorem xb4{x0 x1 x2 x3 x4 x5 x6 x7 x8 x9 x10 x11:Int}(b0:By x0)(b2:By x2)(b3:By x3)(b4:By x4)(b5:By x5)(b6:By x6)(b7:By x7)(b8:By x8)(b10:By x10)(b11:By x11):en1T x0 x1 x2 x3 x4 x5 x6 x7 x8 x9 x10 x11 = .ret (ent12 x0 x1 x2 x3 x4 x5 x6 x7 x8 x9 x10 x11):=by
 unfold en1T xdx ent12 alZ
 simp only[xdw,cond_true,xe2 b2.1 b2.2 b3.1 b3.2,xe2 b6.1 b6.2 b7.1 b7.2,xe2 b10.1 b10.2 b11.1 b11.2,xje b8.1 b8.2,b0.w,b4.w,b5.w,xjd b10.1 b10.2,fdiv2 (show 0<=x10+256*x11 by omega)]
 have hn:(!decide (x5<0))=true:=by simp;omega
 by_cases h5:x5<62<;>by_cases Gr:x10%2=1<;>simp only[h5,Gr,hn,decide_true,decide_false,cond_true,cond_false,if_true,if_false,↓reduceIte,not_true_eq_false,not_false_eq_true]
 .rw[xdz b5.1 h5]
 .rw[xdz b5.1 h5]
 .rw[w64 (x:=3*x5) (by omega) (by omega)]
 .rw[w64 (x:=3*x5) (by omega) (by omega)]
def xfZ(L:List Int)(d:Nat):Ent:=ent12 (getI L d) (getI L (d+1)) (getI L (d+2)) (getI L (d+3)) (getI L (d+4)) (getI L (d+5)) (getI L (d+6)) (getI L (d+7)) (getI L (d+8)) (getI L (d+9)) (getI L (d+10)) (getI L (d+11))
def Bys(L:List Int):Prop :=∀y∈L,By y
theorem Bys.at{L:List Int}(h:Bys L)(i:Nat):By (getI L i):=by
 unfold getI
 rw[List.getD_eq_getElem?_getD]
 cases hi:L[i]? with
 | none=>exact⟨by simp,by simp⟩
 | some y=>exact h y (List.mem_of_getElem? hi)
theorem vt{n:Nat}{i:Int}(h0:0<=i)(h1:i<(n:Int)):inR n i=true:=by simp[inR,h0,h1]
set_option maxHeartbeats 2000000 in
theorem entT_eq{o d a q:Nat}{L:List Int}(hq:q=o)(hl:d+12<=L.length)(hb:Bys L):entT o d a q L = .ret (xfZ L d):=by
 refine Eq.trans ?_ (xb4 (x0:=getI L d) (x1:=getI L (d+1)) (x2:=getI L (d+2)) (x3:=getI L (d+3)) (x4:=getI L (d+4)) (x5:=getI L (d+5)) (x6:=getI L (d+6)) (x7:=getI L (d+7)) (x8:=getI L (d+8)) (x9:=getI L (d+9)) (x10:=getI L (d+10)) (x11:=getI L (d+11)) (hb.at _) (hb.at _) (hb.at _) (hb.at _) (hb.at _) (hb.at _) (hb.at _) (hb.at _) (hb.at _) (hb.at _))
 subst hq
 have e0:Int.toNat ((d:Int)+0)=d+0:=by omega
 have f0:inR L.length ((d:Int)+0)=true:=vt (by omega) (by omega)
 have e1:Int.toNat ((d:Int)+1)=d+1:=by omega
 have f1:inR L.length ((d:Int)+1)=true:=vt (by omega) (by omega)
 have e4:Int.toNat ((d:Int)+4)=d+4:=by omega
 have f4:inR L.length ((d:Int)+4)=true:=vt (by omega) (by omega)
 have e5:Int.toNat ((d:Int)+5)=d+5:=by omega
 have f5:inR L.length ((d:Int)+5)=true:=vt (by omega) (by omega)
 have e8:Int.toNat ((d:Int)+8)=d+8:=by omega
 have f8:inR L.length ((d:Int)+8)=true:=vt (by omega) (by omega)
 have e9:Int.toNat ((d:Int)+9)=d+9:=by omega
 have f9:inR L.length ((d:Int)+9)=true:=vt (by omega) (by omega)
 have Dk:Int.toNat ((d:Int)+10)=d+10:=by omega
 have Lq:inR L.length ((d:Int)+10)=true:=vt (by omega) (by omega)
 have g2:inR L.length (((d+2:Nat):Int)+0)=true:=vt (by omega) (by omega)
 have g3:inR L.length (((d+2:Nat):Int)+1)=true:=vt (by omega) (by omega)
 have g6:inR L.length (((d+6:Nat):Int)+0)=true:=vt (by omega) (by omega)
 have g7:inR L.length (((d+6:Nat):Int)+1)=true:=vt (by omega) (by omega)
 have Bp:inR L.length (((d+10:Nat):Int)+0)=true:=vt (by omega) (by omega)
 have B3:inR L.length (((d+10:Nat):Int)+1)=true:=vt (by omega) (by omega)
 have m2:Int.toNat (((d+2:Nat):Int)+0)=d+2:=by omega
 have m3:Int.toNat (((d+2:Nat):Int)+1)=d+3:=by omega
 have m6:Int.toNat (((d+6:Nat):Int)+0)=d+6:=by omega
 have m7:Int.toNat (((d+6:Nat):Int)+1)=d+7:=by omega
 have Hb:Int.toNat (((d+10:Nat):Int)+0)=d+10:=by omega
 have Ir:Int.toNat (((d+10:Nat):Int)+1)=d+11:=by omega
 simp only[Nat.add_zero,Int.add_zero]at e0 f0 g2 g6 Bp m2 m6 Hb
 unfold entT xfT en1T xdx
 simp only[kw_true,xdw,Nat.beq_refl,Bool.true_and,Bool.and_true,cond_true,Int.add_zero,e0,e1,e4,e5,e8,e9,Dk,f0,f1,f4,f5,f8,f9,Lq,g2,g3,g6,g7,Bp,B3,m2,m3,m6,m7,Hb,Ir]
end Go.Proofs.YtfagfflkgmcnpaaGreatDoor.Lx
namespace Go.Proofs.YtfagfflkgmcnpaaGreatDoor.Lx
open Go
def Ent.row(e:Ent):List Int :=[e.th,e.op,e.sz,e.n,e.al,e.at_,e.off,e.by_,e.rf,e.st]
def rowsOf(L:List Int):Nat->Nat->xq
 | _,0 =>[]
 | d,k+1=>(xfZ L d).row::rowsOf L (d+12) k
theorem yK{σ β:Type}(N:Nat)(B:σ->(σ->T β)->T β)(i:σ):vo (N+1) B i=B i (vo N B):=rfl
theorem Ku(L:List Int) : ∀ (k d:Nat),(rowsOf L d k).length=k
 | 0,_=>rfl
 | k+1,d=>by simp only[rowsOf,List.length_cons,Ku L k (d+12)]
theorem xjf{β:Type}{o x q d a n c cnt:Nat}{L:List Int}{y rows:xq}{κ0:Nat->xq->T β}{k:Nat×Nat×Nat×Nat×Nat×xq->T β}(hn:n<12):qx o x q L y κ0 (d,a,n,c,cnt,rows) k=κ0 cnt rows:=by
 unfold qx
 have:decide ((n:Int)>=12)=false:=by simp;omega
 simp only[this,cond_false]
theorem xjg{β:Type}{o x q d a n c cnt:Nat}{L:List Int}{y rows:xq}{κ0:Nat->xq->T β}{k:Nat×Nat×Nat×Nat×Nat×xq->T β}(hq:q=o)(hb:Bys L)(hn:12<=n)(hc:n<=c)(hl:d+n<=L.length)(hr:rows.length=cnt)(hm:cnt<=1000) :
  qx o x q L y κ0 (d,a,n,c,cnt,rows) k=k (d+12,if c=12 then a else a+12,n-12,c-12,cnt+1,rows ++ [(xfZ L d).row]):=by
 unfold qx
 have h1:decide ((n:Int)>=12)=true:=by simp;omega
 have h2:decide ((0:Int)<=12/\(12:Int)<=(c:Int))=true:=by simp;omega
 have h3:decide ((0:Int)<=12/\(12:Int)<=(n:Int))=true:=by simp;omega
 have h4:Nat.ble 1 n=true:=by rw[Nat.ble_eq];omega
 have h5:(Nat.beq rows.length cnt&&Nat.ble cnt 1000)=true:=by rw[hr,Nat.beq_refl,Bool.true_and,Nat.ble_eq];omega
 have h6:decide (0<=12/\12<=12)=true:=rfl
 simp only[h1,h2,h3,h4,h5,h6,Bool.and_true,Bool.true_and,cond_true,Nat.add_zero,entT_eq hq (show d+12<=L.length by omega) hb,vn]
 rfl
theorem xdA{β:Type}{o x q:Nat}{L:List Int}{y:xq}{κ0:Nat->xq->T β}(hq:q=o)(hb:Bys L) : ∀ (k N d a n c cnt:Nat) (rows:xq),n / 12=k->k<N->n<=c->d+n<=L.length->rows.length=cnt->cnt+k<=1000->
  vo N (qx o x q L y κ0) (d,a,n,c,cnt,rows)=κ0 (cnt+k) (rows++rowsOf L d k)
 | 0,N+1,d,a,n,c,cnt,rows,hk,hN,hc,hl,hr,hm=>by
  rw[yK,xjf (by omega),rowsOf,List.append_nil,Nat.add_zero]
 | k+1,N+1,d,a,n,c,cnt,rows,hk,hN,hc,hl,hr,hm=>by
  rw[yK,xjg hq hb (by omega) hc hl hr (by omega),xdA hq hb k N (d+12) _ (n-12) (c-12) (cnt+1) _ (by omega) (by omega) (by omega) (by omega) (by simp[hr]) (by omega)]
  simp only[rowsOf,List.append_assoc,List.singleton_append,Nat.add_assoc,Nat.add_comm 1 k]
theorem decT_eq{o a n c q:Nat}{L:List Int}(hq:q=o)(hb:Bys L)(hn:L.length=n)(hc:n<=c)(h6:n<=600):decT o 0 a n c q L = .ret (n / 12,rowsOf L 0 (n / 12)):=by
 unfold decT xfU qy
 rw[xdA hq hb (n / 12) xG 0 a n c 0 [] rfl (by unfold xG;omega) hc (by omega) rfl (by omega)]
 simp
/-! ### the document's -/
theorem Yl{β:Type}{n0 n1 n2 n3 n4 n5 n6 p n9:Nat}{L:List Int}{r1 r2:xq}{a13 a14 a15 a16 a18 a19 a20 a21 a22 v:Int}{κ0:Int->T β}{k:Int×Int->T β}(hq:n9=n0)(hb:Bys L)(hp:p+12<=n3)(hl:n1+n3<=L.length)(hs:n3<=600){b j:Nat}(gu:getI L (n1+p+5)=(b:Int))(me:b<62)(hj:j<=b) :
  Yi n0 n1 n2 n3 n4 n5 n6 (p:Int) n9 L r1 r2 a13 a14 a15 a16 a18 a19 a20 a21 a22 κ0 ((j:Int),v) k=bif decide (j<b)then k (((j+1:Nat):Int),IntKind.wrap .i64 (2*v))else κ0 v:=by
 unfold Yi
 have w5:IntKind.wrap .i64 ((p:Int)+5)=(p:Int)+5:=w64 (by omega) (by omega)
 have t5:Int.toNat ((n1:Int)+((p:Int)+5))=n1+p+5:=by omega
 have h5:decide ((0:Int)<=(p:Int)+5/\(p:Int)+5<(n3:Int))=true:=by simp;omega
 have r5:inR L.length ((n1:Int)+((p:Int)+5))=true:=vt (by omega) (by omega)
 have e:decide ((j:Int)<(b:Int))=decide (j<b):=by simp
 have e1:IntKind.wrap .i64 ((j:Int)+1)=((j+1:Nat):Int):=by rw[w64 (by omega) (by omega)];rfl
 simp only[w5,t5,h5,r5,hq,Nat.beq_refl,Bool.true_and,cond_true,gu,w64 (x:=(b:Int)) (by omega) (by omega),e,e1]
theorem xf0{β:Type}{n0 n1 n2 n3 n4 n5 n6 p n9:Nat}{L:List Int}{r1 r2:xq}{a13 a14 a15 a16 a18 a19 a20 a21 a22:Int}{κ0:Int->T β}(hq:n9=n0)(hb:Bys L)(hp:p+12<=n3)(hl:n1+n3<=L.length)(hs:n3<=600){b:Nat}(gu:getI L (n1+p+5)=(b:Int))(me:b<62) : ∀ (k N j:Nat),b-j=k->j<=b->k<N->
  vo N (Yi n0 n1 n2 n3 n4 n5 n6 (p:Int) n9 L r1 r2 a13 a14 a15 a16 a18 a19 a20 a21 a22 κ0) ((j:Int),2 ^ j)=κ0 (2 ^ b)
 | 0,N+1,j,hk,hj,hN=>by
  obtain rfl:j=b:=by omega
  rw[yK,Yl hq hb hp hl hs gu me hj]
  simp
 | k+1,N+1,j,hk,hj,hN=>by
  rw[yK,Yl hq hb hp hl hs gu me hj]
  have:decide (j<b)=true:=by simp;omega
  have Aw:(2:Int) ^ (j+1)<=2 ^ 62:=by
   have:(2:Nat) ^ (j+1)<=2 ^ 62:=Nat.pow_le_pow_right (by omega) (by omega)
   exact_mod_cast this
  have Jt:(0:Int)<2 ^ (j+1):=Int.pow_pos (by omega)
  have e2:IntKind.wrap .i64 (2*(2:Int) ^ j)=2 ^ (j+1):=by
   have:2*(2:Int) ^ j=2 ^ (j+1):=by rw[Int.pow_succ,Int.mul_comm]
   rw[this]
   exact w64 (by omega) (by omega)
  rw[this,cond_true,e2]
  exact xf0 hq hb hp hl hs gu me k N (j+1) (by omega) (by omega) (by omega)
theorem xjh{β:Type}{n0 n1 n2 n3 n4 n5 n6 p:Nat}{L:List Int}{r1 r2:xq}{a13 a14 a15 a16 a18 a19 a20 a21 a22:Int}{κ0:Int->T β}(hb:Bys L)(hp:p+12<=n3)(hl:n1+n3<=L.length)(hs:n3<=600)(me:getI L (n1+p+5)<62) :
  qz n0 n1 n2 n3 n4 n5 n6 (p:Int) n0 L r1 r2 a13 a14 a15 a16 a18 a19 a20 a21 a22 0 1 κ0=κ0 (2 ^ (getI L (n1+p+5)).toNat):=by
 have gu:getI L (n1+p+5)=((getI L (n1+p+5)).toNat:Int):=by have:=(hb.at (n1+p+5)).1;omega
 exact xf0 rfl hb hp hl hs gu (by omega) (getI L (n1+p+5)).toNat xG 0 (by omega) (by omega) (by unfold xG;omega)
theorem xu{γ:Type}{c:Bool}{x y z:γ}(hc:c=true)(h:x=z):(bif c then x else y)=z:=by rw[hc];exact h
theorem T_br{γ:Type}{c:Bool}{x y z:γ}(h1:c=true->x=z)(h2:c=false->y=z):(bif c then x else y)=z:=by
 cases hc:c with
 | true=>exact h1 hc
 | false=>exact h2 hc
section
variable{d n p:Nat}{L:List Int}
theorem wp(hs:n<=600)(hp:p+12<=n)(m:Nat)(hm:m<=12):IntKind.wrap .i64 ((p:Int)+(m:Int))=(p:Int)+(m:Int):=w64 (by omega) (by omega)
theorem okA(hs:n<=600)(hp:p+12<=n)(m:Nat)(hm:m<12):decide ((0:Int)<=IntKind.wrap .i64 ((p:Int)+(m:Int))/\IntKind.wrap .i64 ((p:Int)+(m:Int))<(n:Int))=true:=by
 rw[wp hs hp m (by omega)];simp;omega
theorem okB(o:Nat)(hs:n<=600)(hp:p+12<=n)(hl:d+n<=L.length)(m:Nat)(hm:m<12):(Nat.beq o o&&inR (List.length L) ((d:Int)+IntKind.wrap .i64 ((p:Int)+(m:Int))))=true:=by
 rw[wp hs hp m (by omega),Nat.beq_refl,Bool.true_and];exact vt (by omega) (by omega)
theorem okG(hs:n<=600)(hp:p+12<=n)(m:Nat)(hm:m<12):getI L (Int.toNat ((d:Int)+IntKind.wrap .i64 ((p:Int)+(m:Int))))=getI L (d+p+m):=by
 rw[wp hs hp m (by omega)];congr 1;omega
end
theorem Ym{x y:Int}(hx:By x)(hy:By y):IntKind.wrap .i64 (IntKind.wrap .i64 x+IntKind.wrap .i64 (256*IntKind.wrap .i64 y))=x+256*y:=by
 rw[hx.w,hy.w,w64 (x:=256*y) (by omega) (by omega),w64 (by omega) (by omega)]
theorem xji{x y:Int}(hx:By x)(hy:By y):IntKind.wrap .i64 (Int.tdiv (x+256*y) 2)=(x+256*y) / 2:=by
 rw[dW (by omega),w64 (by omega) (by omega)]
theorem xf1{x y:Int}(hx:By x)(hy:By y):(Int.tmod (x+256*y) 2==1)=decide (x%2=1):=by
 rw[dV (by omega)]
 by_cases h:x%2=1
 .have:(x+256*y)%2=1:=by omega
  simp[h,this]
 .have:(x+256*y)%2=0:=by omega
  simp[h,this]
theorem xdB{x0 x1 x2 x3 x4 x5 x6 x7 x8 x9 x10 x11 v5 v8:Int}(b0:By x0)(b2:By x2)(b3:By x3)(b4:By x4)(b6:By x6)(b7:By x7)(b10:By x10)(b11:By x11)(h5:v5=alZ x5)(h8:v8=if x8>127 then x8-256 else x8)(c:Bool)(hc:c=decide (x10%2=1)) :
  [IntKind.wrap .i64 x0,x1,IntKind.wrap .i64 (IntKind.wrap .i64 x2+IntKind.wrap .i64 (256*IntKind.wrap .i64 x3)),IntKind.wrap .i64 x4,v5,(bif c then 0 else IntKind.wrap .i64 (IntKind.wrap .i64 x6+IntKind.wrap .i64 (256*IntKind.wrap .i64 x7))),v8,x9,(bif c then IntKind.wrap .i64 (IntKind.wrap .i64 x6+IntKind.wrap .i64 (256*IntKind.wrap .i64 x7))else -1),IntKind.wrap .i64 (Int.tdiv (IntKind.wrap .i64 (IntKind.wrap .i64 x10+IntKind.wrap .i64 (256*IntKind.wrap .i64 x11))) 2)]=(ent12 x0 x1 x2 x3 x4 x5 x6 x7 x8 x9 x10 x11).row:=by
 unfold ent12 Ent.row
 rw[Ym b2 b3,Ym b6 b7,Ym b10 b11,xji b10 b11,b0.w,b4.w,h5,h8,hc]
 by_cases h:x10%2=1<;>simp[h]
theorem jE{β:Type}{k:Nat×Int×xq->T β}{c:Nat}{i i':Int}{rows:xq}{r r':List Int}(hi:i=i')(hr:r=r'):k (c,i,rows ++ [r])=k (c,i',rows ++ [r']):=by rw[hi,hr]
set_option maxHeartbeats 4000000 in
theorem xjj{β:Type}{o d x n y z cnt p:Nat}{L:List Int}{w rows:xq}{κ0:Nat->xq->T β}{k:Nat×Int×xq->T β}(hb:Bys L)(hp:p+12<=n)(hl:d+n<=L.length)(hs:n<=600)(hr:rows.length=cnt)(hm:cnt<=1000) :
  qA o d x n y z o L w κ0 (cnt,(p:Int),rows) k=k (cnt+1,((p+12:Nat):Int),rows ++ [(xfZ L (d+p)).row]):=by
 have zx:(Nat.beq rows.length cnt&&Nat.ble cnt 1000)=true:=by rw[hr,Nat.beq_refl,Bool.true_and,Nat.ble_eq];exact hm
 have ut:IntKind.wrap .i64 ((p:Int)+12)=((p+12:Nat):Int):=wp hs hp 12 (by omega)
 have Gq:decide (IntKind.wrap .i64 ((p:Int)+12)<=(n:Int))=true:=by rw[ut];simp;omega
 have h0:decide ((0:Int)<=(p:Int)/\(p:Int)<(n:Int))=true:=by simp;omega
 have r0:(Nat.beq o o&&inR L.length ((d:Int)+(p:Int)))=true:=by rw[Nat.beq_refl,Bool.true_and];exact vt (by omega) (by omega)
 have A:=okA (n:=n) hs hp
 have B:=okB (d:=d) (L:=L) o hs hp hl
 have a1:=A 1 (by omega)
 have b1:=B 1 (by omega)
 have a2:=A 2 (by omega)
 have b2:=B 2 (by omega)
 have a3:=A 3 (by omega)
 have b3:=B 3 (by omega)
 have a4:=A 4 (by omega)
 have b4:=B 4 (by omega)
 have a5:=A 5 (by omega)
 have b5:=B 5 (by omega)
 have a6:=A 6 (by omega)
 have b6:=B 6 (by omega)
 have a7:=A 7 (by omega)
 have b7:=B 7 (by omega)
 have a8:=A 8 (by omega)
 have b8:=B 8 (by omega)
 have a9:=A 9 (by omega)
 have b9:=B 9 (by omega)
 have a10:=A 10 (by omega)
 have b10:=B 10 (by omega)
 have a11:=A 11 (by omega)
 have b11:=B 11 (by omega)
 clear A B
 have g0:getI L (Int.toNat ((d:Int)+(p:Int)))=getI L (d+p):=by congr 1
 have g1:getI L (Int.toNat ((d:Int)+IntKind.wrap .i64 ((p:Int)+1)))=getI L (d+p+1):=okG hs hp 1 (by omega)
 have g2:getI L (Int.toNat ((d:Int)+IntKind.wrap .i64 ((p:Int)+2)))=getI L (d+p+2):=okG hs hp 2 (by omega)
 have g3:getI L (Int.toNat ((d:Int)+IntKind.wrap .i64 ((p:Int)+3)))=getI L (d+p+3):=okG hs hp 3 (by omega)
 have g4:getI L (Int.toNat ((d:Int)+IntKind.wrap .i64 ((p:Int)+4)))=getI L (d+p+4):=okG hs hp 4 (by omega)
 have g5:getI L (Int.toNat ((d:Int)+IntKind.wrap .i64 ((p:Int)+5)))=getI L (d+p+5):=okG hs hp 5 (by omega)
 have g6:getI L (Int.toNat ((d:Int)+IntKind.wrap .i64 ((p:Int)+6)))=getI L (d+p+6):=okG hs hp 6 (by omega)
 have g7:getI L (Int.toNat ((d:Int)+IntKind.wrap .i64 ((p:Int)+7)))=getI L (d+p+7):=okG hs hp 7 (by omega)
 have g8:getI L (Int.toNat ((d:Int)+IntKind.wrap .i64 ((p:Int)+8)))=getI L (d+p+8):=okG hs hp 8 (by omega)
 have g9:getI L (Int.toNat ((d:Int)+IntKind.wrap .i64 ((p:Int)+9)))=getI L (d+p+9):=okG hs hp 9 (by omega)
 have Bp:getI L (Int.toNat ((d:Int)+IntKind.wrap .i64 ((p:Int)+10)))=getI L (d+p+10):=okG hs hp 10 (by omega)
 have B3:getI L (Int.toNat ((d:Int)+IntKind.wrap .i64 ((p:Int)+11)))=getI L (d+p+11):=okG hs hp 11 (by omega)
 unfold qA
 refine xu Gq (xu h0 (xu r0 (xu a1 (xu b1 (xu a2 (xu b2 (xu a3 (xu b3 (xu a4 (xu b4 (xu a5 (xu b5 (xu a5 (xu b5 (T_br (fun me =>?_) fun me =>?_)))))))))))))))
 .replace me:getI L (d+p+5)<62:=by simp only[g5]at me;simpa using me
  refine Eq.trans (xjh hb hp hl hs me) ?_
  unfold Yk
  refine(xu a6 (xu b6 (xu a7 (xu b7 (xu a8 (xu b8 (xu a8 (xu b8 (T_br (fun h8=>(xu a8 (xu b8 (xu a9 (xu b9 (xu a10 (xu b10 (xu a11 (xu b11 (T_br (fun h1=>xu zx (jE ut ?_)) (fun h1=>xu zx (jE ut ?_)))))))))))) (fun h8=>(xu a9 (xu b9 (xu a10 (xu b10 (xu a11 (xu b11 (T_br (fun h1=>xu zx (jE ut ?_)) (fun h1=>xu zx (jE ut ?_)))))))))))))))))))
  all_goals
   simp only[g0,g1,g2,g3,g4,g5,g6,g7,g8,g9,Bp,B3,Ym (hb.at (d+p+10)) (hb.at (d+p+11)),xf1 (hb.at (d+p+10)) (hb.at (d+p+11))]at h8 h1
   simp only[g0,g1,g2,g3,g4,g5,g6,g7,g8,g9,Bp,B3]
   have b5:=hb.at (d+p+5)
   have b8:=hb.at (d+p+8)
   refine xdB (x1:=getI L (d+p+1)) (x5:=getI L (d+p+5)) (x8:=getI L (d+p+8)) (x9:=getI L (d+p+9)) (hb.at (d+p)) (hb.at (d+p+2)) (hb.at (d+p+3)) (hb.at (d+p+4)) (hb.at (d+p+6)) (hb.at (d+p+7)) (hb.at (d+p+10)) (hb.at (d+p+11)) ?_ ?_ _ h1.symm
   .unfold alZ
    rw[dB me]
   .first
     | rw[dB (by simpa using h8),b8.w,w64 (by omega) (by omega)]
     | rw[dA (by simpa using h8),b8.w]
 .replace me : ¬getI L (d+p+5)<62:=by simp only[g5]at me;simpa using me
  unfold Yk
  refine(xu a6 (xu b6 (xu a7 (xu b7 (xu a8 (xu b8 (xu a8 (xu b8 (T_br (fun h8=>(xu a8 (xu b8 (xu a9 (xu b9 (xu a10 (xu b10 (xu a11 (xu b11 (T_br (fun h1=>xu zx (jE ut ?_)) (fun h1=>xu zx (jE ut ?_)))))))))))) (fun h8=>(xu a9 (xu b9 (xu a10 (xu b10 (xu a11 (xu b11 (T_br (fun h1=>xu zx (jE ut ?_)) (fun h1=>xu zx (jE ut ?_)))))))))))))))))))
  all_goals
   simp only[g0,g1,g2,g3,g4,g5,g6,g7,g8,g9,Bp,B3,Ym (hb.at (d+p+10)) (hb.at (d+p+11)),xf1 (hb.at (d+p+10)) (hb.at (d+p+11))]at h8 h1
   simp only[g0,g1,g2,g3,g4,g5,g6,g7,g8,g9,Bp,B3]
   have b5:=hb.at (d+p+5)
   have b8:=hb.at (d+p+8)
   refine xdB (x1:=getI L (d+p+1)) (x5:=getI L (d+p+5)) (x8:=getI L (d+p+8)) (x9:=getI L (d+p+9)) (hb.at (d+p)) (hb.at (d+p+2)) (hb.at (d+p+3)) (hb.at (d+p+4)) (hb.at (d+p+6)) (hb.at (d+p+7)) (hb.at (d+p+10)) (hb.at (d+p+11)) ?_ ?_ _ h1.symm
   .unfold alZ
    rw[dA me,b5.w,w64 (by omega) (by omega)]
   .first
     | rw[dB (by simpa using h8),b8.w,w64 (by omega) (by omega)]
     | rw[dA (by simpa using h8),b8.w]
theorem xjk{β:Type}{o d x n y z q cnt p:Nat}{L:List Int}{w rows:xq}{κ0:Nat->xq->T β}{k:Nat×Int×xq->T β}(hs:n<=600)(hp:n<p+12)(hpn:p<=n):qA o d x n y z q L w κ0 (cnt,(p:Int),rows) k=κ0 cnt rows:=by
 unfold qA
 have:decide (IntKind.wrap .i64 ((p:Int)+12)<=(n:Int))=false:=by rw[w64 (by omega) (by omega)];simp;omega
 simp only[this,cond_false]
theorem xdC{β:Type}{o d x n y z:Nat}{L:List Int}{w:xq}{κ0:Nat->xq->T β}(hb:Bys L)(hl:d+n<=L.length)(hs:n<=600) : ∀ (k N p cnt:Nat) (rows:xq),(n-p) / 12=k->p<=n->k<N->rows.length=cnt->cnt+k<=1000->
  vo N (qA o d x n y z o L w κ0) (cnt,(p:Int),rows)=κ0 (cnt+k) (rows++rowsOf L (d+p) k)
 | 0,N+1,p,cnt,rows,hk,hp,hN,hr,hm=>by
  rw[yK,xjk hs (by omega) hp,rowsOf,List.append_nil,Nat.add_zero]
 | k+1,N+1,p,cnt,rows,hk,hp,hN,hr,hm=>by
  rw[yK,xjj hb (by omega) hl hs hr (by omega),xdC hb hl hs k N (p+12) (cnt+1) _ (by omega) (by omega) (by omega) (by simp[hr]) (by omega)]
  simp only[rowsOf,List.append_assoc,List.singleton_append,Nat.add_assoc,Nat.add_comm 1 k]
theorem recT_eq{o a n c:Nat}{L:List Int}(hb:Bys L)(hn:L.length=n)(h6:n<=600):recT o 0 a n c o L = .ret (n / 12,rowsOf L 0 (n / 12)):=by
 unfold recT xfV qB
 have:=xdC (β:=Nat×xq) (o:=o) (d:=0) (x:=a) (n:=n) (y:=c) (z:=0) (w :=[]) (κ0:=fun oe s5 =>.ret (oe,s5)) hb (by omega) h6 (n / 12) xG 0 0 [] rfl (by omega) (by unfold xG;omega) rfl (by omega)
 refine Eq.trans this ?_
 simp
end Go.Proofs.YtfagfflkgmcnpaaGreatDoor.Lx
namespace Go.Proofs.YtfagfflkgmcnpaaGreatDoor.Lx
open Go
def alP(al:Int):Prop:=(∃k:Nat,k<62/\al=2 ^ k)\/(186<=al/\al<=765/\al%3=0)
structure okP(e:Ent):Prop where
 al:alP e.al
 th:0<=e.th/\e.th<=255
 n:0<=e.n/\e.n<=255
 off : -128<=e.off/\e.off<=127
 sz:0<=e.sz/\e.sz<=65535
 st:0<=e.st/\e.st<=32767
 at_:(e.rf = -1/\0<=e.at_/\e.at_<=65535)\/(e.rf ≠ -1/\0<=e.rf/\e.rf<=65535/\e.at_=0)
structure GoodB(b:B12)(e:Ent):Prop where
 b0:By b.x0
 b2:By b.x2
 b3:By b.x3
 b4:By b.x4
 b5:By b.x5
 b6:By b.x6
 b7:By b.x7
 b8:By b.x8
 b10:By b.x10
 b11:By b.x11
 says:ent12 b.x0 b.x1 b.x2 b.x3 b.x4 b.x5 b.x6 b.x7 b.x8 b.x9 b.x10 b.x11=e
def wW(t:T B12)(e:Ent):Prop :=∃b,t = .ret b/\(okP e->GoodB b e)/\(¬okP e->b=f12)
section
variable{e:Ent}{x y:T B12}
theorem xf2{P:Prop}[Decidable P](h1:P->wW x e)(h2 : ¬P->wW y e):wW (bif decide P then x else y) e:=by
 by_cases h:P
 .rw[dF h];exact h1 h
 .rw[dD h];exact h2 h
theorem xf3{a b:Int}(h1:a=b->wW x e)(h2:a≠b->wW y e):wW (bif a==b then x else y) e:=by
 by_cases h:a=b
 .rw[beq_iff_eq.2 h];exact h1 h
 .rw[dQ.2 h];exact h2 h
theorem Wu{a b:Int}(h1:a≠b->wW x e)(h2:a=b->wW y e):wW (bif a != b then x else y) e:=by
 by_cases h:a=b
 .rw[show(a != b)=false by simp[h]];exact h2 h
 .rw[show(a != b)=true by simp[h]];exact h1 h
theorem qI{c:Bool}(hc:c=true)(h:wW x e):wW (bif c then x else y) e:=by rw[hc];exact h
theorem E_no{c:Bool}(hc:c=false)(h:wW y e):wW (bif c then x else y) e:=by rw[hc];exact h
theorem E_gd{c:Bool}{f:Unit->T B12}(hc:c=true)(h:wW (f ()) e):wW ((gdT c).bind f) e:=by rw[hc];exact h
theorem E_ff(h : ¬okP e):wW (.ret f12) e:=⟨_,rfl,fun ok=>absurd ok h,fun _=>rfl⟩
end
theorem WP(P:Nat->Bool)(h:(List.range 63).all P=true){k:Nat}(hk:k<63):P k=true:=List.all_eq_true.1 h k (List.mem_range.2 hk)
theorem pw_bits{k:Nat}(hk:k<63):(bits .and .i64 (2 ^ k) (IntKind.wrap .i64 (2 ^ k-1))==0)=true:=WP (fun k=>bits .and .i64 (2 ^ k) (IntKind.wrap .i64 (2 ^ k-1))==0) (by decide +kernel) hk
theorem pw_is{k:Nat}(hk:k<63):pwZ (IntKind.wrap .u64 (2 ^ k))=true:=WP (fun k=>pwZ (IntKind.wrap .u64 (2 ^ k))) (by decide +kernel) hk
theorem pw_lg{k:Nat}(hk:k<63):lgZ (IntKind.wrap .u64 (2 ^ k))=(k:Int):=by
 have:=WP (fun k=>lgZ (IntKind.wrap .u64 (2 ^ k))==(k:Int)) (by decide +kernel) hk
 simpa using this
theorem pw_of{al:Int}(h0:0<al)(h1:al<9223372036854775808)(h:bits .and .i64 al (IntKind.wrap .i64 (al-1))=0) : ∃k:Nat,k<63/\al=2 ^ k:=by
 obtain⟨a,rfl⟩:=Int.eq_ofNat_of_zero_le (Int.le_of_lt h0)
 rw[w64 (by omega) (by omega),show((a:Int)-1)=((a-1:Nat):Int)by omega,xdy a (a-1) (by omega) (by omega)]at h
 have h2:a &&& a-1=0:=by exact_mod_cast h
 obtain⟨k,rfl⟩:=(Nat.and_sub_one_eq_zero_iff_isPowerOfTwo (by omega)).1 h2
 refine⟨k,?_,by push_cast;rfl⟩
 have:2 ^ k<2 ^ 63:=by omega
 exact(Nat.pow_lt_pow_iff_right (by omega)).1 this
theorem xjl{s r:Int}(h0:0<=s)(h1:s<=32767)(hr:r=0\/r=1):bits .or .i64 (IntKind.wrap .i64 (s*2)) r=2*s+r:=by
 rw[w64 (by omega) (by omega)]
 obtain⟨a,rfl⟩:=Int.eq_ofNat_of_zero_le h0
 obtain⟨b,rfl⟩:=Int.eq_ofNat_of_zero_le (show 0<=r by omega)
 rw[show((a:Int)*2)=((2 ^ 1*a:Nat):Int)by omega,Ks _ b (by omega) (by omega),<- Nat.two_pow_add_eq_or_of_lt (show b<2 ^ 1 by omega)]
 omega
theorem wu8(x:Int):IntKind.wrap .u8 x=x%256:=IntKind.wrap_u8 x
theorem byM(x:Int):By (x%256):=⟨by omega,by omega⟩
theorem xjm{e:Ent}{v a r:Int}(ok:okP e)(hv:0<=v/\v<=255)(ha:0<=a/\a<=65535)(fy:alZ v=e.al)(hr:(r=1/\e.rf=a/\e.at_=0)\/(r=0/\e.rf = -1/\e.at_=a)):GoodB (encZ e v a r) e:=by
 obtain⟨_,th,n,off,sz,st,_⟩:=ok
 have ct:r=0\/r=1:=by omega
 unfold encZ
 rw[xjl st.1 st.2 ct,Int.fdiv_eq_ediv_of_nonneg _ (by omega),Int.fdiv_eq_ediv_of_nonneg _ (by omega),Int.fdiv_eq_ediv_of_nonneg _ (by omega)]
 simp only[wu8]
 refine⟨byM _,byM _,byM _,byM _,byM _,byM _,byM _,byM _,byM _,byM _,?_⟩
 obtain⟨eth,eop,esz,en,eal,eat,eoff,eby,erf,est⟩:=e
 simp only at *
 unfold ent12
 have dt:v%256=v:=by omega
 rw[dt,fy]
 have p1:(2*est+r)%256%2=r:=by omega
 congr 1
 .omega
 .omega
 .omega
 .rw[p1];rcases hr with⟨rfl,_,h⟩|⟨rfl,_,h⟩
  .simp;omega
  .simp;omega
 .split<;>omega
 .rw[p1];rcases hr with⟨rfl,h,_⟩|⟨rfl,h,_⟩
  .simp;omega
  .simp;omega
 .omega
theorem E_ok{e:Ent}{v a r:Int}(ok:okP e)(hv:0<=v/\v<=255)(ha:0<=a/\a<=65535)(fy:alZ v=e.al)(hr:(r=1/\e.rf=a/\e.at_=0)\/(r=0/\e.rf = -1/\e.at_=a)):wW (.ret (encZ e v a r)) e:=
 ⟨_,rfl,fun _=>xjm ok hv ha fy hr,fun h=>absurd ok h⟩
end Go.Proofs.YtfagfflkgmcnpaaGreatDoor.Lx
namespace Go.Proofs.YtfagfflkgmcnpaaGreatDoor.Lx
open Go
structure I64(x:Int):Prop where
 lo : -9223372036854775808<=x
 hi:x<=9223372036854775807
theorem pow3{k:Nat}(hk:k<63):(2:Int) ^ k%3≠0:=by
 have:=WP (fun k=>(2:Int) ^ k%3 != 0) (by decide +kernel) hk
 simpa using this
structure No2(al:Int):Prop where
 ok:alP al->186<=al/\al<=765/\al%3=0
theorem al3{al:Int}(h:I64 al):3*Int.tdiv al 3+Int.tmod al 3=al/\(0<=al->Int.tmod al 3=al%3)/\IntKind.wrap .i64 (Int.tdiv al 3)=Int.tdiv al 3:=by
 have h1:3*Int.tdiv al 3+Int.tmod al 3=al:=Int.mul_tdiv_add_tmod al 3
 have h2:Int.tmod al 3<3/\ -3<Int.tmod al 3:=by
  have:=Int.tmod_lt_of_pos al (show(0:Int)<3 by omega)
  have:=Int.lt_tmod_of_pos al (show(0:Int)<3 by omega)
  omega
 exact⟨h1,fun h0=>dV h0,w64 (by have:=h.lo;omega) (by have:=h.hi;omega)⟩
theorem enc_ok{e:Ent}(fy:I64 e.al)(uj:I64 e.off):wW (encT e) e:=by
 unfold encT xfW ec2 ec3 ecR ecA ecT
 have hw:IntKind.wrap .i64 (e.off+128)=(e.off+128+9223372036854775808)%18446744073709551616-9223372036854775808:=IntKind.wrap_i64 _
 obtain⟨ol,oh⟩:=uj
 have a3:=al3 fy
 obtain⟨al0,al1⟩:=fy
 by_cases hp:0<e.al
 .by_cases hb:bits .and .i64 e.al (IntKind.wrap .i64 (e.al-1))=0
  .obtain⟨k,hk,pe⟩:=pw_of hp (by omega) hb
   have t1:decide (e.al>0)=true:=by simpa using hp
   have t2:(bits BinOp.and i64 e.al (i64.wrap (e.al-1))==0)=true:=by simp[hb]
   have t3:pwZ (IntKind.wrap .u64 e.al)=true:=by rw[pe];exact pw_is hk
   have tl:lgZ (IntKind.wrap .u64 e.al)=(k:Int):=by rw[pe];exact pw_lg hk
   by_cases me:k<62
   .have t4:decide (lgZ (IntKind.wrap .u64 e.al)<62)=true:=by rw[tl];simp;omega
    have t5:alZ (lgZ (IntKind.wrap .u64 e.al))=e.al:=by rw[tl,alZ,dB (by omega),pe];simp
    have t6:0<=lgZ (IntKind.wrap .u64 e.al)/\lgZ (IntKind.wrap .u64 e.al)<=255:=by rw[tl];omega
    have hA:alP e.al :=.inl ⟨k,me,pe⟩
    refine Wu (fun u7=>qI t1 (qI t2 (E_gd t3 (qI t4 (E_gd t3 ?_))))) (fun u7=>qI t1 (qI t2 (E_gd t3 (qI t4 (E_gd t3 ?_)))))
    all_goals repeat' first|refine xf2 (fun _ =>?_) (fun _ =>?_)|refine Wu (fun _ =>?_) (fun _ =>?_)|refine xf3 (fun _ =>?_) (fun _ =>?_)
    all_goals first
     | exact E_ff fun⟨qa,q1,q2,q3,q4,q5,q6⟩=>by omega
     | exact E_ok ⟨hA,by omega,by omega,by omega,by omega,by omega,by omega⟩ t6 (by omega) t5 (by omega)
   .have t4:decide (lgZ (IntKind.wrap .u64 e.al)<62)=false:=by rw[tl];simp;omega
    have h3:e.al%3≠0:=by rw[pe];exact pow3 hk
    have hN:No2 e.al:=⟨fun h=>by
     rcases h with⟨j,hj,h⟩|h
     .rw[pe]at h
      have h:(2:Nat) ^ k=2 ^ j:=by exact_mod_cast h
      have:=Nat.pow_lt_pow_right (a:=2) (by omega) (show j<k by omega)
      omega
     .exact h⟩
    refine Wu (fun u7=>qI t1 (qI t2 (E_gd t3 (E_no t4 ?_)))) (fun u7=>qI t1 (qI t2 (E_gd t3 (E_no t4 ?_))))
    all_goals repeat' first|refine xf2 (fun _ =>?_) (fun _ =>?_)|refine Wu (fun _ =>?_) (fun _ =>?_)|refine xf3 (fun _ =>?_) (fun _ =>?_)
    all_goals first
     | exact E_ff fun⟨qa,q1,q2,q3,q4,q5,q6⟩=>by have:=hN.ok qa;omega
     | exact E_ok ⟨.inr (by omega),by omega,by omega,by omega,by omega,by omega,by omega⟩ (by omega) (by omega) (by rw[alZ,dA (by omega)];omega) (by omega)
  .have t1:decide (e.al>0)=true:=by simpa using hp
   have t2:(bits BinOp.and i64 e.al (i64.wrap (e.al-1))==0)=false:=by simp[hb]
   have hN:No2 e.al:=⟨fun h=>by
    rcases h with⟨j,hj,h⟩|h
    .have:=pw_bits (k:=j) (by omega)
     rw[<- h,t2]at this
     cases this
    .exact h⟩
   refine Wu (fun u7=>qI t1 (E_no t2 ?_)) (fun u7=>qI t1 (E_no t2 ?_))
   all_goals repeat' first|refine xf2 (fun _ =>?_) (fun _ =>?_)|refine Wu (fun _ =>?_) (fun _ =>?_)|refine xf3 (fun _ =>?_) (fun _ =>?_)
   all_goals first
    | exact E_ff fun⟨qa,q1,q2,q3,q4,q5,q6⟩=>by have:=hN.ok qa;omega
    | exact E_ok ⟨.inr (by omega),by omega,by omega,by omega,by omega,by omega,by omega⟩ (by omega) (by omega) (by rw[alZ,dA (by omega)];omega) (by omega)
 .have t1:decide (e.al>0)=false:=by simpa using hp
  have hN:No2 e.al:=⟨fun h=>by
   rcases h with⟨j,hj,h⟩|h
   .have:(0:Int)<2 ^ j:=Int.pow_pos (by omega)
    omega
   .exact h⟩
  refine Wu (fun u7=>E_no t1 ?_) (fun u7=>E_no t1 ?_)
  all_goals repeat' first|refine xf2 (fun _ =>?_) (fun _ =>?_)|refine Wu (fun _ =>?_) (fun _ =>?_)|refine xf3 (fun _ =>?_) (fun _ =>?_)
  all_goals first
   | exact E_ff fun⟨qa,q1,q2,q3,q4,q5,q6⟩=>by have:=hN.ok qa;omega
   | exact E_ok ⟨.inr (by omega),by omega,by omega,by omega,by omega,by omega,by omega⟩ (by omega) (by omega) (by rw[alZ,dA (by omega)];omega) (by omega)
/-! ### the document's -/
def wS(t:T Bool)(e:Ent):Prop :=∃b,t = .ret b/\(b=true↔okP e)
section
variable{e:Ent}{x y:T Bool}
theorem S_dec{P:Prop}[Decidable P](h1:P->wS x e)(h2 : ¬P->wS y e):wS (bif decide P then x else y) e:=by
 by_cases h:P
 .rw[dF h];exact h1 h
 .rw[dD h];exact h2 h
theorem S_beq{a b:Int}(h1:a=b->wS x e)(h2:a≠b->wS y e):wS (bif a==b then x else y) e:=by
 by_cases h:a=b
 .rw[beq_iff_eq.2 h];exact h1 h
 .rw[dQ.2 h];exact h2 h
theorem S_not{c:Bool}(h1:c=false->wS x e)(h2:c=true->wS y e):wS (bif !c then x else y) e:=by
 cases c with
 | false=>exact h1 rfl
 | true=>exact h2 rfl
theorem S_no(h : ¬okP e):wS (.ret false) e:=⟨_,rfl,⟨fun h'=>by(cases h'),fun ok=>absurd ok h⟩⟩
theorem S_ret{b:Bool}(h:b=true↔okP e):wS (.ret b) e:=⟨b,rfl,h⟩
end
def anyP(al:Int):Nat->Nat->Bool
 | _,0=>false
 | j,k+1=>(al==2 ^ j)||anyP al (j+1) k
theorem xdD{al:Int} : ∀ (k j:Nat),anyP al j k=true ↔ ∃i,j<=i/\i<j+k/\al=2 ^ i
 | 0,j=>by simp[anyP];omega
 | k+1,j=>by
  simp only[anyP,Bool.or_eq_true,beq_iff_eq,xdD k (j+1)]
  constructor
  .rintro (h|⟨i,h1,h2,h3⟩)
   .exact⟨j,by omega,by omega,h⟩
   .exact⟨i,by omega,by omega,h3⟩
  .rintro ⟨i,h1,h2,h3⟩
   by_cases gz:i=j
   .exact .inl (gz▸h3)
   .exact .inr ⟨i,by omega,by omega,h3⟩
theorem xf4{β:Type}{b0:Bool}{a4 a5 a6 a7 a8 a9 a10 a11 a12 a13 a14 a15 a16 a17 a18 a19 a20:Int}{κ0:Bool->T β} : ∀ (k N j:Nat) (b:Bool),62-j=k->j<=62->k<N->
  vo N (kS b0 a4 a5 a6 a7 a8 a9 a10 a11 a12 a13 a14 a15 a16 a17 a18 a19 a20 κ0) (b,2 ^ j,(j:Int))=κ0 (b||anyP a17 j k)
 | 0,N+1,j,b,hk,hj,hN=>by
  rw[yK]
  unfold kS
  have:decide ((j:Int)<62)=false:=by simp;omega
  simp only[this,cond_false,anyP,Bool.or_false]
 | k+1,N+1,j,b,hk,hj,hN=>by
  rw[yK]
  have e0:decide ((j:Int)<62)=true:=by simp;omega
  have e1:IntKind.wrap .i64 ((j:Int)+1)=((j+1:Nat):Int):=by rw[w64 (by omega) (by omega)];rfl
  have Aw:(2:Int) ^ (j+1)<=2 ^ 62:=by
   have:(2:Nat) ^ (j+1)<=2 ^ 62:=Nat.pow_le_pow_right (by omega) (by omega)
   exact_mod_cast this
  have Jt:(0:Int)<2 ^ (j+1):=Int.pow_pos (by omega)
  have e2:IntKind.wrap .i64 (2*(2:Int) ^ j)=2 ^ (j+1):=by
   have:2*(2:Int) ^ j=2 ^ (j+1):=by rw[Int.pow_succ,Int.mul_comm]
   rw[this]
   exact w64 (by omega) (by omega)
  have step:kS b0 a4 a5 a6 a7 a8 a9 a10 a11 a12 a13 a14 a15 a16 a17 a18 a19 a20 κ0 (b,2 ^ j,(j:Int)) (vo N (kS b0 a4 a5 a6 a7 a8 a9 a10 a11 a12 a13 a14 a15 a16 a17 a18 a19 a20 κ0))=vo N (kS b0 a4 a5 a6 a7 a8 a9 a10 a11 a12 a13 a14 a15 a16 a17 a18 a19 a20 κ0) (b||(a17==2 ^ j),2 ^ (j+1),((j+1:Nat):Int)):=by
   generalize vo N (kS b0 a4 a5 a6 a7 a8 a9 a10 a11 a12 a13 a14 a15 a16 a17 a18 a19 a20 κ0)=K
   unfold kS
   simp only[e0,e1,e2,cond_true]
   cases b<;>rfl
  rw[step,xf4 k N (j+1) _ (by omega) (by omega) (by omega),anyP,Bool.or_assoc]
theorem xjn{e:Ent}(y:Bool)(hy:y=true↔alP e.al):wS (jD false y e.th e.op e.sz e.n e.al e.at_ e.off e.by_ e.rf e.st e.op e.sz e.n e.al e.at_ e.off e.by_ (fun _ =>.ret false) (fun b =>.ret b)) e:=by
 unfold jD
 refine S_not (fun h=>S_no fun ok=>by rw[hy.2 ok.al]at h;cases h) (fun h =>?_)
 have hA:=hy.1 h
 repeat' first|refine S_dec (fun _ =>?_) (fun _ =>?_)|refine S_beq (fun _ =>?_) (fun _ =>?_)
 all_goals first
  | exact S_no fun⟨qa,q1,q2,q3,q4,q5,q6⟩=>by omega
  | exact S_ret ⟨fun h=>⟨hA,by omega,by omega,by omega,by omega,by omega,by simp at h;omega⟩,fun⟨qa,q1,q2,q3,q4,q5,q6⟩=>by simp;omega⟩
theorem sdr_ok{e:Ent}(fy:I64 e.al):wS (sdrT e) e:=by
 have main : ∀b1:Bool,((b1||anyP e.al 0 62)=true↔alP e.al)->wS (kl false b1 1 e.th e.op e.sz e.n e.al e.at_ e.off e.by_ e.rf e.st e.op e.sz e.n e.al e.at_ e.off e.by_ (fun _ =>.ret false) (fun b =>.ret b)) e:=fun b1 h=>by
  unfold kl qD
  have hl:=xf4 (β:=Bool) (b0:=false) (a4:=e.th) (a5:=e.op) (a6:=e.sz) (a7:=e.n) (a8:=e.al) (a9:=e.at_) (a10:=e.off) (a11:=e.by_) (a12:=e.rf) (a13:=e.st) (a14:=e.op) (a15:=e.sz) (a16:=e.n) (a17:=e.al) (a18:=e.at_) (a19:=e.off) (a20:=e.by_)
   (κ0:=fun y=>jD false y e.th e.op e.sz e.n e.al e.at_ e.off e.by_ e.rf e.st e.op e.sz e.n e.al e.at_ e.off e.by_ (fun _ =>.ret false) (fun b =>.ret b)) 62 xG 0 b1 (by omega) (by omega) (by unfold xG;omega)
  have:=xjn (e:=e) _ h
  rw[<- hl]at this
  exact this
 have a3:=al3 fy
 have pw:anyP e.al 0 62=true ↔ ∃k:Nat,k<62/\e.al=2 ^ k:=by
  rw[xdD]
  exact⟨fun⟨i,_,h2,h3⟩=>⟨i,by omega,h3⟩,fun⟨i,h2,h3⟩=>⟨i,by omega,by omega,h3⟩⟩
 unfold sdrT xdv
 refine S_dec (fun h1=>S_dec (fun h2=>main _ ?_) (fun h2=>main _ ?_)) (fun h1=>main _ ?_)
 .rw[Bool.or_eq_true,pw,beq_iff_eq,alP]
  clear pw main
  constructor
  .rintro (h|h)
   .exact .inr (by omega)
   .exact .inl h
  .rintro (h|h)
   .exact .inr h
   .exact .inl (by omega)
 .rw[Bool.false_or,pw,alP]
  clear pw main
  exact⟨.inl,fun h=>h.elim id fun h=>by omega⟩
 .rw[Bool.false_or,pw,alP]
  clear pw main
  exact⟨.inl,fun h=>h.elim id fun h=>by omega⟩
end Go.Proofs.YtfagfflkgmcnpaaGreatDoor.Lx
namespace Go.Proofs.YtfagfflkgmcnpaaGreatDoor.Lx
open Go
section
variable{γ:Type}{x y z:γ}
theorem qc{P:Prop}[Decidable P](h1:P->x=z)(h2 : ¬P->y=z):(bif decide P then x else y)=z:=by
 by_cases h:P
 .rw[dF h];exact h1 h
 .rw[dD h];exact h2 h
theorem D_beq{a b:Int}(h1:a=b->x=z)(h2:a≠b->y=z):(bif a==b then x else y)=z:=by
 by_cases h:a=b
 .rw[beq_iff_eq.2 h];exact h1 h
 .rw[dQ.2 h];exact h2 h
theorem D_bne{a b:Int}(h1:a≠b->x=z)(h2:a=b->y=z):(bif a != b then x else y)=z:=by
 by_cases h:a=b
 .rw[show(a != b)=false by simp[h]];exact h2 h
 .rw[show(a != b)=true by simp[h]];exact h1 h
theorem T_no{c:Bool}(hc:c=false)(h:y=z):(bif c then x else y)=z:=by rw[hc];exact h
end
def named(M:xq)(rf:Int):Prop:=1<=getI (getR M rf.toNat) 10/\getI (getR M rf.toNat) 21=0/\1<=getI (getR M rf.toNat) 1/\getI (getR M rf.toNat) 1<=4
instance(M:xq)(rf:Int):Decidable (named M rf):=inferInstanceAs (Decidable (_/\_))
def askV(e:Ent)(M:xq)(k:Nat):Cll×Bool:=
 if e.rf<0 then(⟨e.op,e.sz,e.n,e.al,e.at_,e.off,e.by_⟩,true) else
 if 0<=e.rf/\e.rf<k/\named M e.rf then(⟨e.op,e.sz,e.n,e.al,getI (getR M e.rf.toNat) 13,e.off,e.by_⟩,true)else(⟨0,0,0,0,0,0,0⟩,false)
theorem ask_eq{e:Ent}{u k d:Nat}{z:yW}{M:xq}(hM:M.length=k):askT e u z k d u M = .ret (askV e M k):=by
 unfold askT xfX askV named
 refine qc (fun h=>by rw[dB h]) fun h =>?_
 rw[dA h]
 refine qc (fun h2=>by rw[dA (by omega)]) fun h2 =>?_
 refine qc (fun h3 =>?_) fun h3=>absurd (show 0<=e.rf/\e.rf<(k:Int)by omega) h3
 refine xu (by rw[Nat.beq_refl,Bool.true_and];exact vt h3.1 (by omega)) ?_
 refine qc (fun h4=>by rw[dA (by omega)]) fun h4 =>?_
 refine D_bne (fun h5=>by rw[dA (by omega)]) fun h5 =>?_
 refine qc (fun h6=>by rw[dA (by omega)]) fun h6 =>?_
 refine qc (fun h7=>by rw[dA (by omega)]) fun h7 =>?_
 rw[dB (by omega)]
theorem xdE{β:Type}{n0 n2 n3:Nat}{z1:yW}{b4:Bool}{M:xq}{a8 a9 a10 a11 a12 a13 a14 a15 a16 a17 a18 a19 a20 a21 a22 a23 a24 a25 a26 a27 a28 a29 a30 a31:Int}{κ0:Int->T β}{κ1:Unit->T β}(hM:M.length=n2)(hs:n2<=30) : ∀ (m N i:Nat),n2-i=m->i<=n2->m<N->
  vo N (ZJ n0 z1 n2 n3 b4 n0 M a8 a9 a10 a11 a12 a13 a14 a15 a16 a17 a18 a19 a20 a21 a22 a23 a24 a25 a26 a27 a28 a29 a30 a31 κ0 κ1) (i:Int)=if(i:Int)<=a16/\a16<n2/\named M a16 then κ0 (getI (getR M a16.toNat) 13)else κ1 ()
 | 0,N+1,i,hm,hi,hN=>by
  rw[yK,dA (by omega)]
  unfold ZJ
  exact T_no (by simp;omega) rfl
 | m+1,N+1,i,hm,hi,hN=>by
  rw[yK]
  have e1:IntKind.wrap .i64 ((i:Int)+1)=((i+1:Nat):Int):=by rw[w64 (by omega) (by omega)];rfl
  have next:=xdE (n0:=n0) (n3:=n3) (z1:=z1) (b4:=b4) (a8:=a8) (a9:=a9) (a10:=a10) (a11:=a11) (a12:=a12) (a13:=a13) (a14:=a14) (a15:=a15) (a16:=a16) (a17:=a17) (a18:=a18) (a19:=a19) (a20:=a20) (a21:=a21) (a22:=a22) (a23:=a23) (a24:=a24) (a25:=a25) (a26:=a26) (a27:=a27) (a28:=a28) (a29:=a29) (a30:=a30) (a31:=a31) (κ0:=κ0) (κ1:=κ1) hM hs m N (i+1) (by omega) (by omega) (by omega)
  rw[<- e1]at next
  generalize vo N (ZJ n0 z1 n2 n3 b4 n0 M a8 a9 a10 a11 a12 a13 a14 a15 a16 a17 a18 a19 a20 a21 a22 a23 a24 a25 a26 a27 a28 a29 a30 a31 κ0 κ1)=K at next |-
  have hA:decide ((0:Int)<=(i:Int)/\(i:Int)<(n2:Int))=true:=by simp;omega
  have hB:(Nat.beq n0 n0&&inR (List.length M) (i:Int))=true:=by rw[Nat.beq_refl,Bool.true_and];exact vt (by omega) (by omega)
  unfold ZJ
  refine xu (by simp;omega) (D_beq (fun he =>?_) fun he =>?_)
  .have hr:(i:Int).toNat=a16.toNat:=by rw[he]
   have far : ¬named M a16->K (IntKind.wrap .i64 ((i:Int)+1))=if(i:Int)<=a16/\a16<n2/\named M a16 then κ0 (getI (getR M a16.toNat) 13)else κ1 ():=fun hn=>by
    rw[next,dA (fun h=>hn h.2.2),dA (fun h=>hn h.2.2)]
   simp only[hr]
   refine xu hA (xu hB (qc (fun h1=>xu hA (xu hB (D_beq (fun h2=>xu hA (xu hB (qc (fun h3=>xu hA (xu hB (qc (fun h4=>xu hA (xu hB ?_)) fun h4=>far fun h=>by have:=h.2.2.2;omega))) fun h3=>far fun h=>by have:=h.2.2.1;omega))) fun h2=>far fun h=>h2 h.2.1))) fun h1=>far fun h=>by have:=h.1;omega))
   rw[dB ⟨by omega,by omega,by omega,h2,by omega,by omega⟩]
  .rw[next]
   by_cases h:(i:Int)<=a16/\a16<n2/\named M a16
   .rw[dB h,dB ⟨by rw[e1];omega,h.2⟩]
   .rw[dA h,dA (fun h'=>h ⟨by rw[e1]at h';omega,h'.2⟩)]
theorem aks_eq{e:Ent}{u k d:Nat}{z:yW}{M:xq}(hM:M.length=k)(hs:k<=30):aksT e u z k d u M = .ret (askV e M k):=by
 unfold aksT xfY askV
 refine qc (fun h=>by rw[dB h]) fun h =>?_
 rw[dA h]
 unfold qC
 have hl:=xdE (β:=Cll×Bool) (n0:=u) (n2:=k) (n3:=d) (z1:=z) (b4:=false) (M:=M) (a8:=e.th) (a9:=e.op) (a10:=e.sz) (a11:=e.n) (a12:=e.al) (a13:=e.at_) (a14:=e.off) (a15:=e.by_) (a16:=e.rf) (a17:=e.st) (a18:=0) (a19:=0) (a20:=0) (a21:=0) (a22:=0) (a23:=0) (a24:=0) (a25:=e.op) (a26:=e.sz) (a27:=e.n) (a28:=e.al) (a29:=e.at_) (a30:=e.off) (a31:=e.by_)
  (κ0:=fun dz =>.ret (⟨e.op,e.sz,e.n,e.al,dz,e.off,e.by_⟩,true)) (κ1:=fun _ =>.ret (⟨0,0,0,0,0,0,0⟩,false)) hM hs k xG 0 (by omega) (by omega) (by unfold xG;omega)
 refine Eq.trans hl ?_
 by_cases hc:0<=e.rf/\e.rf<k/\named M e.rf
 .rw[dB hc,dB ⟨by omega,hc.2⟩]
 .rw[dA hc,dA (fun h'=>hc ⟨by omega,h'.2⟩)]
end Go.Proofs.YtfagfflkgmcnpaaGreatDoor.Lx
namespace Go.Proofs.YtfagfflkgmcnpaaGreatDoor.Lx
variable{β:Type}(g:Geo)
open Go Go.Conc Kx Mx Tx
set_option maxHeartbeats 4000000
def YR(n0:Nat)(z1:yW)(n2 n3:Nat)(b4:Bool)(n5 n6 n8:Nat)(l9:yS)(n10:Nat)(ed:xq)(a12 a13 a14 a15 a16 a17 a18 a19 a20 a21:Int)(ij ii:xq)(κ0:Unit->T β)(κ1:Unit->T β)(i:Int)(k:Int->T β):T β:=
 bif decide (i < ↑n5)then(bif decide ((0:Int)<=i/\i < ↑n5)then(bif inR (List.length ij) i then(bif decide ((0:Int)<=i/\i < ↑n6)then(bif inR (List.length ii) i then(bif !(getI (getR ij (Int.toNat i)) 0==getI (getR ii (Int.toNat i)) 0&&(getI (getR ij (Int.toNat i)) 1==getI (getR ii (Int.toNat i)) 1&&(getI (getR ij (Int.toNat i)) 2==getI (getR ii (Int.toNat i)) 2&&(getI (getR ij (Int.toNat i)) 3==getI (getR ii (Int.toNat i)) 3&&(getI (getR ij (Int.toNat i)) 4==getI (getR ii (Int.toNat i)) 4&&(getI (getR ij (Int.toNat i)) 5==getI (getR ii (Int.toNat i)) 5&&(getI (getR ij (Int.toNat i)) 6==getI (getR ii (Int.toNat i)) 6&&(getI (getR ij (Int.toNat i)) 7==getI (getR ii (Int.toNat i)) 7&&true))))))&&(getI (getR ij (Int.toNat i)) 8==getI (getR ii (Int.toNat i)) 8&&(getI (getR ij (Int.toNat i)) 9==getI (getR ii (Int.toNat i)) 9&&true))))then(κ0 ()) else
 k (i64.wrap (i+1))) else
 .fail) else
 .fail) else
 .fail) else
 .fail) else
 κ1 ()
def Xu(n0:Nat)(z1:yW)(n2 n3:Nat)(b4:Bool)(n5 n6 n8:Nat)(l9:yS)(n10:Nat)(ed:xq)(a12 a13 a14 a15 a16 a17 a18 a19 a20 a21:Int)(ij ii:xq)(a7:Int)(κ0:Unit->T β)(κ1:Unit->T β):T β:=vo xG (YR n0 z1 n2 n3 b4 n5 n6 n8 l9 n10 ed a12 a13 a14 a15 a16 a17 a18 a19 a20 a21 ij ii κ0 κ1) a7
theorem xdF{β γ:Type}(n0 z1 n2 n3 b4 n5 n6 n8 l9 n10 ed a12 a13 a14 a15 a16 a17 a18 a19 a20 a21 ij ii a7 κ0 κ1)(κ:β->T γ):(Xu n0 z1 n2 n3 b4 n5 n6 n8 l9 n10 ed a12 a13 a14 a15 a16 a17 a18 a19 a20 a21 ij ii a7 κ0 κ1).bind κ=Xu n0 z1 n2 n3 b4 n5 n6 n8 l9 n10 ed a12 a13 a14 a15 a16 a17 a18 a19 a20 a21 ij ii a7 (fun u=>(κ0 u).bind κ) (fun u=>(κ1 u).bind κ):=by
 unfold Xu
 refine wn κ (fun i k =>?_) _ _
 unfold YR
 simp only[bz]
def xf5:Pat:=⟨wu 106 0 [(2,.c (.slw 1)),(4,.c (.raw (.ptr 2 0))),(6,.c (.bool)),(7,.c (.slr 3)),(8,.c (.slr 4)),(9,.c (.int .i64))],[some ⟨[], 5,false,some (.wcol .u8)⟩,some ⟨[], 56,false,some (.wrows shE)⟩,some ⟨[.int .i64,.int .u8,.int .i64,.int .i64,.int .i64,.int .i64,.int .i64,.int .u8,.int .i64,.int .i64], 26,false,none⟩,some ⟨[], 26,true,some (.rows shR)⟩,some ⟨[], 33,true,some (.rows shR)⟩]⟩
def Kv:Pat:=⟨wu 106 0 [(2,.c (.slw 1)),(4,.c (.raw (.ptr 2 0))),(6,.c (.bool))],[some ⟨[], 5,false,some (.wcol .u8)⟩,some ⟨[], 56,false,some (.wrows shE)⟩,some ⟨[.int .i64,.int .u8,.int .i64,.int .i64,.int .i64,.int .i64,.int .i64,.int .u8,.int .i64,.int .i64], 26,false,none⟩]⟩
def xb5:LF:=fun st K=>match wR xf5 st with
 | some [.n n0,.z z1,.n n2,.n n3,.b b4,.n n5,.n n6,.i a7,.n n8,.l l9,.n n10,.r ed,.i a12,.i a13,.i a14,.i a15,.i a16,.i a17,.i a18,.i a19,.i a20,.i a21,.r ij,.r ii]=>some (Xu n0 z1 n2 n3 b4 n5 n6 n8 l9 n10 ed a12 a13 a14 a15 a16 a17 a18 a19 a20 a21 ij ii a7 (fun _=>K (.ret) (yX Kv [.n n0,.z z1,.n n2,.n n3,.b false,.n n8,.l l9,.n n10,.r ed,.i a12,.i a13,.i a14,.i a15,.i a16,.i a17,.i a18,.i a19,.i a20,.i a21])) (fun _=>K (.exit 0) (yX Kv [.n n0,.z z1,.n n2,.n n3,.b b4,.n n8,.l l9,.n n10,.r ed,.i a12,.i a13,.i a14,.i a15,.i a16,.i a17,.i a18,.i a19,.i a20,.i a21])))
 | _=>none
theorem tlT_0Ok : ∀st K t,xb5 st K=some t->vH xG (lf kq5 (⟨xG,[⟨1000009,0,.col .i64⟩],true⟩:Fu) 2 .no [1,1,1,1,1,0,1,0] Tryz.f3 K) st=t:=by
 intro st K t h
 unfold xb5 at h
 split at h
 .rename_i n0 z1 n2 n3 b4 n5 n6 a7 n8 l9 n10 ed a12 a13 a14 a15 a16 a17 a18 a19 a20 a21 ij ii hm
  cases h
  rw[vr hm]
  unfold Xu
  exact qq (S:=fun(i:Int)=>yX xf5 [.n n0,.z z1,.n n2,.n n3,.b b4,.n n5,.n n6,.i i,.n n8,.l l9,.n n10,.r ed,.i a12,.i a13,.i a14,.i a15,.i a16,.i a17,.i a18,.i a19,.i a20,.i a21,.r ij,.r ii]) (fun i k=>by kernel_rfl) xG a7
 .cases h
def Zo(n0:Nat)(z1:yW)(n2 n3:Nat)(b4:Bool)(n5:Nat)(l6:yS)(n7:Nat)(q8:xq)(a9 a10 a11 a12 a13 a14 a15 a16 a17 a18:Int)(κ0:Unit->T β)(κ1:Bool->T β):T β:=
 (askT (Ent.mk a9 a10 a11 a12 a13 a14 a15 a16 a17 a18) n0 z1 n2 n3 n7 q8).bind fun r0=>
 (aksT (Ent.mk a9 a10 a11 a12 a13 a14 a15 a16 a17 a18) n0 z1 n2 n3 n7 q8).bind fun r1=>
 bif !(r0.fst.op==r1.fst.op&&(r0.fst.sz==r1.fst.sz&&(r0.fst.n==r1.fst.n&&(r0.fst.al==r1.fst.al&&(r0.fst.at_==r1.fst.at_&&(r0.fst.off==r1.fst.off&&(r0.fst.by_==r1.fst.by_&&true)))))))then(κ0 ()) else
 bif !r0.2==r1.2 then(κ0 ()) else
 (encT (Ent.mk a9 a10 a11 a12 a13 a14 a15 a16 a17 a18)).bind fun r4=>
 (en1T r4.x0 r4.x1 r4.x2 r4.x3 r4.x4 r4.x5 r4.x6 r4.x7 r4.x8 r4.x9 r4.x10 r4.x11).bind fun r5=>
 (sdrT (Ent.mk a9 a10 a11 a12 a13 a14 a15 a16 a17 a18)).bind fun r6=>
 bif r6 then(bif getI (getR [[r5.th,r5.op,r5.sz,r5.n,r5.al,r5.at_,r5.off,r5.by_,r5.rf,r5.st]] 0) 0==a9&&(getI (getR [[r5.th,r5.op,r5.sz,r5.n,r5.al,r5.at_,r5.off,r5.by_,r5.rf,r5.st]] 0) 1==a10&&(getI (getR [[r5.th,r5.op,r5.sz,r5.n,r5.al,r5.at_,r5.off,r5.by_,r5.rf,r5.st]] 0) 2==a11&&(getI (getR [[r5.th,r5.op,r5.sz,r5.n,r5.al,r5.at_,r5.off,r5.by_,r5.rf,r5.st]] 0) 3==a12&&(getI (getR [[r5.th,r5.op,r5.sz,r5.n,r5.al,r5.at_,r5.off,r5.by_,r5.rf,r5.st]] 0) 4==a13&&(getI (getR [[r5.th,r5.op,r5.sz,r5.n,r5.al,r5.at_,r5.off,r5.by_,r5.rf,r5.st]] 0) 5==a14&&(getI (getR [[r5.th,r5.op,r5.sz,r5.n,r5.al,r5.at_,r5.off,r5.by_,r5.rf,r5.st]] 0) 6==a15&&(getI (getR [[r5.th,r5.op,r5.sz,r5.n,r5.al,r5.at_,r5.off,r5.by_,r5.rf,r5.st]] 0) 7==a16&&true))))))&&(getI (getR [[r5.th,r5.op,r5.sz,r5.n,r5.al,r5.at_,r5.off,r5.by_,r5.rf,r5.st]] 0) 8==a17&&(getI (getR [[r5.th,r5.op,r5.sz,r5.n,r5.al,r5.at_,r5.off,r5.by_,r5.rf,r5.st]] 0) 9==a18&&true)))then((awkT).bind fun r9=>
 κ1 r9) else
 κ0 ()) else
 bif r4.x0 != 255 then(κ0 ()) else
 bif r4.x1 != 255 then(κ0 ()) else
 bif r4.x2 != 255 then(κ0 ()) else
 bif r4.x3 != 255 then(κ0 ()) else
 bif r4.x4 != 255 then(κ0 ()) else
 bif r4.x5 != 255 then(κ0 ()) else
 bif r4.x6 != 255 then(κ0 ()) else
 bif r4.x7 != 255 then(κ0 ()) else
 bif r4.x8 != 255 then(κ0 ()) else
 bif r4.x9 != 255 then(κ0 ()) else
 bif r4.x10 != 255 then(κ0 ()) else
 bif r4.x11 != 255 then(κ0 ()) else
 (awkT).bind fun Io=>
 κ1 Io
theorem Wv{β γ:Type}(n0 z1 n2 n3 b4 n5 l6 n7 q8 a9 a10 a11 a12 a13 a14 a15 a16 a17 a18 κ0 κ1)(κ:β->T γ):(Zo n0 z1 n2 n3 b4 n5 l6 n7 q8 a9 a10 a11 a12 a13 a14 a15 a16 a17 a18 κ0 κ1).bind κ=Zo n0 z1 n2 n3 b4 n5 l6 n7 q8 a9 a10 a11 a12 a13 a14 a15 a16 a17 a18 (fun u=>(κ0 u).bind κ) (fun uf=>(κ1 uf).bind κ):=by
 unfold Zo
 simp only[bz]
def xdG:Pat:=⟨wu 106 0 [(6,.c (.bool))],[some ⟨[], 5,false,some (.wcol .u8)⟩,some ⟨[], 56,false,some (.wrows shE)⟩]⟩
def YS:LF:=fun st K=>match wR Kv st with
 | some [.n n0,.z z1,.n n2,.n n3,.b b4,.n n5,.l l6,.n n7,.r q8,.i a9,.i a10,.i a11,.i a12,.i a13,.i a14,.i a15,.i a16,.i a17,.i a18]=>some (Zo n0 z1 n2 n3 b4 n5 l6 n7 q8 a9 a10 a11 a12 a13 a14 a15 a16 a17 a18 (fun _=>K (.ret) (yX xdG [.b false,.n n5,.l l6,.n n7,.r q8])) (fun uf=>K (.ret) (yX xdG [.b uf,.n n5,.l l6,.n n7,.r q8])))
 | _=>none
theorem xf6 : ∀st K t,YS st K=some t->ev2 Tryz.prog (xU kq5) (⟨xG,[⟨1000009,0,.col .i64⟩],true⟩:Fu) 2 .no (cutC [1,1,1,1,1,1] Tryz.f3) (cutV [1,1,1,1,1,1] Tryz.f3) st (jI (⟨xG,[⟨1000009,0,.col .i64⟩],true⟩:Fu) 2 (cutV [1,1,1,1,1,1] Tryz.f3) K)=t:=by
 intro st K t h
 unfold YS at h
 split at h
 .rename_i n0 z1 n2 n3 b4 n5 l6 n7 q8 a9 a10 a11 a12 a13 a14 a15 a16 a17 a18 hm hm
  cases h
  rw[vr hm]
  kernel_rfl
 .cases h
def tlTK(o a n c:Nat)(e:Ent)(u:Nat)(z:yW)(k d q:Nat)(L:yS)(p:Nat)(M:xq)(κ:Bool->T β):T β:=
 bif decide (↑n>(600:Int))then((awkT).bind fun r1=>
 κ r1) else
 bif decide (↑k>(30:Int))then((awkT).bind fun r2=>
 κ r2) else
 (decT o 0 a n c q L).bind fun r2=>
 (recT o 0 a n c q L).bind fun r3=>
 bif (r2.1:Int) != (r3.1:Int)then(κ false) else
 Xu u z k d false r2.1 r3.1 q L p M e.th e.op e.sz e.n e.al e.at_ e.off e.by_ e.rf e.st r2.2 r3.2 0 (fun Dx=>
 κ false) (fun Dx=>
 Zo u z k d false q L p M e.th e.op e.sz e.n e.al e.at_ e.off e.by_ e.rf e.st (fun B4=>
 κ false) (fun B4=>
 κ B4))
def tlT(o a n c:Nat)(e:Ent)(u:Nat)(z:yW)(k d q:Nat)(L:yS)(p:Nat)(M:xq):T Bool:=tlTK o a n c e u z k d q L p M .ret
theorem xjo(o a n c e u z k d q L p M)(κ:Bool->T β):(tlT o a n c e u z k d q L p M).bind κ=tlTK o a n c e u z k d q L p M κ:=by
 unfold tlT tlTK
 simp only[bz,xdF,Wv]
def tzTK(o:Nat)(y:yW)(c:Nat)(e:Ent)(u:Nat)(z:yW)(k d q:Nat)(L:yS)(p:Nat)(M:xq)(κ:Bool->T β):T β:=
 bif decide (↑k>(30:Int))then((awkT).bind fun r1=>
 κ r1) else
 Zo u z k d false q L p M e.th e.op e.sz e.n e.al e.at_ e.off e.by_ e.rf e.st (fun dz=>
 κ false) (fun dz=>
 κ dz)
def tzT(o:Nat)(y:yW)(c:Nat)(e:Ent)(u:Nat)(z:yW)(k d q:Nat)(L:yS)(p:Nat)(M:xq):T Bool:=tzTK o y c e u z k d q L p M .ret
theorem xjp(o y c e u z k d q L p M)(κ:Bool->T β):(tzT o y c e u z k d q L p M).bind κ=tzTK o y c e u z k d q L p M κ:=by
 unfold tzT tzTK
 simp only[bz,Wv]
def m_tlT:Sm:=fun
 | [.c (.slx 0 o 0 a n c),.agg ec,.c (.slw 1 u z k d)],[some ⟨[], 5,false,some (.wcol q .u8 L)⟩,some ⟨[], 56,false,some (.wrows p [.int .i64,.int .u8,.int .i64,.int .i64,.int .i64,.int .i64,.int .i64,.int .u8,.int .i64,.int .i64,.int .i64,.int .i64,.bool,.int .i64,.int .i64,.int .u8,.int .u64,.int .u64,.int .u64,.int .u64,.int .u64,.int .i64,.int .i64,.int .i64] M)⟩]=>(match Ent.of ec with
   | some e=>some (mkS Bool (tlT o a n c e u z k d q L p M) fun r=>some (.c (.bool r),[some ⟨[], 5,false,some (.wcol q .u8 L)⟩,some ⟨[], 56,false,some (.wrows p shE M)⟩]))
   | _=>none)
 | _,_=>none
theorem xjq:Good Tryz.prog (xU kq5) (⟨xG,[⟨1000009,0,.col .i64⟩],true⟩:Fu) 2 (mrg (lsAt xb5 .no [1,1,1,1,1,0,1,0]) (csAt YS .no [1,1,1,1,1,1])) (Tryz.f3.body.getD .skip) (yy Tryz.f3.results.toList):=(vu (WG (ve (by kernel_rfl)) jv tlT_0Ok) (Zd (ve (by kernel_rfl)) jv xf6))
theorem tlT_ev : ∀args H t,m_tlT args H=some t->evF Tryz.prog (xU kq5) (⟨xG,[⟨1000009,0,.col .i64⟩],true⟩:Fu) Tryz.f3 args H=t.tree:=by
 intro args H t ht
 unfold m_tlT at ht
 split at ht
 .rename_i o a n c ec u z k d q L p M
  split at ht
  .rename_i e he
   obtain rfl:=Ent.of_eq he
   cases ht
   refine(ZC (P:= Tryz.prog) (n:=(⟨xG,[⟨1000009,0,.col .i64⟩],true⟩:Fu)) (x:=(mrg (lsAt xb5 .no [1,1,1,1,1,0,1,0]) (csAt YS .no [1,1,1,1,1,1]))) (fn:= Tryz.f3) (H :=[some ⟨[], 5,false,some (.wcol q .u8 L)⟩,some ⟨[], 56,false,some (.wrows p shE M)⟩]) (c:= Tryz.f3.body.getD .skip) (ve (by kernel_rfl)) xjq).symm.trans ?_
   exact ey (xjo o a n c e u z k d q L p M _)
  .cases ht
 .cases ht
def m_tzT:Sm:=fun
 | [.c (.slw 0 o y 0 c),.agg ec,.c (.slw 1 u z k d)],[some ⟨[], 5,false,some (.wcol q .u8 L)⟩,some ⟨[], 56,false,some (.wrows p [.int .i64,.int .u8,.int .i64,.int .i64,.int .i64,.int .i64,.int .i64,.int .u8,.int .i64,.int .i64,.int .i64,.int .i64,.bool,.int .i64,.int .i64,.int .u8,.int .u64,.int .u64,.int .u64,.int .u64,.int .u64,.int .i64,.int .i64,.int .i64] M)⟩]=>(match Ent.of ec with
   | some e=>some (mkS Bool (tzT o y c e u z k d q L p M) fun r=>some (.c (.bool r),[some ⟨[], 5,false,some (.wcol q .u8 L)⟩,some ⟨[], 56,false,some (.wrows p shE M)⟩]))
   | _=>none)
 | _,_=>none
theorem xjr:Good Tryz.prog (xU kq5) (⟨xG,[⟨1000009,0,.col .i64⟩],true⟩:Fu) 2 (csAt YS .no [1,1,1,1,1,1]) (Tryz.f3.body.getD .skip) (yy Tryz.f3.results.toList):=(Zd (ve (by kernel_rfl)) jv xf6)
theorem tzT_ev : ∀args H t,m_tzT args H=some t->evF Tryz.prog (xU kq5) (⟨xG,[⟨1000009,0,.col .i64⟩],true⟩:Fu) Tryz.f3 args H=t.tree:=by
 intro args H t ht
 unfold m_tzT at ht
 split at ht
 .rename_i o y c ec u z k d q L p M
  split at ht
  .rename_i e he
   obtain rfl:=Ent.of_eq he
   cases ht
   refine(ZC (P:= Tryz.prog) (n:=(⟨xG,[⟨1000009,0,.col .i64⟩],true⟩:Fu)) (x:=(csAt YS .no [1,1,1,1,1,1])) (fn:= Tryz.f3) (H :=[some ⟨[], 5,false,some (.wcol q .u8 L)⟩,some ⟨[], 56,false,some (.wrows p shE M)⟩]) (c:= Tryz.f3.body.getD .skip) (ve (by kernel_rfl)) xjr).symm.trans ?_
   exact ey (xjp o y c e u z k d q L p M _)
  .cases ht
 .cases ht
end Go.Proofs.YtfagfflkgmcnpaaGreatDoor.Lx
namespace Go.Proofs.YtfagfflkgmcnpaaGreatDoor.Lx
open Go Kx Mx Tx
theorem xf7{β:Type}{n0 n2 n3 n8 n10:Nat}{z1:yW}{b4:Bool}{L:yS}{M R:xq}{a12 a13 a14 a15 a16 a17 a18 a19 a20 a21:Int}{κ0 κ1:Unit->T β}{n:Nat}(hR:R.length=n)(hs:n<=1000) : ∀ (m N i:Nat),n-i=m->i<=n->m<N->
  vo N (YR n0 z1 n2 n3 b4 n n n8 L n10 M a12 a13 a14 a15 a16 a17 a18 a19 a20 a21 R R κ0 κ1) (i:Int)=κ1 ()
 | 0,N+1,i,hm,hi,hN=>by
  rw[yK]
  unfold YR
  exact T_no (by simp;omega) rfl
 | m+1,N+1,i,hm,hi,hN=>by
  rw[yK]
  have e1:IntKind.wrap .i64 ((i:Int)+1)=((i+1:Nat):Int):=by rw[w64 (by omega) (by omega)];rfl
  have next:=xf7 (n0:=n0) (n2:=n2) (n3:=n3) (n8:=n8) (n10:=n10) (z1:=z1) (b4:=b4) (L:=L) (M:=M) (a12:=a12) (a13:=a13) (a14:=a14) (a15:=a15) (a16:=a16) (a17:=a17) (a18:=a18) (a19:=a19) (a20:=a20) (a21:=a21) (κ0:=κ0) (κ1:=κ1) hR hs m N (i+1) (by omega) (by omega) (by omega)
  rw[<- e1]at next
  generalize vo N (YR n0 z1 n2 n3 b4 n n n8 L n10 M a12 a13 a14 a15 a16 a17 a18 a19 a20 a21 R R κ0 κ1)=K at next |-
  have hA:decide ((0:Int)<=(i:Int)/\(i:Int)<(n:Int))=true:=by simp;omega
  have hB:inR (List.length R) (i:Int)=true:=vt (by omega) (by omega)
  unfold YR
  refine xu (by simp;omega) (xu hA (xu hB (xu hA (xu hB (T_no ?_ next)))))
  simp only[beq_self_eq_true,Bool.and_self,Bool.not_true]
theorem Yn:awkT.bind (fun r =>.ret r)=awkT:=T.bind_ret awkT
theorem Xc:By 255:=⟨by decide,by decide⟩
theorem xf8{e:Ent}{u k d n5:Nat}{z:yW}{l6:yS}{M:xq}{b:Bool}(hM:M.length=k)(hs:k<=30)(fy:I64 e.al)(uj:I64 e.off) :
  Zo u z k d b n5 l6 u M e.th e.op e.sz e.n e.al e.at_ e.off e.by_ e.rf e.st (fun _ =>.ret false) (fun r =>.ret r)=awkT:=by
 unfold Zo
 have he:Ent.mk e.th e.op e.sz e.n e.al e.at_ e.off e.by_ e.rf e.st=e:=rfl
 obtain⟨bb,h1,h2,h3⟩:=enc_ok fy uj
 obtain⟨s,g1,g2⟩:=sdr_ok fy
 rw[he,ask_eq hM,aks_eq hM hs,h1,g1,vn,vn]
 refine T_no (by simp only[beq_self_eq_true,Bool.and_self,Bool.not_true]) (T_no (by simp only[beq_self_eq_true,Bool.not_true]) ?_)
 rw[vn]
 by_cases ok:okP e
 .have G:=h2 ok
  obtain rfl:s=true:=g2.2 ok
  rw[xb4 G.b0 G.b2 G.b3 G.b4 G.b5 G.b6 G.b7 G.b8 G.b10 G.b11,vn,vn,G.says]
  refine xu rfl (xu ?_ Yn)
  simp[getI,getR]
 .obtain rfl:=h3 ok
  obtain rfl:s=false:=by
   cases s with
   | false=>rfl
   | true=>exact absurd (g2.1 rfl) ok
  unfold f12
  simp only
  rw[xb4 Xc Xc Xc Xc Xc Xc Xc Xc Xc Xc,vn,vn]
  exact Yn
theorem tl_eq{o a n c u k d:Nat}{z:yW}{e:Ent}{L:List Int}{M:xq}(hb:Bys L)(hn:L.length=n)(hc:n<=c)(hM:M.length=k)(fy:I64 e.al)(uj:I64 e.off):tlT o a n c e u z k d o L u M=awkT:=by
 unfold tlT tlTK
 refine qc (fun _=>Yn) fun h1=>qc (fun _=>Yn) fun h2 =>?_
 rw[decT_eq rfl hb hn hc (by omega),vn,recT_eq hb hn (by omega),vn]
 refine T_no (by simp) ?_
 unfold Xu
 refine Eq.trans (xf7 (by rw[Ku]) (by omega) (n / 12) xG 0 (by omega) (by omega) (by unfold xG;omega)) ?_
 exact xf8 hM (by omega) fy uj
theorem tz_eq{o c u k d:Nat}{y z:yW}{e:Ent}{q:Nat}{L:List Int}{M:xq}(hM:M.length=k)(fy:I64 e.al)(uj:I64 e.off):tzT o y c e u z k d q L u M=awkT:=by
 unfold tzT tzTK
 refine qc (fun _=>Yn) fun h2 =>?_
 exact xf8 (n5:=q) (l6:=L) (b:=false) hM (by omega) fy uj
end Go.Proofs.YtfagfflkgmcnpaaGreatDoor.Lx
namespace Go.Proofs.YtfagfflkgmcnpaaGreatDoor.Mx
open Go Go.Conc Go.RowKit Go.ChangeShapes Lx Kx Tx
def winV(b off:Nat)(z:Option Addr)(n c:Nat):Value :=.slice (if n=0 then z else some ⟨b,off,none⟩) n c
section
variable{H:Type}{enc:TypeId×Value->H}{w:World}{base:Nat}{spare:Nat->Bool}{held:Bool}
theorem open_nums{t e:TypeId}{k:IntKind}{fuel:Nat}{v:Value}{x:DataW H×List MemPlace}(ht : Tryz.prog.underlying t=some (.slice e))(he : Tryz.prog.underlying e=some (.int k))(hc : Tryz.prog.cellsOf e=1)
  (h:DataW.trod enc Tryz.prog w base spare held fuel t [v]=some x) : ∃ (b off:Nat) (z:Option Addr) (n c:Nat) (L:List Int),v=winV b off z n c/\n<=c/\L.length=n/\(∀y∈L,(Lit.int k y).wf=true)/\WinK w b ⟨[],e,false,some (.wcol off k L)⟩:=by
 rcases open_ints ht he hc h with⟨bk,_⟩|⟨a,len,cap,zs,bk,_,hl,_,Ei,_,fw,uz⟩
 .simp only[List.cons.injEq,and_true]at bk
  subst bk
  exact⟨0,0,none,0,0,[],rfl,dJ _,rfl,(fun _ h=>by cases h),⟨⟨0,rfl,.inl rfl⟩,rfl⟩⟩
 .simp only[List.cons.injEq,and_true]at bk
  subst bk
  have hlz:len<=zs.length:=by rw[Ei];split<;>omega
  by_cases h0:len=0
  .subst h0
   exact⟨0,0,some a,0,cap,[],rfl,Nat.zero_le _,rfl,(fun _ h=>by cases h),⟨⟨0,rfl,.inl rfl⟩,rfl⟩⟩
  .have Df:=fw 0 (by omega)
   obtain⟨b,o,sp⟩:=a
   have k9:sp=none:=by simpa[Addr.add]using World.cell?_spot Df
   subst k9
   refine⟨b,o,none,len,cap,zs.take len,by simp[winV,h0],hl,by simp;omega,fun y hy=>uz y (List.mem_of_mem_take hy),⟨⟨o,rfl,.inr ⟨by simpa[Addr.add]using World.block_lt_of_cell? w _ Df,fun pv cs bk j v hj =>?_⟩⟩,rfl⟩⟩
   have zk:cs=(zs.take len).map (Value.int k):=by
    have:=Kr k pv [] (zs.take len)
    rw[show(Blk.mk [] e false (some (.wcol o k (zs.take len)))).real=(zs.take len).map (.int k)from rfl,this]at bk
    exact(Option.some.inj bk).symm
   subst zk
   rw[List.getElem?_map,oM]at hj
   obtain⟨y,hy,rfl⟩:=hj
   rw[List.getElem?_take]at hy
   split at hy
   .have ou:=(List.getElem?_eq_some_iff.1 hy).1
    have:=fw j ou
    rw[yd]at this
    rw[this,List.getD_eq_getElem?_getD,hy];rfl
   .cases hy
theorem open_rows{t e:TypeId}{sh:List CK}{Q:List Int->Prop}{fuel:Nat}{v:Value}{x:DataW H×List MemPlace}(ht : Tryz.prog.underlying t=some (.slice e))(hc : Tryz.prog.cellsOf e=sh.length)(h0:0<sh.length)
  (ss : ∀ (n:Nat) (cs:List Value) y,DataW.trod enc Tryz.prog w base spare held n e cs=some y ->∃r:List Int,Q r/\ ∀pv,denL pv [] (rowC sh r)=some cs)
  (h:DataW.trod enc Tryz.prog w base spare held fuel t [v]=some x) : ∃ (b off:Nat) (z:Option Addr) (n c:Nat) (L:List (List Int)),v=winV b off z n c/\n<=c/\L.length=n/\(∀r∈L,Q r)/\WinK w b ⟨[],e,false,some (.wrows off sh L)⟩:=by
 rcases Go.Deep.open_slice ht h with⟨bk,_⟩|⟨a,l,c,m,k,D,Pl,bk,_,hl,hm,J1,_,hi⟩
 .simp only[List.cons.injEq,and_true]at bk
  subst bk
  exact⟨0,0,none,0,0,[],rfl,dJ _,rfl,(fun _ h=>by cases h),⟨⟨0,rfl,.inl rfl⟩,rfl⟩⟩
 .simp only[List.cons.injEq,and_true]at bk
  subst bk
  have Dr:l<=m:=by rw[J1];split<;>omega
  by_cases ul:l=0
  .subst ul
   exact⟨0,0,some a,0,c,[],rfl,Nat.zero_le _,rfl,(fun _ h=>by cases h),⟨⟨0,rfl,.inl rfl⟩,rfl⟩⟩
  .obtain⟨E,hE⟩:=Go.Deep.choose_lt (α:=List Int) (n:=l) (p:=fun i r=>Q r/\ ∃cs,w.cells? base (a.add (i*sh.length)) sh.length=some cs/\ ∀pv,denL pv [] (rowC sh r)=some cs) (fun i un=>by
    obtain⟨cs',h1,h2⟩:=hi i (by omega)
    rw[hc]at h1
    obtain⟨r,hr,hd⟩:=ss _ _ _ h2
    exact⟨r,hr,cs',h1,hd⟩)
   have at_ : ∀pv,∀i,i<l ->∀j,j<sh.length ->∃c v,(rowC sh (E i))[j]? = some c/\den pv [] c=some v/\w.cell? (a.add (i*sh.length+j))=some v:=by
    intro pv i hi j hj
    obtain⟨_,cs,h1,h2⟩:=hE i hi
    have h3:=(World.cells?_some h1).2.2 j hj
    rw[Go.Deep.add_add]at h3
    have B2:j<(rowC sh (E i)).length:=by rw[yh];exact hj
    obtain⟨v,h4,h5⟩:=ku (h2 pv) (List.getElem?_eq_getElem B2)
    exact⟨_,v,List.getElem?_eq_getElem B2,h4,by rw[h3,h5]⟩
   obtain⟨c0,v0,_,_,Dj⟩:=at_ (.int .i64 0) 0 (by omega) 0 h0
   obtain⟨b,o,sp⟩:=a
   have k9:sp=none:=by simpa[Addr.add]using World.cell?_spot Dj
   subst k9
   refine⟨b,o,none,l,c,(List.range l).map E,by simp[winV,ul],hl,by simp,fun r hr =>?_,⟨⟨o,rfl,.inr ⟨by simpa[Addr.add]using World.block_lt_of_cell? w _ Dj,fun pv cs bk j v hj =>?_⟩⟩,rfl⟩⟩
   .obtain⟨i,un,rfl⟩:=List.mem_map.1 hr
    exact(hE i (by simpa using un)).1
   .have aj:cs.length=l*sh.length:=by
     rw[xN bk]
     show(((List.range l).map E).flatMap (rowC sh)).length=_
     rw[wy,List.length_map,List.length_range]
    have ou:j<l*sh.length:=by rw[<- aj];exact(List.getElem?_eq_some_iff.1 hj).1
    have um:j / sh.length<l:=Nat.div_lt_of_lt_mul (by rw[Nat.mul_comm];exact ou)
    have Fz:j%sh.length<sh.length:=Nat.mod_lt _ h0
    have Hu:j / sh.length*sh.length+j%sh.length=j:=by rw[Nat.mul_comm];exact Nat.div_add_mod _ _
    obtain⟨c1,v1,h1,h2,h3⟩:=at_ pv _ um _ Fz
    have h4:=XF (sh:=sh) (l:=(List.range l).map E) (i:=j / sh.length) (j:=j%sh.length) (by simpa using um) Fz
    have h5:getR ((List.range l).map E) (j / sh.length)=E (j / sh.length):=by
     unfold getR
     rw[List.getD_eq_getElem?_getD,List.getElem?_map,List.getElem?_range um];rfl
    rw[h5,h1,Hu]at h4
    obtain⟨v2,h6,h7⟩:=ku bk h4
    rw[h2]at h6
    cases h6
    rw[h7]at hj
    cases hj
    rw[Hu,yd]at h3
    exact h3
end
end Go.Proofs.YtfagfflkgmcnpaaGreatDoor.Mx
namespace Go.Proofs.YtfagfflkgmcnpaaGreatDoor.Mx
open Go Go.Conc Go.RowKit Go.ChangeShapes Go.WideShapes Lx Kx Tx
def xe3:Option (Bool×MS)->Bool
 | some (b,s)=>b&&s.ths.all (fun t=> !t.busy)
 | _=>false
theorem xhu{r:Option (Bool×MS)}(h:xe3 r=true) : ∃s',r=some (true,s')/\ ∀t∈s'.ths,t.busy=false:=by
 unfold xe3 at h
 split at h
 .rename_i b s'
  simp only[dM,List.all_eq_true,Bool.not_eq_true']at h
  obtain⟨rfl,h⟩:=h
  exact⟨s',rfl,h⟩
 .cases h
theorem awk_ok:xe3 (awkT.run (JX xfQ xp0).step ⟨[],[xbQ],0⟩)=true:=by kernel_rfl
def shEv:List CK:=ek
def evRow(e:Ev):List Int :=[e.thread,e.call.op,e.call.size,e.call.n,e.call.align,e.call.pos,e.call.off,e.call.byte,e.sfrom,e.to,e.lin,e.touch,if e.done then 1 else 0,e.r.pos,e.r.n,e.r.byte,e.r.c0,e.r.c1,e.r.c2,e.r.c3,e.r.c4,e.r.e,e.r.lin,e.r.touch]
theorem evRow_den(e:Ev)(pv:Value):denL pv [] (rowC shEv (evRow e))=some e.cells:=by
 obtain⟨_,_,_,_,_,_,d,_⟩:=e
 cases d<;>rfl
theorem xdH : Tryz.prog.cellsOf 26 = 10:=by kernel_rfl
def entV(e:Ent):List Value :=[.int .i64 e.th,.int .u8 e.op,.int .i64 e.sz,.int .i64 e.n,.int .i64 e.al,.int .i64 e.at_,.int .i64 e.off,.int .u8 e.by_,.int .i64 e.rf,.int .i64 e.st]
section
variable{H:Type}{enc:TypeId×Value->H}{w:World}{base:Nat}{spare:Nat->Bool}{held:Bool}
theorem xe4 {n:Nat} {cs:List Value} {x:DataW H×List MemPlace} (h:DataW.trod enc Tryz.prog w base spare held n 26 cs=some x) : ∃e:Ent,I64 e.al/\I64 e.off/\cs=entV e:=by
 obtain⟨xs,n,_,hx,hl,aj,hf⟩:=DataW.trod_struct Tryz.underlying26 h
 rw[xdH]at hl
 match cs,hl with
 | [c0,c1,c2,c3,c4,c5,c6,c7,c8,c9],_=>
 have ai:xs.length=4:=aj
 obtain⟨y0,g0⟩:=fld hf 0 (t:= 3) (o:=0) rfl yi (by omega)
 obtain⟨y1,g1⟩:=fld hf 1 (t:= 24) (o:=1) rfl Xi (by omega)
 obtain⟨y2,g2⟩:=fld hf 2 (t:= 3) (o:=8) rfl yi (by omega)
 obtain⟨y3,g3⟩:=fld hf 3 (t:= 3) (o:=9) rfl yi (by omega)
 simp only[List.drop_zero,List.drop_succ_cons,List.take_succ_cons,List.take_zero]at g0 g1 g2 g3
 obtain⟨m0,e0,k0,_⟩:=yF Tryz.underlying3 g0
 obtain⟨c,k1,e1⟩:=xae g1
 obtain⟨m2,e2,k2,_⟩:=yF Tryz.underlying3 g2
 obtain⟨m3,e3,k3,_⟩:=yF Tryz.underlying3 g3
 simp only[List.cons.injEq,and_true,Cl.cells]at e0 e1 e2 e3
 obtain⟨Dk,Gy,Gx,Gw,Gv,Gu,Gt⟩:=e1
 subst e0 Dk Gy Gx Gw Gv Gu Gt e2 e3
 obtain⟨_,_,_,ka,_,ko,_⟩:=k1
 exact⟨⟨m0,c.op,c.size,c.n,c.align,c.pos,c.off,c.byte,m2,m3⟩,⟨ka.1,ka.2⟩,⟨ko.1,ko.2⟩,rfl⟩
theorem open_entry{W:World}{r:Reach}{b0 base:Nat}{sp:Nat->Bool}{held:Bool}{v:Value}{d:DataW H}{p:List MemPlace}
  (hv:Value.okWide Tryz.prog W r b0 26 v) (h:DataW.Trod enc Tryz.prog W base sp held 26 v d p) : ∃e:Ent,I64 e.al/\I64 e.off/\v = .agg (entV e).toArray:=by
 obtain⟨cs,rfl,_⟩:=okWide_struct Tryz.underlying26 hv
 obtain⟨n,hn⟩:=h
 obtain⟨e,h1,h2,hc⟩:=xe4 (cs:=cs.toList) (by simpa[Value.cells]using hn)
 exact⟨e,h1,h2,by rw[<- hc]⟩
end
theorem s_kTells{el:TypeId}{fr:Nat×Nat}:SoundLK (JB xfQ el fr) kq5:=s_kq5 (s_ms22 (s_kScr s_thr12))
def xdI(f:FuncId)(vs:Array Value)(W:World):Prop:=
 ∃R last o w' t',runNT Tryz.prog (R+1) (solo (G (Frame.enter Tryz.prog f vs .normal) []) W) #[]=(.ended o w',t')/\runN Tryz.prog R (solo (G (Frame.enter Tryz.prog f vs .normal) []) W) = .next last/\step Tryz.prog last = .ended o w'/\Go.Conc.Good Tryz.prog (fun v w'=>v = .bool true/\Keeps (fun _=>False) W w') last o w' t'
theorem tells_run{b q n c b2 q2 k d:Nat}{z z2:Option Addr}{e:Ent}{L:List Int}{M:List (List Int)}(ot:n<=c)(hn:L.length=n)(hb:Bys L)(hM:M.length=k)(fy:I64 e.al)(uj:I64 e.off)(W:World)(hL:laidMetH Tryz.prog laidL W)
  (h1:WinK W b ⟨[], 5,false,some (.wcol q .u8 L)⟩) (h2:WinK W b2 ⟨[], 56,false,some (.wrows q2 shEv M)⟩) :
  xdI 3 #[winV b q z n c,.agg (entV e).toArray,winV b2 q2 z2 k d] W:=by
 obtain⟨el,fr,ho⟩:=xfS hL
 obtain⟨s',g1,g2⟩:=xhu awk_ok
 have hw : ∀p ∈ [(b,(⟨[], 5,false,some (.wcol q .u8 L)⟩:Blk)),(b2,⟨[], 56,false,some (.wrows q2 shEv M)⟩)],WinK W p.1 p.2:=by
  intro p hp
  simp only[List.mem_cons,List.mem_nil_iff,or_false]at hp
  rcases hp with rfl|rfl
  .exact h1
  .exact h2
 have fin : ∀ (args:List V) (t:T Bool),allSome (denV (ZV wc0).pv.val [(b,0),(b2,0)]) args=some [winV b q z n c,.agg (entV e).toArray,winV b2 q2 z2 k d]->t=awkT->
   (∃S,evF Tryz.prog (xU kq5) (⟨xG,[⟨1000009,0,.col .i64⟩],true⟩:Fu) Tryz.f3 args [some ⟨[], 5,false,some (.wcol q .u8 L)⟩,some ⟨[], 56,false,some (.wrows q2 shEv M)⟩]=Sum.tree S/\S=mkS Bool t fun r=>some (.c (.bool r),[some ⟨[], 5,false,some (.wcol q .u8 L)⟩,some ⟨[], 56,false,some (.wrows q2 shEv M)⟩]))->xdI 3 #[winV b q z n c,.agg (entV e).toArray,winV b2 q2 z2 k d] W:=fun args t hv ht ⟨S,hS,hS2⟩=>by
  subst hS2
  have aa:(evF Tryz.prog (xU kq5) (⟨xG,[⟨1000009,0,.col .i64⟩],true⟩:Fu) Tryz.f3 args [some ⟨[], 5,false,some (.wcol q .u8 L)⟩,some ⟨[], 56,false,some (.wrows q2 shEv M)⟩]).run (JB xfQ el fr).step ⟨[],[xbQ],0⟩=some ((.c (.bool true),[some ⟨[], 5,false,some (.wcol q .u8 L)⟩,some ⟨[], 56,false,some (.wrows q2 shEv M)⟩]),s'):=by
   rw[hS]
   refine Sum.run_tree (x:=true) ?_ rfl
   show t.run _ _=_
   rw[ht]
   exact g1
  exact xiI s_kTells.known (by kernel_rfl) Tryz.func3 (by kernel_rfl) (by kernel_rfl) (by kernel_rfl) (⟨xG,[⟨1000009,0,.col .i64⟩],true⟩:Fu) [(b,(⟨[], 5,false,some (.wcol q .u8 L)⟩:Blk)),(b2,⟨[], 56,false,some (.wrows q2 shEv M)⟩)] hw hv aa g2 ho
 have d2:den (ZV wc0).pv.val [(b,0),(b2,0)] (.slw 1 q2 z2 k d)=some (winV b2 q2 z2 k d):=rfl
 have d3:denV (ZV wc0).pv.val [(b,0),(b2,0)] (.agg e.cells)=some (.agg (entV e).toArray):=rfl
 by_cases h0:n=0
 .subst h0
  refine fin [.c (.slw 0 q z 0 c),.agg e.cells,.c (.slw 1 q2 z2 k d)] (tzT q z c e q2 z2 k d q L q2 M) ?_ (tz_eq hM fy uj) ⟨_,tzT_ev _ _ _ rfl,rfl⟩
  simp only[allSome,denV,d2]
  rfl
 .refine fin [.c (.slx 0 q 0 q n c),.agg e.cells,.c (.slw 1 q2 z2 k d)] (tlT q q n c e q2 z2 k d q L q2 M) ?_ (tl_eq hb hn ot hM fy uj) ⟨_,tlT_ev _ _ _ rfl,rfl⟩
  have d1:den (ZV wc0).pv.val [(b,0),(b2,0)] (.slx 0 q 0 q n c)=some (winV b q z n c):=by
   simp only[den,winV,dA h0]
   exact dB ⟨.inr rfl,ot⟩
  simp only[allSome,denV,d1,d2]
  rfl
#print axioms tells_run
end Go.Proofs.YtfagfflkgmcnpaaGreatDoor.Mx
