/- Part. -/
import Derived.Test.YtfagfflkgmcnpaaGreatDoorStM26
import Derived.Conc.DeferLaws
import Derived.Conc.FxBegin
import Derived.Conc.LoneCalls
set_option linter.all false
open Go.IntKind (i64 u64 u32 u8)
set_option maxRecDepth 1000000
namespace Go.Proofs.YtfagfflkgmcnpaaGreatDoor.Tx
open Go Go.Conc Lx Kx
variable{c:WC}{rv:List Value}{tf:Option (List C)}{s s':WS}{F:Fo}{g g':Goroutine}{w w':World}
noncomputable def bot:Frame :={(default:Frame)with fn:= Tryz.prog.funcs.size,defers :=[],mode :=.panicking [goexitEntry]}
def cloW(c:WC):Deferred :={target :=.fn (.func 85) #[.pointer (some ⟨c.db,0,none⟩)],args:= #[]}
section
variable{b:Frame}{a:Act}{ops:Array Oper}{i:Nat}{rest:List Nat}{o:Oper}{k:List Item}{cs:List Frame}{v:Value}
theorem xfw(ho:ops[i]? = some o)(hw:Region.wanted o (yielded ops a.tmps)=true)(hk:b.kind ≠ .early)
  (h : ∀w₁,RFw c F w F w₁ ->∃v w',(execOp a.eval o).run Tryz.prog w₁ = .ok (.value v) w'/\Dq c F w₁ w' (listed Tryz.prog b.fn a o w₁)/\QOk c F (G (b.at (a.put o.dst v) (.inRegion ops rest::k)) cs) w'):QOk c F (G (b.at a (.inRegion ops (i::rest)::k)) cs) w:=
 GW.go rfl fun w₁ h₁=>by
  obtain⟨v,w',h2,h3,h4⟩:=h w₁ h₁
  exact⟨_,_,_,stepG_value ho hw hk h2,h3,h4⟩
theorem jl(ho:ops[i]? = some o)(hw:Region.wanted o (yielded ops a.tmps)=true)(hk:b.kind ≠ .early)
  (h : ∀w₁,RFw c F w F w₁->(execOp a.eval o).run Tryz.prog w₁ = .ok (.value v) w₁/\ ∀e∈(execOp a.eval o).events Tryz.prog w₁ #[],EvWk c F w₁.heap.size e)
  (hn:QOk c F (G (b.at (a.put o.dst v) (.inRegion ops rest::k)) cs) w):QOk c F (G (b.at a (.inRegion ops (i::rest)::k)) cs) w:=
 xfw ho hw hk fun w₁ h₁=>⟨v,w₁,(h w₁ h₁).1,⟨kz (n:=0) fun e he=>(h w₁ h₁).2 e (Kx.mem_seen he),fun _=>rfl⟩,QOk.rely hn h₁⟩
theorem xic(ho:ops[i]? = some o)(hw:Region.wanted o (yielded ops a.tmps)=true)(hk:b.kind ≠ .early)
  (h : ∀w₁,RFw c F w F w₁ ->∃w',(execOp a.eval o).run Tryz.prog w₁ = .ok .skip w'/\Dq c F w₁ w' (listed Tryz.prog b.fn a o w₁)/\QOk c F (G (b.at (a.put o.dst undef) (.inRegion ops rest::k)) cs) w'):QOk c F (G (b.at a (.inRegion ops (i::rest)::k)) cs) w:=
 GW.go rfl fun w₁ h₁=>by
  obtain⟨w',h2,h3,h4⟩:=h w₁ h₁
  exact⟨_,_,_,stepG_none ho hw hk h2,h3,h4⟩
end
theorem jZ {P:Program} {main:Bool} {b:Frame} {a:Act} {todo:List Item} {cs:List Frame} {m:FrameMode} {f:FuncId} {fn:Func} {caps:Array Value} {ds:List Deferred} {cd:Code} (hm:m ≠ .run) (hd:a.defers = {target :=.fn (.func f) caps,args:= #[]}::ds) (hf:P.funcs[f]? = some fn) (be:(fn.name == "runtime.NumGoroutine")=false) (hb:fn.body=some cd) :
  stepG P main (G {b.at a todo with mode:=m} cs) w = .go (G ((baseD f).at {tmps:=caps++Array.replicate (fn.ntmps-caps.size) undef,defers :=[]} [.code cd]) ({b.at ⟨a.tmps,ds⟩ todo with mode:=m}::cs)) w #[]:=by
 have h1 : ¬fn.name = "runtime.NumGoroutine" :=by simpa using be
 rw[<- enter_atD caps hf hb]
 cases m<;>first|exact absurd rfl hm|simp[G,stepG,unwind,callDeferred,Frame.at,hd,invoke,callFunc,hf,h1,hb,GStep.after,seen_none]
theorem ZX{P:Program}{main:Bool}{b:Frame}{a:Act}{ops:Array Oper}{i:Nat}{rest:List Nat}{o:Oper}{k:List Item}{cs cs':List Frame}{v:Value}(ho:ops[i]? = some o)(hw:Region.wanted o (yielded ops a.tmps)=true)(hk:b.kind ≠ .early)(hr:(execOp a.eval o).run P w = .ok .recover w)(he:(execOp a.eval o).events P w #[] = #[])
  (ht:(tryRecover (b.at a (.inRegion ops (i::rest)::k)) cs=none/\v = .nilIface/\cs'=cs)\/tryRecover (b.at a (.inRegion ops (i::rest)::k)) cs=some (v,cs')) :
  stepG P main (G (b.at a (.inRegion ops (i::rest)::k)) cs) w = .go (G (b.at (a.put o.dst v) (.inRegion ops rest::k)) cs') w #[]:=by
 have am:(b.kind==CallKind.early)=false:=by simpa using hk
 have gn:(b.at a (.inRegion ops (i::rest)::k)).finish v=b.at (a.put o.dst v) (.inRegion ops rest::k):=by rw[Frame.finish_at,ho];rfl
 rw[stepG_oper ho hw,<- gn]
 rcases ht with⟨h1,rfl,rfl⟩|h1
 .simp only[Frame.at]at h1
  simp[stepG.apply,hr,he,G,Frame.at,am,GStep.after,seen_none,h1]
 .simp only[Frame.at]at h1
  simp[stepG.apply,hr,he,G,Frame.at,am,GStep.after,seen_none,h1]
theorem VY {b1 b0:Frame} {a1 a0:Act} {fo:List Item} {m:FrameMode} (h1:b1=baseD 85) (h0:b0=baseD 58) (Ae:a1.defers = []) (ny:a0.defers = []) (hm:m = .returning\/ ∃v,m = .panicking [{v,recovered:=true}]) :
  QuitsD Tryz.prog 4 0 (G {b1.at a1 []with mode :=.returning} [{b0.at a0 fo with mode:=m},bot]):=by
 subst h1 h0
 refine QuitsD.ctl (g':=G {(baseD 58).at a0 fo with mode :=.returning} [bot]) rfl (fun w =>?_) ?_
 .rcases hm with rfl|⟨v,rfl⟩<;>simp[G,stepG,unwind,doReturn,results,Frame.at,baseD,Ae,Tryz.func85,Tryz.f85,seen,GStep.after]
 refine QuitsD.ctl (g':=G bot []) rfl (fun w =>?_) ?_
 .simp[G,stepG,unwind,doReturn,results,Frame.at,bot,baseD,ny,Tryz.func58,Tryz.f58,seen,GStep.after,goexitEntry]
 refine QuitsD.ctl (g' :={G bot []with status :=.finished}) rfl (fun w =>?_) (.inl ⟨rfl,rfl⟩)
 simp[G,stepG,unwind,bot,goexitEntry,Frame.catches]
 rfl
set_option maxHeartbeats 1000000 in
theorem xid (hR:RepW c s F w) (ht:s.told=tf) (fin:s.orc = []) (hres : ∃pre,WorkAt c pre rv w) {b0:Frame} {a0:Act} {fo:List Item} (ff:b0=baseD 58) (ny:a0.defers = []) :
  WOk c rv tf s F (G ((baseD 85).at {tmps:= #[.pointer (some ⟨c.db,0,none⟩)]++Array.replicate 12 undef,defers :=[]} [.code (Tryz.f85.body.getD .skip)]) [{b0.at a0 fo with mode :=.returning},bot]) w:=by
 simp only[Tryz.f85,Option.getD_some]
 refine xm (fun _=>stepG_seq) rfl ?_
 refine xm (fun _=>stepG_region) rfl ?_
 simp only[List.size_toArray,List.length_cons,List.length_nil,Nat.reduceAdd,Nat.zero_add,List.range,List.range.loop]
 refine xm (fun w₄=>ZX rfl rfl (by decide) (v :=.nilIface) (cs' :={b0.at a0 fo with mode :=.returning} :: [bot]) (by simp[go_sem,execOp,Act.eval]) (by simp[go_sem,execOp,Act.eval]) (.inl ⟨rfl,rfl,rfl⟩)) rfl ?_
 walk_nrm
 refine vc (v :=.nilIface) rfl rfl ?_
 walk_nrm
 refine xm (fun _=>stepG_region_end) rfl ?_
 refine xm (fun _=>stepG_seq) rfl ?_
 refine xm (fun _=>stepG_seq) rfl ?_
 refine xm (fun _=>stepG_region) rfl ?_
 simp only[List.size_toArray,List.length_cons,List.length_nil,Nat.reduceAdd,Nat.zero_add,List.range,List.range.loop]
 refine vc (v :=.nilIface) rfl rfl ?_
 walk_nrm
 refine jW (v :=.tuple #[.agg #[],.bool false]) rfl rfl (by decide) (fun w₂ h₂=>⟨by simp[go_sem,execOp,Act.eval,Instr.typeAssert,Tryz.underlying158],by simp[go_sem,execOp,Act.eval,Instr.typeAssert,Tryz.underlying158]⟩) ?_
 walk_nrm
 refine vc (v :=.tuple #[.agg #[],.bool false]) rfl rfl ?_
 walk_nrm
 refine vc (v :=.agg #[]) rfl rfl ?_
 walk_nrm
 refine vc (v :=.bool false) rfl rfl ?_
 walk_nrm
 refine XZ rfl rfl (by decide) fun w₁ h₁=>⟨.pointer (some ⟨w₁.heap.size,0,none⟩),w₁.alloc (.cells #[] 158),by simp[go_sem,execOp,Act.eval],?_,?_⟩
 .refine Zj fun ev he =>?_
  simp[go_sem,execOp,Act.eval]at he
 have hR₁:=hR.rely h₁
 have hR₂:RepW c s F (w₁.alloc (.cells #[] 158)):=hR₁.stable fun b hb=>alloc_old (hR₁.lt b hb)
 have hres₂ : ∃pre,WorkAt c pre rv (w₁.alloc (.cells #[] 158)):=by
  obtain⟨pre,x,y⟩:=hres
  refine⟨pre,x,?_⟩
  rw[alloc_old (hR₁.lt _ hR.wb),h₁.2.1.block _ (hR.lt _ hR.wb) fun z=>hR.wt z.1]
  exact y
 have hx:(w₁.alloc (.cells #[] 158)).heap[w₁.heap.size]? = some (.cells #[] 158 (0,0)):=heap_alloc_new _ _
 have hN:w₁.heap.size<(w₁.alloc (.cells #[] 158)).heap.size:=by rw[World.size_alloc];omega
 generalize w₁.alloc (.cells #[] 158)=W at hR₂ hres₂ hx hN |-
 generalize w₁.heap.size=N at hx hN |-
 clear hR₁ h₁ hR hres
 walk_nrm
 refine VW rfl rfl (by decide) fun w₂ h₂=>⟨w₂,by simp[go_sem,execOp,Act.eval],kz (n:=0) (fun ev he=>by
  have:=Kx.mem_seen he
  simp[go_sem,execOp,Act.eval]at this),?_⟩
 walk_nrm
 have hR:=hR₂.rely h₂
 have hres : ∃pre,WorkAt c pre rv w₂:=by
  obtain⟨pre,x,y⟩:=hres₂
  exact⟨pre,x,by rw[h₂.2.1.block _ (hR₂.lt _ hR₂.wb) fun z=>hR₂.wt z.1];exact y⟩
 clear hR₂ hres₂ h₂ hx hN
 refine vc (v :=.bool false) rfl rfl ?_
 walk_nrm
 refine xm (fun _=>stepG_region_end) rfl ?_
 refine xm (fun _=>stepG_seq) rfl ?_
 refine xm (fun _=>stepG_region) rfl ?_
 simp only[List.size_toArray,List.length_cons,List.length_nil,Nat.reduceAdd,Nat.zero_add,List.range,List.range.loop]
 refine vc (v :=.bool false) rfl rfl ?_
 walk_nrm
 refine xm (fun _=>stepG_region_end) rfl ?_
 refine xm (fun _=>stepG_cond (t:=false) rfl) rfl ?_
 simp only[if_false,Bool.false_eq_true,reduceIte]
 refine xm (fun _=>stepG_skip) rfl ?_
 refine xm (fun _=>stepG_region) rfl ?_
 simp only[List.size_toArray,List.length_cons,List.length_nil,Nat.reduceAdd,Nat.zero_add,List.range,List.range.loop]
 refine jW (v :=.chan (some c.done)) rfl rfl (by decide) (fun w₃ h₃ =>?_) ?_
 .have hp:=(hR.rely h₃).dn.at_
  have hc:=xk (off:=0) hp
  have hz:=xg (off:=0) hp
  simp only[List.getElem?_toArray,List.getElem?_cons_zero]at hc
  exact⟨by simp[go_sem,execOp,Act.eval,hc,hz],fun ev he=>by
   simp[go_sem,execOp,Act.eval,hc,hz]at he
   subst he
   exact ki ((hR.rely h₃).lt _ hR.dn.hF) hR.dn.t⟩
 walk_nrm
 refine vc (v :=.nilIface) rfl rfl ?_
 walk_nrm
 refine WOk.done rfl hR ht fin (fun w₃ h₃=>⟨rfl,_,.tuple #[],#[],6,by
  rw[stepG_comm rfl rfl (by decide) (cases:= #[scase c.done .nilIface (.tuple #[])]) (blocking:=true) (shape :=.send) (w':=w₃) (by simp[go_sem,execOp,Act.eval,scase]),listed_none (by simp[go_sem,execOp,Act.eval])],by simp,?_⟩) hres
 rw[served_fr,Frame.finish_at]
 refine QuitsD.ctl rfl (fun w=>stepG_region_end) ?_
 refine QuitsD.ctl rfl (fun w=>stepG_end) ?_
 exact VY rfl ff rfl ny (.inl rfl)
set_option maxHeartbeats 1000000 in
theorem xgS (hR:RepW c s F w) {b0:Frame} {a0:Act} {fo:List Item} (ff:b0=baseD 58) (ny:a0.defers = []) :
  QOk c F (G ((baseD 85).at {tmps:= #[.pointer (some ⟨c.db,0,none⟩)]++Array.replicate 12 undef,defers :=[]} [.code (Tryz.f85.body.getD .skip)]) [{b0.at a0 fo with mode :=.panicking wE},bot]) w:=by
 simp only[Tryz.f85,Option.getD_some]
 refine yJ (fun _=>stepG_seq) rfl ?_
 refine yJ (fun _=>stepG_region) rfl ?_
 simp only[List.size_toArray,List.length_cons,List.length_nil,Nat.reduceAdd,Nat.zero_add,List.range,List.range.loop]
 refine yJ (fun w₄=>ZX rfl rfl (by decide) (v :=.iface 158 (.agg #[])) (cs' :={b0.at a0 fo with mode :=.panicking [{v :=.iface 158 (.agg #[]),recovered:=true}]} :: [bot]) (by simp[go_sem,execOp,Act.eval]) (by simp[go_sem,execOp,Act.eval]) (.inr rfl)) rfl ?_
 walk_nrm
 refine jl (v :=.iface 158 (.agg #[])) rfl rfl (by decide) (fun w₂ h₂=>⟨by simp[go_sem,execOp,Act.eval],by simp[go_sem,execOp,Act.eval]⟩) ?_
 walk_nrm
 refine yJ (fun _=>stepG_region_end) rfl ?_
 refine yJ (fun _=>stepG_seq) rfl ?_
 refine yJ (fun _=>stepG_seq) rfl ?_
 refine yJ (fun _=>stepG_region) rfl ?_
 simp only[List.size_toArray,List.length_cons,List.length_nil,Nat.reduceAdd,Nat.zero_add,List.range,List.range.loop]
 refine jl (v :=.iface 158 (.agg #[])) rfl rfl (by decide) (fun w₂ h₂=>⟨by simp[go_sem,execOp,Act.eval],by simp[go_sem,execOp,Act.eval]⟩) ?_
 walk_nrm
 refine jl (v :=.tuple #[.agg #[],.bool true]) rfl rfl (by decide) (fun w₂ h₂=>⟨by simp[go_sem,execOp,Act.eval,Instr.typeAssert,Tryz.underlying158],by simp[go_sem,execOp,Act.eval,Instr.typeAssert,Tryz.underlying158]⟩) ?_
 walk_nrm
 refine jl (v :=.tuple #[.agg #[],.bool true]) rfl rfl (by decide) (fun w₂ h₂=>⟨by simp[go_sem,execOp,Act.eval],by simp[go_sem,execOp,Act.eval]⟩) ?_
 walk_nrm
 refine jl (v :=.agg #[]) rfl rfl (by decide) (fun w₂ h₂=>⟨by simp[go_sem,execOp,Act.eval],by simp[go_sem,execOp,Act.eval]⟩) ?_
 walk_nrm
 refine jl (v :=.bool true) rfl rfl (by decide) (fun w₂ h₂=>⟨by simp[go_sem,execOp,Act.eval],by simp[go_sem,execOp,Act.eval]⟩) ?_
 walk_nrm
 refine xfw rfl rfl (by decide) fun w₁ h₁=>⟨.pointer (some ⟨w₁.heap.size,0,none⟩),w₁.alloc (.cells #[] 158),by simp[go_sem,execOp,Act.eval],?_,?_⟩
 .refine⟨Zj fun ev he =>?_,fun hl=>alloc_old hl⟩
  simp[go_sem,execOp,Act.eval]at he
 have hR₁:=hR.rely h₁
 have hR₂:RepW c s F (w₁.alloc (.cells #[] 158)):=hR₁.stable fun b hb=>alloc_old (hR₁.lt b hb)
 have hx:(w₁.alloc (.cells #[] 158)).heap[w₁.heap.size]? = some (.cells #[] 158 (0,0)):=heap_alloc_new _ _
 have hN:w₁.heap.size<(w₁.alloc (.cells #[] 158)).heap.size:=by rw[World.size_alloc];omega
 generalize w₁.alloc (.cells #[] 158)=W at hR₂ hx hN |-
 generalize w₁.heap.size=N at hx hN |-
 clear hR₁ h₁ hR
 walk_nrm
 refine xic rfl rfl (by decide) fun w₂ h₂=>⟨w₂,by simp[go_sem,execOp,Act.eval],⟨kz (n:=0) (fun ev he=>by
  have:=Kx.mem_seen he
  simp[go_sem,execOp,Act.eval]at this),fun _=>rfl⟩,?_⟩
 walk_nrm
 have hR:=hR₂.rely h₂
 clear hR₂ h₂ hx hN
 refine jl (v :=.bool true) rfl rfl (by decide) (fun w₂ h₂=>⟨by simp[go_sem,execOp,Act.eval],by simp[go_sem,execOp,Act.eval]⟩) ?_
 walk_nrm
 refine yJ (fun _=>stepG_region_end) rfl ?_
 refine yJ (fun _=>stepG_seq) rfl ?_
 refine yJ (fun _=>stepG_region) rfl ?_
 simp only[List.size_toArray,List.length_cons,List.length_nil,Nat.reduceAdd,Nat.zero_add,List.range,List.range.loop]
 refine jl (v :=.bool true) rfl rfl (by decide) (fun w₂ h₂=>⟨by simp[go_sem,execOp,Act.eval],by simp[go_sem,execOp,Act.eval]⟩) ?_
 walk_nrm
 refine yJ (fun _=>stepG_region_end) rfl ?_
 refine yJ (fun _=>stepG_cond (t:=true) rfl) rfl ?_
 simp only[if_true]
 refine yJ (fun _=>stepG_region) rfl ?_
 simp only[List.size_toArray,List.length_cons,List.length_nil,Nat.reduceAdd,Nat.zero_add,List.range,List.range.loop]
 refine jl (v :=.nilIface) rfl rfl (by decide) (fun w₂ h₂=>⟨by simp[go_sem,execOp,Act.eval],by simp[go_sem,execOp,Act.eval]⟩) ?_
 walk_nrm
 refine yJ (fun _=>stepG_region_end) rfl ?_
 refine yJ (fun _=>stepG_region) rfl ?_
 simp only[List.size_toArray,List.length_cons,List.length_nil,Nat.reduceAdd,Nat.zero_add,List.range,List.range.loop]
 refine jl (v :=.chan (some c.done)) rfl rfl (by decide) (fun w₃ h₃ =>?_) ?_
 .have hp:=(hR.rely h₃).dn.at_
  have hc:=xk (off:=0) hp
  have hz:=xg (off:=0) hp
  simp only[List.getElem?_toArray,List.getElem?_cons_zero]at hc
  exact⟨by simp[go_sem,execOp,Act.eval,hc,hz],fun ev he=>by
   simp[go_sem,execOp,Act.eval,hc,hz]at he
   subst he
   exact ki ((hR.rely h₃).lt _ hR.dn.hF) hR.dn.t⟩
 walk_nrm
 refine jl (v :=.nilIface) rfl rfl (by decide) (fun w₂ h₂=>⟨by simp[go_sem,execOp,Act.eval],by simp[go_sem,execOp,Act.eval]⟩) ?_
 walk_nrm
 refine GW.stop (fun w₃ h₃=>⟨rfl,_,.tuple #[],#[],6,by
  rw[stepG_comm rfl rfl (by decide) (cases:= #[scase c.done .nilIface (.tuple #[])]) (blocking:=true) (shape :=.send) (w':=w₃) (by simp[go_sem,execOp,Act.eval,scase]),listed_none (by simp[go_sem,execOp,Act.eval])],by simp,?_⟩)
 rw[served_fr,Frame.finish_at]
 refine QuitsD.ctl rfl (fun w=>stepG_region_end) ?_
 refine QuitsD.ctl rfl (fun w=>stepG_end) ?_
 exact VY rfl ff rfl ny (.inr ⟨_,rfl⟩)
end Go.Proofs.YtfagfflkgmcnpaaGreatDoor.Tx
namespace Go.Proofs.YtfagfflkgmcnpaaGreatDoor.Tx
open Go Go.Conc Lx Kx
theorem xgT{P:Program}{w:World}{es:Array Event}{a:Addr}{v u:Value}(hv:Lx.One v)(hu:w.cell? a=some u)(hz:w.frozen? a=false):(store a v .plain).events P w es=es.push ⟨.cell a,true,false⟩:=by
 have h1:v.oneCell'=true:=by
  cases v with
  | agg c=>exact absurd rfl (hv.1 c)
  | tuple c=>exact absurd rfl (hv.2 c)
  | _=>rfl
 rw[events_store P w es a v .plain h1,hu,hz]
 rfl
theorem Xr(P:Program)(r o:Nat)(el:TypeId) : ∀ (vs:List Value) (i:Nat) (w:World) (cs:List Value) (es:Array Event),w.heap[r]? = some (.cells cs.toArray el (0,0))->(∀v∈vs,Lx.One v)->o+i+vs.length<=cs.length->
  ∀e∈(storeCells ⟨r,o,none⟩ vs i).events P w es,e∈es\/ ∃k,e=⟨.cell ⟨r,k,none⟩,true,false⟩
 | [],i,w,cs,es,hw,h1,hl,e,he =>.inl (by simpa[storeCells]using he)
 | v::vs,i,w,cs,es,hw,h1,hl,e,he=>by
  simp only[List.length_cons]at hl
  have ha:(⟨r,o,none⟩:Addr).add i=⟨r,o+i,none⟩:=by
   unfold Addr.add
   split
   .rename_i hi;subst hi;rfl
   .rfl
  have hu:w.cell? ⟨r,o+i,none⟩=some (cs[o+i]'(by omega)):=by rw[xk hw];simp
  have C7:w.frozen? ⟨r,o+i,none⟩=false:=xg hw
  have hv:=h1 v (by simp)
  have az:=vK P r o el [v] i w cs hw (fun x hx=>by rcases List.mem_singleton.1 hx with rfl;exact hv) (by simp;omega)
  simp only[storeCells,ha,Sem.run_bind,Result.andThen_ok]at az
  have hr:(store ⟨r,o+i,none⟩ v).run P w = .ok () (w.setCell ⟨r,o+i,none⟩ v):=by
   cases v with
   | agg c=>exact absurd rfl (hv.1 c)
   | tuple c=>exact absurd rfl (hv.2 c)
   | _=>simp only[store,Sem.run,hu,C7];rfl
  obtain⟨ao,hc⟩:=Array.getElem?_eq_some_iff.1 hw
  have Er:(w.setCell ⟨r,o+i,none⟩ v).heap[r]? = some (.cells (cs.set (o+i) v).toArray el (0,0)):=by
   rw[setCell_eq hw]
   simp[ao]
  simp only[storeCells,ha,Sem.events_bind,hr,Result.evThen]at he
  rcases Xr P r o el vs (i+1) _ _ _ Er (fun x hx=>h1 x (by simp[hx])) (by simp;omega) e he with h|h
  .rw[xgT hv hu C7]at h
   rcases Array.mem_push.1 h with h|h
   .exact .inl h
   .exact .inr ⟨_,h⟩
  .exact .inr h
theorem xbx{α:Type} : ∀ (r v:List α),r.length=v.length->put r 0 v=v
 | [],[],_=>rfl
 | x::r,y::v,h=>by
  simp only[put,List.set_cons_zero]
  rw[jJ,xbx r v (by simpa using h)]
 | [],_::_,h=>by simp at h
 | _::_,[],h=>by simp at h
theorem xev{c:WC}{pre r rv:List Value}{w:World}(h:WorkAt c pre r w)(hl:rv.length=11)(h1 : ∀v∈rv,Lx.One v) : ∃w',(Instr.storeAt 54 (.pointer (some ⟨c.wb,3,none⟩)) (.agg rv.toArray)).run Tryz.prog w = .ok () w'/\WorkAt c pre rv w'/\(∀x,x≠c.wb->w'.heap[x]? = w.heap[x]?)/\w'.heap.size=w.heap.size/\w'.os=w.os/\w'.tape=w.tape/\w'.output=w.output/\
  ∀e∈(Instr.storeAt 54 (.pointer (some ⟨c.wb,3,none⟩)) (.agg rv.toArray)).events Tryz.prog w #[],∃k,e=⟨.cell ⟨c.wb,k,none⟩,true,false⟩:=by
 obtain⟨⟨hp,hr⟩,ho⟩:=h
 have ao:=(Array.getElem?_eq_some_iff.1 ho).1
 have aa:=vK Tryz.prog c.wb 3 78 rv 0 w (pre++r) ho h1 (by simp;omega)
 have rl:put (pre++r) 3 rv=pre++rv:=by
  match pre,hp with
  | [x,y,z],_=>
   show put (x::y::z::r) 3 rv=x::y::z::rv
   rw[jJ,jJ,jJ,xbx r rv (by omega)]
 rw[rl]at aa
 have ai:rv.toArray.size=11:=by simp[hl]
 have hz:(sizeOf 54).run Tryz.prog w = .ok 11 w:=by kernel_rfl
 have Ej:(sizeOf 54).events Tryz.prog w #[] = #[]:=by kernel_rfl
 refine⟨{w with heap:=w.heap.setIfInBounds c.wb (.cells (pre++rv).toArray 78)},by simp only[Instr.storeAt,Instr.sureAddr,storeVar,Sem.run_bind,Sem.run_pure,Result.andThen_ok,hz,ne_eq,Value.cells,ai,not_true_eq_false,if_false];exact aa,⟨⟨hp,hl⟩,by simp[ao]⟩,fun x hx=>Array.getElem?_setIfInBounds_ne (fun h=>hx h.symm),by simp,rfl,rfl,rfl,fun e he =>?_⟩
 simp only[Instr.storeAt,Instr.sureAddr,storeVar,Sem.run_bind,Sem.run_pure,Sem.events_bind,Sem.events_pure,Result.evThen,Result.andThen_ok,hz,Ej,ne_eq,Value.cells,ai,not_true_eq_false,if_false]at he
 rcases Xr Tryz.prog c.wb 3 78 rv 0 w (pre++r) #[] ho h1 (by simp;omega) e he with h|h
 .simp at h
 .exact h
noncomputable def bgOps:Array Oper:=match Tryz.f47.body with
 | some (.region _ ops _)=>ops
 | _=> #[]
theorem xfx : Tryz.f47.body=some (.region 0 bgOps true):=rfl
def allB(f:Bool->Bool):Bool:=f true&&f false
theorem vj{f:Bool->Bool}(h:allB f=true)(b:Bool):f b=true:=by
 simp only[allB,dM]at h
 cases b
 .exact h.2
 .exact h.1
def qG(i:Nat)(l0 l1 l2 l3 l4 l5 l6 l7 l8 l9 l10:Bool):Bool:=match i with
 | 0=> !l0
 | 1=> !l1
 | 2=> !l2
 | 3=> !l3&&l2
 | 4=> !l4&&l3
 | 5=> !l5&&l4
 | 6=> !l6
 | 7=> !l7&&l1&&l5&&l6
 | 8=> !l8&&l0&&l7
 | 9=> !l9&&l8&&l7
 | 10=> !l10&&l9&&l7
 | _=>false
noncomputable def bgChk(l0 l1 l2 l3 l4 l5 l6 l7 l8 l9 l10:Bool):Bool:=
 let r:=Region.ready .any bgOps #[l0,l1,l2,l3,l4,l5,l6,l7,l8,l9,l10]
 (!r.isEmpty||(l0&&l1&&l2&&l3&&l4&&l5&&l6&&l7&&l8&&l9&&l10))&&r.all fun i=>qG i l0 l1 l2 l3 l4 l5 l6 l7 l8 l9 l10
theorem bg_chk:(allB fun l0=>allB fun l1=>allB fun l2=>allB fun l3=>allB fun l4=>allB fun l5=>allB fun l6=>allB fun l7=>allB fun l8=>allB fun l9=>allB fun l10=>bgChk l0 l1 l2 l3 l4 l5 l6 l7 l8 l9 l10)=true:=by kernel_rfl
theorem xie(l0 l1 l2 l3 l4 l5 l6 l7 l8 l9 l10:Bool):bgChk l0 l1 l2 l3 l4 l5 l6 l7 l8 l9 l10=true:=vj (vj (vj (vj (vj (vj (vj (vj (vj (vj (vj bg_chk l0) l1) l2) l3) l4) l5) l6) l7) l8) l9) l10
end Go.Proofs.YtfagfflkgmcnpaaGreatDoor.Tx
namespace Go.Proofs.YtfagfflkgmcnpaaGreatDoor.Tx
open Go Go.Conc Lx Kx
theorem bg_o0 : ∃o,bgOps[0]? = some o/\o.dst=some 5/\o.guard=none/\o.op = .load 73 (.tmp 3):=⟨_,rfl,rfl,rfl,rfl⟩
theorem bg_o1 : ∃o,bgOps[1]? = some o/\o.dst=some 6/\o.guard=none/\o.op = .move (.tmp 0):=⟨_,rfl,rfl,rfl,rfl⟩
theorem bg_o2 : ∃o,bgOps[2]? = some o/\o.dst=some 7/\o.guard=none/\o.op = .load 42 (.tmp 1):=⟨_,rfl,rfl,rfl,rfl⟩
theorem bg_o3 : ∃o,bgOps[3]? = some o/\o.dst=some 8/\o.guard=none/\o.op = .nilCheck (.tmp 7):=⟨_,rfl,rfl,rfl,rfl⟩
theorem bg_o4 : ∃o,bgOps[4]? = some o/\o.dst=some 9/\o.guard=none/\o.op = .fieldAddr 69 (.tmp 8) 0:=⟨_,rfl,rfl,rfl,rfl⟩
theorem bg_o5 : ∃o,bgOps[5]? = some o/\o.dst=some 10/\o.guard=none/\o.op = .load 60 (.tmp 9):=⟨_,rfl,rfl,rfl,rfl⟩
theorem bg_o6 : ∃o,bgOps[6]? = some o/\o.dst=some 11/\o.guard=none/\o.op = .load 24 (.tmp 2):=⟨_,rfl,rfl,rfl,rfl⟩
theorem bg_o7 : ∃o,bgOps[7]? = some o/\o.dst=some 12/\o.guard=none/\o.op = .call {callee :=.value (.func 48),args:= #[.tmp 6,.tmp 10,.tmp 11],argTypes:= #[102, 60, 24]}:=⟨_,rfl,rfl,rfl,rfl⟩
theorem bg_o8 : ∃o,bgOps[8]? = some o/\o.dst=some 13/\o.guard=none/\o.op = .nilCheck (.tmp 5):=⟨_,rfl,rfl,rfl,rfl⟩
theorem bg_o9 : ∃o,bgOps[9]? = some o/\o.dst=some 14/\o.guard=none/\o.op = .fieldAddr 78 (.tmp 13) 3:=⟨_,rfl,rfl,rfl,rfl⟩
theorem bg_o10 : ∃o,bgOps[10]? = some o/\o.dst=none/\o.guard=none/\o.op = .store 54 (.tmp 14) (.tmp 12):=⟨_,rfl,rfl,rfl,rfl⟩
def bgT(c:WC)(p gv cv:Value)(mc cc mb:Nat)(rv:List Value)(l0 l1 l2 l3 l4 l5 l6 l7 l8 l9 l10:Bool):Array Value:=
 #[p,.pointer (some ⟨mc,0,none⟩),.pointer (some ⟨cc,0,none⟩),.pointer (some ⟨c.wc,0,none⟩),undef,bif l0 then .pointer (some ⟨c.wb,0,none⟩)else undef,bif l1 then p else undef,bif l2 then .pointer (some ⟨mb,0,none⟩)else undef,bif l3 then .pointer (some ⟨mb,0,none⟩)else undef,bif l4 then .pointer (some ⟨mb,0,none⟩)else undef,bif l5 then gv else undef,bif l6 then cv else undef,bif l7 then .agg rv.toArray else undef,bif l8 then .pointer (some ⟨c.wb,0,none⟩)else undef,bif l9 then .pointer (some ⟨c.wb,3,none⟩)else undef]
def bgN(l0 l1 l2 l3 l4 l5 l6 l7 l8 l9 l10:Bool):Nat:=(bif l0 then 0 else 1)+(bif l1 then 0 else 1)+(bif l2 then 0 else 1)+(bif l3 then 0 else 1)+(bif l4 then 0 else 1)+(bif l5 then 0 else 1)+(bif l6 then 0 else 1)+(bif l7 then 0 else 1)+(bif l8 then 0 else 1)+(bif l9 then 0 else 1)+(bif l10 then 0 else 1)
variable{c:WC}{rv:List Value}{s s' s0 s1:WS}{F F0:Fo}{w w' w0:World}{p gv cv:Value}{mc cc mb:Nat}
def Reads(c:WC)(F0:Fo)(w0:World)(t:TypeId)(a v:Value):Prop :=∀F₁ w₁,RFw c F0 w0 F₁ w₁->(Instr.loadAt t a).run Tryz.prog w₁ = .ok v w₁/\ ∀e∈(Instr.loadAt t a).events Tryz.prog w₁ #[],EvWk c F₁ w₁.heap.size e
structure BgAt(c:WC)(F0:Fo)(w0:World)(s0 s1:WS)(rv:List Value)(p gv cv:Value)(mc cc mb:Nat):Prop where
 hm:Reads c F0 w0 42 (.pointer (some ⟨mc,0,none⟩)) (.pointer (some ⟨mb,0,none⟩))
 hg:Reads c F0 w0 60 (.pointer (some ⟨mb,0,none⟩)) gv
 hc:Reads c F0 w0 24 (.pointer (some ⟨cc,0,none⟩)) cv
 call : ∀F₁ w₁,RepW c s0 F₁ w₁->KCalls (JW c) 48 #[p,gv,cv] s0 F₁ w₁ s1 fun r F' w'=>r = .agg rv.toArray/\RepW c s1 F' w'
 len:rv.length=11
 one : ∀v∈rv,Lx.One v
 fin:s1.orc = []
structure BgPh(c:WC)(F0:Fo)(w0:World)(s0 s1:WS)(rv:List Value)(l2 l3 l4 l5 l6 l7 l10:Bool)(s:WS)(F:Fo)(w:World):Prop where
 rep:RepW c s F w
 c3:l3=true->l2=true
 c4:l4=true->l3=true
 c5:l5=true->l4=true
 c10:l10=true->l7=true
 ph:(l7=false/\s=s0/\RFw c F0 w0 F w)\/(l7=true/\(l5=true/\l6=true)/\s=s1/\(l10=true ->∃pre,WorkAt c pre rv w))
theorem BgPh.rely{l2 l3 l4 l5 l6 l7 l10:Bool}(h:BgPh c F0 w0 s0 s1 rv l2 l3 l4 l5 l6 l7 l10 s F w){F₁:Fo}{w₁:World}(r:RFw c F w F₁ w₁):BgPh c F0 w0 s0 s1 rv l2 l3 l4 l5 l6 l7 l10 s F₁ w₁:=by
 refine⟨h.rep.rely r,h.c3,h.c4,h.c5,h.c10,h.ph.imp (fun⟨a,b,d⟩=>⟨a,b,d.trans r⟩) fun⟨a,b,e,d⟩=>⟨a,b,e,fun e =>?_⟩⟩
 obtain⟨pre,x,y⟩:=d e
 obtain⟨rfl,k,_⟩:=r
 exact⟨pre,x,by rw[k.block _ (h.rep.lt _ h.rep.wb) fun z=>h.rep.wt z.1];exact y⟩
theorem xfy : ¬ Tryz.f48.name = "runtime.NumGoroutine" :=by
 have:(Tryz.f48.name == "runtime.NumGoroutine")=false:=by kernel_rfl
 simpa using this
theorem xfz : ¬ Tryz.f48.body=none:=by
 have : Tryz.f48.body.isSome=true:=rfl
 intro h;rw[h]at this;cases this
def bgQ(c:WC)(s1:WS)(rv:List Value):wN WS:=fun e a s F w=>e = .normal/\s=s1/\RepW c s1 F w/\(∃pre,WorkAt c pre rv w)/\a.defers = []
theorem RepW.worked(h:RepW c s F w)(k:Keeps (fun b=>b=c.wb) w w')(hw : ∃pre r,WorkAt c pre r w'/\(s.orc ≠ []->r=c.r0)):RepW c s F w':=by
 obtain⟨told,h1,h2⟩:=h.obj
 refine⟨fun b hb=>Nat.lt_of_lt_of_le (h.lt b hb) k.size,h.tb,h.pb,h.wb,h.ne,h.nw,h.wt,h.tok,h.ml,h.cap.same id (k.block _ (h.lt _ h.cap.hF) h.cap.wbn),h.dn.same id (k.block _ (h.lt _ h.dn.hF) h.dn.wbn),hw,told,by rw[k.block _ h.lt_pb h.nw];exact h1,?_⟩
 cases hs:s.told with
 | none=>rw[hs]at h2;exact h2
 | some r=>
  rw[hs]at h2
  obtain⟨x,vs,a1,a2,a3,a4,a5,a6,a7⟩:=h2
  exact⟨x,vs,a1,a2,a3,a4,a5,a6,by rw[k.block _ (h.lt _ a2.1) a5];exact a7⟩
theorem kQ{d:Nat}{o:Oper}{a:Act}{K:Act->WS->Fo->World->Prop}{v:Value}{fn:FuncId}(hd:o.dst=some d)(bj:o.guard=none)
  (aa : ∀F₁ w₁,RFw c F w F₁ w₁->(execOp a.eval o).run Tryz.prog w₁ = .ok (.value v) w₁/\ ∀e∈(execOp a.eval o).events Tryz.prog w₁ #[],EvWk c F₁ w₁.heap.size e) (hK : ∀F₁ w₁,RFw c F w F₁ w₁->K (a.put (some d) v) s F₁ w₁):KOper (JW c) fn bgOps o K a s F w:=
 jS (by simp[Region.wanted,bj]) fun F₁ w₁ h₁=>⟨.value v,w₁,v,(aa F₁ w₁ h₁).1,.inl rfl,kz (n:=0) fun e he=>(aa F₁ w₁ h₁).2 e (Kx.mem_seen he),by rw[hd];exact hK F₁ w₁ h₁⟩
set_option maxHeartbeats 4000000 in
theorem kC{fn:FuncId}(bc:(JW c).bad fn=false)(B:BgAt c F0 w0 s0 s1 rv p gv cv mc cc mb) : ∀ (n:Nat) (l0 l1 l2 l3 l4 l5 l6 l7 l8 l9 l10:Bool) (s:WS) (F:Fo) (w:World),bgN l0 l1 l2 l3 l4 l5 l6 l7 l8 l9 l10=n->BgPh c F0 w0 s0 s1 rv l2 l3 l4 l5 l6 l7 l10 s F w->
  KAny (JW c) fn .any bgOps (bgQ c s1 rv) n #[l0,l1,l2,l3,l4,l5,l6,l7,l8,l9,l10] ⟨bgT c p gv cv mc cc mb rv l0 l1 l2 l3 l4 l5 l6 l7 l8 l9 l10,[]⟩ s F w
 | 0,l0,l1,l2,l3,l4,l5,l6,l7,l8,l9,l10,s,F,w,hn,hI=>by
  have dm:(l0&&l1&&l2&&l3&&l4&&l5&&l6&&l7&&l8&&l9&&l10)=true:=by
   revert hn
   cases l0<;>cases l1<;>cases l2<;>cases l3<;>cases l4<;>cases l5<;>cases l6<;>cases l7<;>cases l8<;>cases l9<;>cases l10<;>simp[bgN]
  simp only[dM]at dm
  obtain⟨⟨⟨⟨⟨⟨⟨⟨⟨⟨rfl,rfl⟩,rfl⟩,rfl⟩,rfl⟩,rfl⟩,rfl⟩,rfl⟩,rfl⟩,rfl⟩,rfl⟩:=dm
  obtain⟨hR,_,_,_,_,⟨h7,_⟩|⟨_,_,rfl,h⟩⟩:=hI
  .cases h7
  .exact⟨by kernel_rfl,rfl,rfl,hR,h rfl,rfl⟩
 | n+1,l0,l1,l2,l3,l4,l5,l6,l7,l8,l9,l10,s,F,w,hn,hI=>by
  have hc:=xie l0 l1 l2 l3 l4 l5 l6 l7 l8 l9 l10
  simp only[bgChk,dM]at hc
  obtain⟨De,nz⟩:=hc
  refine⟨fun he =>?_,fun i hi =>?_⟩
  .rw[he]at De
   simp only[List.isEmpty_nil,Bool.not_true,Bool.false_or]at De
   simp only[dM]at De
   obtain⟨⟨⟨⟨⟨⟨⟨⟨⟨⟨rfl,rfl⟩,rfl⟩,rfl⟩,rfl⟩,rfl⟩,rfl⟩,rfl⟩,rfl⟩,rfl⟩,rfl⟩:=De
   simp[bgN]at hn
  have hd:=List.all_eq_true.1 nz i hi
  clear De nz hi
  have ao:i<11:=by
   by_cases h:i<11
   .exact h
   .exfalso
    match i,h with
    | i+11,_=>cases hd
  have nl:i=0\/i=1\/i=2\/i=3\/i=4\/i=5\/i=6\/i=7\/i=8\/i=9\/i=10:=by omega
  clear ao
  rcases nl with rfl|rfl|rfl|rfl|rfl|rfl|rfl|rfl|rfl|rfl|rfl
  ·-- 0
   simp only[qG,dM,Bool.not_eq_true']at hd
   obtain rfl:=hd
   obtain⟨o,ho,bp,bj,ab⟩:=bg_o0
   refine⟨o,ho,kQ (v :=.pointer (some ⟨c.wb,0,none⟩)) bp bj (fun F₁ w₁ h₁=>by
    have hp:=(hI.rep.rely h₁).cap.at_
    have cq:=xk (off:=0) hp
    have hz:=xg (off:=0) hp
    simp only[List.getElem?_toArray,List.getElem?_cons_zero]at cq
    exact⟨by simp[go_sem,execOp,Act.eval,ab,bgT,cq,hz],fun ev he=>by
     simp[go_sem,execOp,Act.eval,ab,bgT,cq,hz]at he
     subst he
     exact ki ((hI.rep.rely h₁).lt _ (hI.rep.rely h₁).cap.hF) hI.rep.cap.t⟩) fun F₁ w₁ h₁ =>?_⟩
   have key:=kC bc B n true l1 l2 l3 l4 l5 l6 l7 l8 l9 l10 s F₁ w₁ (by simp[bgN]at hn |-;omega) (by
    obtain⟨a1,a2,a3,a4,a5,a6⟩:=hI.rely h₁
    exact⟨a1,by simp_all,by simp_all,by simp_all,by simp_all,by simp_all⟩)
   exact key
  ·-- 1
   simp only[qG,dM,Bool.not_eq_true']at hd
   obtain rfl:=hd
   obtain⟨o,ho,bp,bj,ab⟩:=bg_o1
   refine⟨o,ho,kQ (v:=p) bp bj (fun F₁ w₁ h₁=>by
    exact⟨by simp[go_sem,execOp,Act.eval,ab,bgT],by simp[go_sem,execOp,Act.eval,ab,bgT]⟩) fun F₁ w₁ h₁ =>?_⟩
   have key:=kC bc B n l0 true l2 l3 l4 l5 l6 l7 l8 l9 l10 s F₁ w₁ (by simp[bgN]at hn |-;omega) (by
    obtain⟨a1,a2,a3,a4,a5,a6⟩:=hI.rely h₁
    exact⟨a1,by simp_all,by simp_all,by simp_all,by simp_all,by simp_all⟩)
   exact key
  ·-- 2
   simp only[qG,dM,Bool.not_eq_true']at hd
   obtain rfl:=hd
   obtain⟨o,ho,bp,bj,ab⟩:=bg_o2
   refine⟨o,ho,kQ (v :=.pointer (some ⟨mb,0,none⟩)) bp bj (fun F₁ w₁ h₁=>by
    rcases hI.ph with⟨h7,rfl,hr⟩|⟨_,⟨h5,h6⟩,_⟩
    .obtain⟨h1,h2⟩:=B.hm F₁ w₁ (hr.trans h₁)
     exact⟨by simp[execOp,Act.eval,ab,bgT,h1],fun ev he=>by
      refine h2 ev ?_
      simpa[execOp,Act.eval,ab,bgT,h1]using he⟩
    .exfalso
     have e3:=hI.c3
     have e4:=hI.c4
     have e5:=hI.c5
     simp_all) fun F₁ w₁ h₁ =>?_⟩
   have key:=kC bc B n l0 l1 true l3 l4 l5 l6 l7 l8 l9 l10 s F₁ w₁ (by simp[bgN]at hn |-;omega) (by
    obtain⟨a1,a2,a3,a4,a5,a6⟩:=hI.rely h₁
    exact⟨a1,by simp_all,by simp_all,by simp_all,by simp_all,by simp_all⟩)
   exact key
  ·-- 3
   simp only[qG,dM,Bool.not_eq_true']at hd
   obtain⟨rfl,rfl⟩:=hd
   obtain⟨o,ho,bp,bj,ab⟩:=bg_o3
   refine⟨o,ho,kQ (v :=.pointer (some ⟨mb,0,none⟩)) bp bj (fun F₁ w₁ h₁=>by
    exact⟨by simp[go_sem,execOp,Act.eval,ab,bgT],by simp[go_sem,execOp,Act.eval,ab,bgT]⟩) fun F₁ w₁ h₁ =>?_⟩
   have key:=kC bc B n l0 l1 true true l4 l5 l6 l7 l8 l9 l10 s F₁ w₁ (by simp[bgN]at hn |-;omega) (by
    obtain⟨a1,a2,a3,a4,a5,a6⟩:=hI.rely h₁
    exact⟨a1,by simp_all,by simp_all,by simp_all,by simp_all,by simp_all⟩)
   exact key
  ·-- 4
   simp only[qG,dM,Bool.not_eq_true']at hd
   obtain⟨rfl,rfl⟩:=hd
   obtain⟨o,ho,bp,bj,ab⟩:=bg_o4
   refine⟨o,ho,kQ (v :=.pointer (some ⟨mb,0,none⟩)) bp bj (fun F₁ w₁ h₁=>by
    exact⟨by simp[go_sem,execOp,Act.eval,ab,bgT],by simp[go_sem,execOp,Act.eval,ab,bgT]⟩) fun F₁ w₁ h₁ =>?_⟩
   have key:=kC bc B n l0 l1 l2 true true l5 l6 l7 l8 l9 l10 s F₁ w₁ (by simp[bgN]at hn |-;omega) (by
    obtain⟨a1,a2,a3,a4,a5,a6⟩:=hI.rely h₁
    exact⟨a1,by simp_all,by simp_all,by simp_all,by simp_all,by simp_all⟩)
   exact key
  ·-- 5
   simp only[qG,dM,Bool.not_eq_true']at hd
   obtain⟨rfl,rfl⟩:=hd
   obtain⟨o,ho,bp,bj,ab⟩:=bg_o5
   refine⟨o,ho,kQ (v:=gv) bp bj (fun F₁ w₁ h₁=>by
    rcases hI.ph with⟨h7,rfl,hr⟩|⟨_,⟨h5,h6⟩,_⟩
    .obtain⟨h1,h2⟩:=B.hg F₁ w₁ (hr.trans h₁)
     exact⟨by simp[execOp,Act.eval,ab,bgT,h1],fun ev he=>by
      refine h2 ev ?_
      simpa[execOp,Act.eval,ab,bgT,h1]using he⟩
    .exfalso
     have e3:=hI.c3
     have e4:=hI.c4
     have e5:=hI.c5
     simp_all) fun F₁ w₁ h₁ =>?_⟩
   have key:=kC bc B n l0 l1 l2 l3 true true l6 l7 l8 l9 l10 s F₁ w₁ (by simp[bgN]at hn |-;omega) (by
    obtain⟨a1,a2,a3,a4,a5,a6⟩:=hI.rely h₁
    exact⟨a1,by simp_all,by simp_all,by simp_all,by simp_all,by simp_all⟩)
   exact key
  ·-- 6
   simp only[qG,dM,Bool.not_eq_true']at hd
   obtain rfl:=hd
   obtain⟨o,ho,bp,bj,ab⟩:=bg_o6
   refine⟨o,ho,kQ (v:=cv) bp bj (fun F₁ w₁ h₁=>by
    rcases hI.ph with⟨h7,rfl,hr⟩|⟨_,⟨h5,h6⟩,_⟩
    .obtain⟨h1,h2⟩:=B.hc F₁ w₁ (hr.trans h₁)
     exact⟨by simp[execOp,Act.eval,ab,bgT,h1],fun ev he=>by
      refine h2 ev ?_
      simpa[execOp,Act.eval,ab,bgT,h1]using he⟩
    .exfalso
     have e3:=hI.c3
     have e4:=hI.c4
     have e5:=hI.c5
     simp_all) fun F₁ w₁ h₁ =>?_⟩
   have key:=kC bc B n l0 l1 l2 l3 l4 l5 true l7 l8 l9 l10 s F₁ w₁ (by simp[bgN]at hn |-;omega) (by
    obtain⟨a1,a2,a3,a4,a5,a6⟩:=hI.rely h₁
    exact⟨a1,by simp_all,by simp_all,by simp_all,by simp_all,by simp_all⟩)
   exact key
  ·-- 7
   simp only[qG,dM,Bool.not_eq_true']at hd
   obtain⟨⟨⟨rfl,rfl⟩,rfl⟩,rfl⟩:=hd
   obtain⟨o,ho,bp,bj,ab⟩:=bg_o7
   obtain⟨hR,c3,c4,c5,c10,⟨_,hs,hr⟩|⟨h7,_⟩⟩:=hI
   rotate_left
   .cases h7
   refine⟨o,ho,jz rfl (s':=s1) (by simp[Region.wanted,bj]) fun F₁ w₁ h₁=>⟨48,#[p,gv,cv],by simp[go_sem,execOp,Act.eval,ab,bgT,resolve,Deferred.ofValue,invoke,callFunc,Tryz.func48,xfy,xfz],?_,fun O caller cs hp hk=>hs▸B.call F₁ w₁ (hs▸hR.rely h₁) O caller cs hp fun gw F' w' ⟨e,hR'⟩=>hk gw F' w' ?_⟩⟩
   .refine kz (n:=0) fun ev he =>?_
    have:=Kx.mem_seen he
    simp[go_sem,execOp,Act.eval,ab,bgT,resolve,Deferred.ofValue,invoke,callFunc,Tryz.func48,xfy,xfz]at this
   .subst e
    rw[bp]
    have key:=kC bc B n l0 true l2 l3 l4 true true true l8 l9 l10 s1 F' w' (by simp[bgN]at hn |-;omega) ⟨hR',by simp_all,by simp_all,by simp_all,by simp_all,.inr ⟨rfl,⟨rfl,rfl⟩,rfl,fun e=>absurd (c10 e) (by simp)⟩⟩
    exact key
  ·-- 8
   simp only[qG,dM,Bool.not_eq_true']at hd
   obtain⟨⟨rfl,rfl⟩,rfl⟩:=hd
   obtain⟨o,ho,bp,bj,ab⟩:=bg_o8
   refine⟨o,ho,kQ (v :=.pointer (some ⟨c.wb,0,none⟩)) bp bj (fun F₁ w₁ h₁=>by
    exact⟨by simp[go_sem,execOp,Act.eval,ab,bgT],by simp[go_sem,execOp,Act.eval,ab,bgT]⟩) fun F₁ w₁ h₁ =>?_⟩
   have key:=kC bc B n true l1 l2 l3 l4 l5 l6 true true l9 l10 s F₁ w₁ (by simp[bgN]at hn |-;omega) (by
    obtain⟨a1,a2,a3,a4,a5,a6⟩:=hI.rely h₁
    exact⟨a1,by simp_all,by simp_all,by simp_all,by simp_all,by simp_all⟩)
   exact key
  ·-- 9
   simp only[qG,dM,Bool.not_eq_true']at hd
   obtain⟨⟨rfl,rfl⟩,rfl⟩:=hd
   obtain⟨o,ho,bp,bj,ab⟩:=bg_o9
   refine⟨o,ho,kQ (v :=.pointer (some ⟨c.wb,3,none⟩)) bp bj (fun F₁ w₁ h₁=>by
    exact⟨by simp[go_sem,execOp,Act.eval,ab,bgT],by simp[go_sem,execOp,Act.eval,ab,bgT]⟩) fun F₁ w₁ h₁ =>?_⟩
   have key:=kC bc B n l0 l1 l2 l3 l4 l5 l6 true true true l10 s F₁ w₁ (by simp[bgN]at hn |-;omega) (by
    obtain⟨a1,a2,a3,a4,a5,a6⟩:=hI.rely h₁
    exact⟨a1,by simp_all,by simp_all,by simp_all,by simp_all,by simp_all⟩)
   exact key
  ·-- 10
   simp only[qG,dM,Bool.not_eq_true']at hd
   obtain⟨⟨rfl,rfl⟩,rfl⟩:=hd
   obtain⟨o,ho,bp,bj,ab⟩:=bg_o10
   obtain⟨hR,c3,c4,c5,c10,⟨h7,_⟩|⟨_,Lj,hs,_⟩⟩:=hI
   .cases h7
   refine⟨o,ho,jS (by simp[Region.wanted,bj]) fun F₁ w₁ h₁ =>?_⟩
   have hR₁:=hR.rely h₁
   obtain⟨pre,r,hw,_⟩:=hR₁.wk
   obtain⟨w',hr,f6,da,ai,Jw,Ay,Jv,bt⟩:=xev hw B.len B.one
   have hk:Keeps (fun b=>b=c.wb) w₁ w':=⟨Jw,Ay,Jv,Nat.le_of_eq ai.symm,fun b _ hb=>da b hb⟩
   have hRw:RepW c s F₁ w':=hR₁.worked hk ⟨pre,rv,f6,fun z=>absurd (by rw[hs];exact B.fin) z⟩
   refine⟨.skip,w',undef,by simp[execOp,Act.eval,ab,bgT,hr],.inr ⟨rfl,rfl⟩,fun _ lu _=>⟨hk.mono fun b hb =>.inr (.inr hb),fun⟨n,told,h⟩=>⟨n,told,by rw[da _ hR.nw];exact h⟩,fun fg r' h'=>⟨rv,?_⟩,fun ev he =>?_⟩,?_⟩
   .have e1:=h'.2
    rw[hw.2]at e1
    simp only[oI,Obj.cells.injEq,and_true]at e1
    have e2:pre++r=fg++r':=by simpa using congrArg Array.toList e1
    have e3:=(List.append_inj e2 (hw.1.1.trans h'.1.1.symm)).1
    rw[<- e3];exact f6
   .have:=Kx.mem_seen he
    have h3 : ∃k,ev=⟨.cell ⟨c.wb,k,none⟩,true,false⟩:=bt ev (by simpa[execOp,Act.eval,ab,bgT,hr]using this)
    obtain⟨k,rfl⟩:=h3
    exact⟨by rw[ai];exact hR₁.lt _ hR₁.wb,hR.wt,fun _ =>.inr (.inr rfl)⟩
   .rw[bp]
    have key:=kC bc B n l0 l1 l2 l3 l4 l5 l6 true l8 true true s F₁ w' (by simp[bgN]at hn |-;omega) ⟨hRw,by simp_all,by simp_all,by simp_all,by simp_all,.inr ⟨rfl,Lj,hs,fun _=>⟨pre,f6⟩⟩⟩
    exact key
end Go.Proofs.YtfagfflkgmcnpaaGreatDoor.Tx
namespace Go.Proofs.YtfagfflkgmcnpaaGreatDoor.Tx
open Go Go.Conc Lx Kx
variable{c:WC}{rv:List Value}{tf:Option (List C)}{s s' s0 s1:WS}{F F0:Fo}{g g':Goroutine}{w w' w0:World}
def Yb(c:WC)(mc cc:Nat):Value :=.func (.func 47) #[] #[.pointer (some ⟨mc,0,none⟩),.pointer (some ⟨cc,0,none⟩),.pointer (some ⟨c.wc,0,none⟩)]
def cloV(c:WC):Value :=.func (.func 85) #[] #[.pointer (some ⟨c.db,0,none⟩)]
def rootT(c:WC)(mc cc:Nat):Array Value:= #[Yb c mc cc,.pointer (some ⟨c.pb,0,none⟩),.chan (some c.done),undef,undef,.pointer (some ⟨c.db,0,none⟩),cloV c,Yb c mc cc,.pointer (some ⟨c.pb,0,none⟩),pvW c,undef]
noncomputable def xby:Array Oper:=match Tryz.f58.body with
 | some (.seq _ (.seq _ (.region _ ops _)))=>ops
 | _=> #[]
noncomputable def ZY(c:WC)(mc cc:Nat):Frame:=(baseD 58).at ⟨rootT c mc cc,[cloW c]⟩ [.inRegion xby [3]]
theorem xgU(mc cc:Nat)(v:Value) : ∃T,(ZY c mc cc).finish v=(baseD 58).at ⟨T,[cloW c]⟩ [.inRegion xby []]:=by
 have h3 : ∃o,xby[3]? = some o:=⟨_,rfl⟩
 obtain⟨o,ho⟩:=h3
 refine⟨(Act.put ⟨rootT c mc cc,[cloW c]⟩ o.dst v).tmps,?_⟩
 unfold ZY
 rw[Frame.finish_at,ho]
 simp only[Option.bind_some]
 generalize o.dst=d
 cases d<;>rfl
theorem root_q(mc cc:Nat):xaz c (ZY c mc cc) [bot]:=by
 refine⟨by simp[ZY,Frame.at],rfl,fun s F w hR =>?_⟩
 refine yJ (fun w₁=>jZ (m :=.panicking wE) (by simp) rfl Tryz.func85 (by kernel_rfl) (cd:= Tryz.f85.body.getD .skip) rfl) rfl ?_
 exact xgS hR rfl rfl
theorem xgV(mc cc:Nat)(v:Value)(hR:RepW c s F w)(ht:s.told=tf)(fin:s.orc = [])(hres : ∃pre,WorkAt c pre rv w):WOk c rv tf s F (G ((ZY c mc cc).finish v) [bot]) w:=by
 obtain⟨T,e⟩:=xgU (c:=c) mc cc v
 rw[e]
 refine xm (fun _=>stepG_region_end) rfl ?_
 refine xm (fun _=>stepG_end) rfl ?_
 refine xm (fun w₁=>jZ (m :=.returning) (by simp) rfl Tryz.func85 (by kernel_rfl) (cd:= Tryz.f85.body.getD .skip) rfl) rfl ?_
 exact xid hR ht fin hres rfl rfl
theorem body_ok(mc cc mb:Nat){gv cv:Value}(hR:RepW c s0 F w)(B : ∀F₁ w₁,RFw c F w F₁ w₁->BgAt c F₁ {w₁ with drawn:=w₁.drawn+1} s0 s1 rv (pvW c) gv cv mc cc mb)(ht:s1.told=tf) :
  WOk c rv tf s0 F (G (Frame.enter Tryz.prog 47 #[pvW c,.pointer (some ⟨mc,0,none⟩),.pointer (some ⟨cc,0,none⟩),.pointer (some ⟨c.wc,0,none⟩)] .normal) [ZY c mc cc,bot]) w:=by
 rw[enter_at _ Tryz.func47 xfx]
 have hk:KWp (JW c) 47 (.region 0 bgOps true) (bgQ c s1 rv) ⟨#[pvW c,.pointer (some ⟨mc,0,none⟩),.pointer (some ⟨cc,0,none⟩),.pointer (some ⟨c.wc,0,none⟩)]++Array.replicate 11 undef,[]⟩ s0 F w:=by
  refine wO (by kernel_rfl) fun F₁ w₁ h₁ =>?_
  have ai:bgOps.size=11:=by kernel_rfl
  rw[ai]
  have key:=kC (c:=c) (fn:= 47) rfl (B F₁ w₁ h₁) 11 false false false false false false false false false false false s0 F₁ {w₁ with drawn:=w₁.drawn+1} rfl ⟨(hR.rely h₁).stable fun b hb=>rfl,by simp,by simp,by simp,by simp,.inl ⟨rfl,rfl,RFw.refl _ _⟩⟩
  exact key
 refine hk (OW c rv tf (ZY c mc cc) [bot] (root_q mc cc)) (base 47) [] [ZY c mc cc,bot] ⟨rfl,rfl⟩ rfl (fun e a' s' F' w' hq =>?_) ⟨[],rfl,by simp⟩
 obtain⟨rfl,rfl,hR',hres,oc⟩:=hq
 show OkW c rv tf (ZY c mc cc) [bot] s' F' ((base 47).at a' []) [ZY c mc cc,bot] w'
 intro _
 obtain⟨T,ds⟩:=a'
 cases oc
 refine xm (fun _=>stepG_end) rfl ?_
 refine xm (fun w₁=>stepG_leave rfl rfl Tryz.func47 (results_none rfl _ _ _) (events_results_none rfl _ _)) rfl ?_
 exact xgV mc cc _ hR' ht (B F w (RFw.refl F w)).fin hres
structure BornAt(c:WC)(F:Fo)(w:World):Prop where
 lt : ∀b,F b->b<w.heap.size
 tb:F c.tb
 pb:F c.pb
 wb:F c.wb
 ne:c.pb≠c.tb
 nw:c.pb≠c.wb
 wt:c.wb≠c.tb
 tok:F.A.tok 0=some c.pb
 ml : ∀b y,F.A.cap b=some y->F b
 cap:PinAt c c.wc (capO c) F w
 wk : ∃pre,WorkAt c pre c.r0 w
 obj:w.heap[c.pb]? = some (waitsO c 0 (.pointer none))
 db:c.db=w.heap.size
def ReadX(x:Nat)(w:World)(t:TypeId)(a v:Value):Prop :=∀w₁,w₁.heap[x]? = w.heap[x]? ->(Instr.loadAt t a).run Tryz.prog w₁ = .ok v w₁/\ ∀e∈(Instr.loadAt t a).events Tryz.prog w₁ #[],∃k,e=⟨.cell ⟨x,k,none⟩,false,false⟩
theorem ReadX.reads{x:Nat}{t:TypeId}{a v:Value}(h:ReadX x w t a v){F₀:Fo}{w₀:World}(hF:F₀ x)(hx:x≠c.tb)(ao : ∀b,F₀ b->b<w₀.heap.size)(hs:w₀.heap[x]? = w.heap[x]?):Reads c F₀ w₀ t a v:=fun F₁ w₁ h₁=>by
 obtain⟨rfl,k,z⟩:=h₁
 have e:w₁.heap[x]? = w.heap[x]? :=by rw[k.block x (ao x hF) (fun y=>hx y.1)];exact hs
 refine⟨(h w₁ e).1,fun ev he =>?_⟩
 obtain⟨k,rfl⟩:=(h w₁ e).2 ev he
 exact ki (by rw[z];exact ao x hF) hx
def wQ(c:WC)(mc cc:Nat):Deferred :={target :=.fn (.func 58) #[],args:= #[Yb c mc cc,.pointer (some ⟨c.pb,0,none⟩),.chan (some c.done)]}
theorem xfA : ¬ Tryz.f47.name = "runtime.NumGoroutine" :=by
 have:(Tryz.f47.name == "runtime.NumGoroutine")=false:=by kernel_rfl
 simpa using this
theorem bg_ne : ¬ Tryz.f47.body=none:=by
 rw[xfx];simp
theorem xbz{P:Program}{main:Bool}{b:Frame}{a:Act}{ops:Array Oper}{i:Nat}{rest:List Nat}{o:Oper}{k:List Item}{cs:List Frame}{d:Deferred}(ho:ops[i]? = some o)(hw:Region.wanted o (yielded ops a.tmps)=true)(hk:b.kind ≠ .early)(hr:(execOp a.eval o).run P w = .ok (.defer d) w)(he:(execOp a.eval o).events P w #[] = #[]) :
  stepG P main (G (b.at a (.inRegion ops (i::rest)::k)) cs) w = .go (G (b.at (Act.put ⟨a.tmps,d::a.defers⟩ o.dst undef) (.inRegion ops rest::k)) cs) w #[]:=by
 have gn:(b.at ⟨a.tmps,d::a.defers⟩ (.inRegion ops (i::rest)::k)).finish undef=b.at (Act.put ⟨a.tmps,d::a.defers⟩ o.dst undef) (.inRegion ops rest::k):=by rw[Frame.finish_at,ho];rfl
 have am:(b.kind==CallKind.early)=false:=by simpa using hk
 rw[stepG_oper ho hw,<- gn]
 simp[stepG.apply,hr,he,G,Frame.at,am,GStep.after,seen_none]
theorem xgW(c:WC)(mc cc:Nat)(w:World):stepG Tryz.prog false (born Tryz.prog (wQ c mc cc)) w =
  .go (G ((baseD 58).at {tmps:= #[Yb c mc cc,.pointer (some ⟨c.pb,0,none⟩),.chan (some c.done)]++Array.replicate 8 undef,defers :=[]} [.code (Tryz.f58.body.getD .skip)]) [bot]) w:=by
 simp[born,wQ,stepG,unwind,callDeferred,invoke,callFunc,Tryz.func58,Tryz.f58,seen,GStep.after,G,Frame.enter,Frame.at,baseD,bot]
set_option maxHeartbeats 1000000 in
theorem born_ok(mc cc mb:Nat){gv cv:Value}(hB:BornAt c F w)(hs:s0.steps=0/\s0.told=none)(hF:F mc/\F cc/\F mb)(hx:mc≠c.tb/\cc≠c.tb/\mb≠c.tb)
  (hm:ReadX mc w 42 (.pointer (some ⟨mc,0,none⟩)) (.pointer (some ⟨mb,0,none⟩))) (hg:ReadX mb w 60 (.pointer (some ⟨mb,0,none⟩)) gv) (hc:ReadX cc w 24 (.pointer (some ⟨cc,0,none⟩)) cv)
  (call : ∀F₁ w₁,RepW c s0 F₁ w₁->KCalls (JW c) 48 #[pvW c,gv,cv] s0 F₁ w₁ s1 fun r F' w'=>r = .agg rv.toArray/\RepW c s1 F' w') (len:rv.length=11) (one : ∀v∈rv,Lx.One v) (fin:s1.orc = []) (ht:s1.told=tf) :
  WOk c rv tf s0 F (born Tryz.prog (wQ c mc cc)) w:=by
 refine xm (fun w₁=>xgW c mc cc w₁) rfl ?_
 simp only[Tryz.f58,Option.getD_some]
 refine xm (fun _=>stepG_seq) rfl ?_
 refine xm (fun _=>stepG_region) rfl ?_
 simp only[List.size_toArray,List.length_cons,List.length_nil,Nat.reduceAdd,Nat.zero_add,List.range,List.range.loop]
 refine XZ rfl rfl (by decide) fun w₁ h₁=>⟨.pointer (some ⟨w₁.heap.size,0,none⟩),w₁.alloc (.cells #[.chan (some c.done)] 156),by simp[execOp,Act.eval,Instr.box,newVar,newRow,Value.cells],?_,?_⟩
 .refine Zj fun ev he =>?_
  simp[execOp,Act.eval,Instr.box,newVar,newRow]at he
 have hN:w₁.heap.size=c.db:=by rw[hB.db];exact h₁.2.2
 have hdbF : ∀b,F b->b≠c.db:=fun b hb e=>by have:=hB.lt b hb;rw[e,hB.db]at this;omega
 have hold : ∀b,F b->b≠c.tb->(w₁.alloc (.cells #[.chan (some c.done)] 156)).heap[b]? = w.heap[b]? :=fun b hb ht=>by
  rw[alloc_old (by rw[h₁.2.2];exact hB.lt b hb),h₁.2.1.block b (hB.lt b hb) fun z=>ht z.1]
 have ai:(w₁.alloc (.cells #[.chan (some c.done)] 156)).heap.size=w₁.heap.size+1:=World.size_alloc _ _
 have cr:(w₁.alloc (.cells #[.chan (some c.done)] 156)).heap[w₁.heap.size]? = some (.cells #[.chan (some c.done)] 156 (0,0)):=heap_alloc_new _ _
 rw[hN]at cr
 rw[hN]at ai
 have hR:RepW c s0 ⟨fun b=>F b\/b=c.db,F.A⟩ (w₁.alloc (.cells #[.chan (some c.done)] 156)):=by
  refine⟨fun b hb =>?_,.inl hB.tb,.inl hB.pb,.inl hB.wb,hB.ne,hB.nw,hB.wt,hB.tok,fun b y h =>.inl (hB.ml b y h),hB.cap.same .inl (hold _ hB.cap.hF hB.cap.t),⟨.inr rfl,(hdbF _ hB.tb).symm,(hdbF _ hB.pb).symm,(hdbF _ hB.wb).symm,cr⟩,?_,.pointer none,?_,?_⟩
  .rcases hb with hb|hb
   .have:=hB.lt b hb;rw[ai];rw[hB.db];omega
   .rw[ai,hb];omega
  .obtain⟨pre,y⟩:=hB.wk
   exact⟨pre,c.r0,⟨y.1,by rw[hold _ hB.wb hB.wt];exact y.2⟩,fun _=>rfl⟩
  .rw[hold _ hB.pb hB.ne,hs.1];exact hB.obj
  .rw[hs.2];rfl
 refine .give (F':=⟨fun b=>F b\/b=c.db,F.A⟩) (fun b hb =>.inl hb) (fun b hb=>hb.imp id fun h=>by rw[ai,h];omega) rfl ?_
 have m1:=fun(F₁:Fo) (w₂:World) (h₂:RFw c ⟨fun b=>F b\/b=c.db,F.A⟩ (w₁.alloc (.cells #[.chan (some c.done)] 156)) F₁ w₂)=>(⟨by
   obtain⟨rfl,k,z⟩:=h₂
   exact hm.reads (.inl hF.1) hx.1 (fun b hb=>by rw[show({w₂ with drawn:=w₂.drawn+1}:World).heap=w₂.heap from rfl,z];exact hR.lt b hb) (by rw[show({w₂ with drawn:=w₂.drawn+1}:World).heap=w₂.heap from rfl,k.block _ (hR.lt _ (.inl hF.1)) fun y=>hx.1 y.1];exact hold _ hF.1 hx.1),by
   obtain⟨rfl,k,z⟩:=h₂
   exact hg.reads (.inl hF.2.2) hx.2.2 (fun b hb=>by rw[show({w₂ with drawn:=w₂.drawn+1}:World).heap=w₂.heap from rfl,z];exact hR.lt b hb) (by rw[show({w₂ with drawn:=w₂.drawn+1}:World).heap=w₂.heap from rfl,k.block _ (hR.lt _ (.inl hF.2.2)) fun y=>hx.2.2 y.1];exact hold _ hF.2.2 hx.2.2),by
   obtain⟨rfl,k,z⟩:=h₂
   exact hc.reads (.inl hF.2.1) hx.2.1 (fun b hb=>by rw[show({w₂ with drawn:=w₂.drawn+1}:World).heap=w₂.heap from rfl,z];exact hR.lt b hb) (by rw[show({w₂ with drawn:=w₂.drawn+1}:World).heap=w₂.heap from rfl,k.block _ (hR.lt _ (.inl hF.2.1)) fun y=>hx.2.1 y.1];exact hold _ hF.2.1 hx.2.1),call,len,one,fin⟩:BgAt c F₁ {w₂ with drawn:=w₂.drawn+1} s0 s1 rv (pvW c) gv cv mc cc mb)
 rw[hN]
 generalize w₁.alloc (.cells #[.chan (some c.done)] 156)=W at hR m1 |-
 clear cr hold ai hN h₁ hB
 walk_nrm
 refine xm (fun _=>stepG_region_end) rfl ?_
 refine xm (fun _=>stepG_seq) rfl ?_
 refine xm (fun _=>stepG_region) rfl ?_
 simp only[List.size_toArray,List.length_cons,List.length_nil,Nat.reduceAdd,Nat.zero_add,List.range,List.range.loop]
 refine jW (v:=cloV c) rfl rfl (by decide) (fun w₂ h₂=>⟨by simp[go_sem,execOp,Act.eval,cloV,Instr.makeFunc],by simp[go_sem,execOp,Act.eval,cloV,Instr.makeFunc]⟩) ?_
 walk_nrm
 refine xm (fun w₂=>xbz rfl rfl (by decide) (d:=cloW c) (by simp[go_sem,execOp,Act.eval,resolve,Deferred.ofValue,cloV,cloW]) (by simp[go_sem,execOp,Act.eval,resolve,Deferred.ofValue,cloV])) rfl ?_
 walk_nrm
 refine xm (fun _=>stepG_region_end) rfl ?_
 refine xm (fun _=>stepG_region) rfl ?_
 simp only[List.size_toArray,List.length_cons,List.length_nil,Nat.reduceAdd,Nat.zero_add,List.range,List.range.loop]
 refine vc (v:=Yb c mc cc) rfl rfl ?_
 walk_nrm
 refine vc (v :=.pointer (some ⟨c.pb,0,none⟩)) rfl rfl ?_
 walk_nrm
 refine jW (v:=pvW c) rfl rfl (by decide) (fun w₂ h₂=>⟨by simp[go_sem,execOp,Act.eval,pvW,Instr.makeInterface,Tryz.underlying114],by simp[go_sem,execOp,Act.eval,pvW,Instr.makeInterface,Tryz.underlying114]⟩) ?_
 walk_nrm
 refine WOk.go rfl fun w₂ h₂=>⟨_,_,_,stepG_enter rfl rfl (by decide) (f:= 47) (args:= #[pvW c,.pointer (some ⟨mc,0,none⟩),.pointer (some ⟨cc,0,none⟩),.pointer (some ⟨c.wc,0,none⟩)]) (w':=w₂) (by simp[go_sem,execOp,Act.eval,resolve,Deferred.ofValue,Yb,invoke,callFunc,Tryz.func47,xfA,bg_ne]),?_,?_⟩
 .refine kz (n:=0) fun ev he =>?_
  have:=Kx.mem_seen he
  simp[go_sem,execOp,Act.eval,resolve,Deferred.ofValue,Yb,invoke,callFunc,Tryz.func47,xfA,bg_ne]at this
 have key:=(body_ok (tf:=tf) mc cc mb hR m1 ht).rely h₂
 exact key
end Go.Proofs.YtfagfflkgmcnpaaGreatDoor.Tx
namespace Go.Proofs.YtfagfflkgmcnpaaGreatDoor.Tx
open Go Go.Conc Lx Kx
variable{c:WC}{rv:List Value}{tf:Option (List C)}{s:WS}{F Fs:Fo}{g:Goroutine}{w w':World}
def M0t(tb:Nat)(l:Loc):Prop:=match l with
 | .cell a=>a.block=tb
 | _=>False
def RJt(tb:Nat)(w w₁:World):Prop:=Keeps (fun b=>b=tb) w w₁/\w₁.heap.size=w.heap.size
def CapIs(x n:Nat)(w:World):Prop :=∃buf cl a b tm,w.heap[x]? = some (.chan n buf cl a b tm)
structure RHt(c:WC)(Fs:Fo)(w w':World):Prop where
 keeps:Keeps (fun b=> ¬Fs b\/b=c.pb\/b=c.wb\/b=c.done) w w'
 still:StillAt c w->StillAt c w'
 work : ∀pre r,WorkAt c pre r w ->∃r',WorkAt c pre r' w'
 cap:CapIs c.done 1 w->CapIs c.done 1 w'
theorem RHt.trans{w'':World}(h:RHt c Fs w w')(h':RHt c Fs w' w''):RHt c Fs w w'':=
 ⟨h.keeps.trans h'.keeps fun b hb =>.inl hb,fun x=>h'.still (h.still x),fun pre r x=>by obtain⟨r',y⟩:=h.work pre r x;exact h'.work pre r' y,fun x=>h'.cap (h.cap x)⟩
theorem RHt.at_(w:World)(d:Nat):RHt c Fs w (w.at d):=⟨⟨rfl,rfl,rfl,dJ _,fun _ _ _=>rfl⟩,id,fun pre r x=>⟨r,x⟩,fun x=>x⟩
theorem RJt.trans{tb:Nat}{a b d:World}(h:RJt tb a b)(h':RJt tb b d):RJt tb a d:=⟨h.1.trans h'.1 fun x hx =>.inl hx,h'.2.trans h.2⟩
theorem RJt.at_{tb:Nat}(w:World)(d:Nat):RJt tb w (w.at d):=⟨⟨rfl,rfl,rfl,dJ _,fun _ _ _=>rfl⟩,rfl⟩
theorem RJt.refl{tb:Nat}(w:World):RJt tb w w:=⟨Keeps.refl _ w,rfl⟩
theorem RJt.rf{w₁:World}(h:RJt c.tb w w₁)(hF:F c.tb):RFw c F w F w₁:=⟨rfl,h.1.mono fun b hb=>⟨hb,hb▸hF⟩,h.2⟩
structure Round(c:WC)(Fs:Fo)(K:World->Prop)(Inb:Nat->Option Seat)(Still:Loc->Prop):Prop where
 tb:Fs c.tb
 pb:Fs c.pb
 wb:Fs c.wb
 keep : ∀w w',RHt c Fs w w'->K w->K w'
 chans : ∀i s c',Inb i=some s->s.has c'->Fs c'/\c'≠c.pb/\c'≠c.wb/\c'≠c.tb
 dn:Fs c.done/\c.done≠c.pb/\c.done≠c.wb/\c.done≠c.tb
 still : ∀l,Still l ->∃a,l = .cell a/\Fs a.block/\a.block≠c.wb/\a.block≠c.tb/\(a.block=c.pb->3<=a.off)
theorem xbA{K:World->Prop}{Inb:Nat->Option Seat}{Still:Loc->Prop}{es:Array Event}(R:Round c Fs K Inb Still)(hF : ∀b,Fs b->F b){n:Nat}(ev : ∀e∈es,EvWk c F n e) : ∀e∈es,EvJ Still (M0t c.tb) n e:=fun e he=>by
 have:=ev e he
 obtain⟨l,wr,sy⟩:=e
 cases l with
 | cell a=>
  obtain⟨h1,h2,h3⟩:=this
  have ht : ∀x,(MemAct.ofEvent ⟨.cell a,wr,sy⟩).touch? = some x->x.loc = .cell a/\x.write=wr:=fun x hx=>by
   cases sy<;>simp[MemAct.ofEvent,MemAct.touch?]at hx<;>(subst hx;exact⟨rfl,rfl⟩)
  refine⟨⟨fun x hx hs =>?_,by simp,by simp,?_⟩,fun x hx hm =>?_⟩
  .obtain⟨e1,e2⟩:=ht x hx
   rw[e1]at hs
   obtain⟨a',e3,s1,s2,s3,s4⟩:=R.still _ hs
   cases e3
   rw[e2]
   cases wr with
   | false=>rfl
   | true=>
    rcases h3 rfl with y|⟨y,z⟩|y
    .exact absurd (hF _ s1) y
    .exact absurd (s4 y) z
    .exact absurd y s2
  .cases sy<;>exact h1
  .obtain⟨e1,e2⟩:=ht x hx
   rw[e1]
   exact h2
 | obj r=>
  obtain⟨h1,h2⟩:=this
  have ht : ∀x,(MemAct.ofEvent ⟨.obj r,wr,sy⟩).touch? = some x->x.loc = .obj r:=fun x hx=>by
   cases wr<;>cases sy<;>simp[MemAct.ofEvent,MemAct.touch?]at hx<;>(subst hx;rfl)
  refine⟨⟨fun x hx hs =>?_,by simp,by simp,?_⟩,fun x hx hm =>?_⟩
  .rw[ht x hx]at hs
   obtain⟨a',e3,_⟩:=R.still _ hs
   cases e3
  .cases wr<;>cases sy<;>exact h2
  .rw[ht x hx]
   exact fun y=>y
 | mark m=>
  have hm:m = .noRoom:=this
  subst hm
  refine⟨⟨fun x hx hs =>?_,by simp,by simp,?_⟩,fun x hx hm =>?_⟩
  .simp[MemAct.ofEvent,MemAct.touch?]at hx
  .simp[MemAct.ofEvent,MemAct.low]
  .simp[MemAct.ofEvent,MemAct.touch?]at hx
 | output=>exact this.elim
 | goroutines=>exact this.elim
theorem Dw.round{K:World->Prop}{Inb:Nat->Option Seat}{Still:Loc->Prop}{es:Array Event}(R:Round c Fs K Inb Still)(hF : ∀b,Fs b->F b)(ao : ∀i s c',Inb i=some s->s.has c'->c'<w.heap.size)(h:Dw c F w w' es):DW K Inb Still (M0t c.tb) (RHt c Fs) w w' es:=by
 obtain⟨k,st,wk,ev⟩:=h (hF _ R.tb) (hF _ R.pb) (hF _ R.wb)
 have rh:RHt c Fs w w':=⟨k.mono fun b hb=>hb.imp (fun x y=>x (hF b y)) fun x=>x.imp id .inl,st,wk,fun⟨buf,cl,a,b,tm,x⟩=>⟨buf,cl,a,b,tm,by rw[k.block _ (Array.getElem?_eq_some_iff.1 x).1 fun y=>y.elim (fun z=>z (hF _ R.dn.1)) fun z=>z.elim R.dn.2.1 R.dn.2.2.1];exact x⟩⟩
 refine⟨R.keep w w' rh,fun i s c' hi hc =>?_,rh,k.size,fun e he =>?_⟩
 .obtain⟨h1,h2,h3,_⟩:=R.chans i s c' hi hc
  exact k.block c' (ao i s c' hi hc) fun x=>x.elim (fun y=>y (hF _ h1)) fun y=>y.elim h2 h3
 .exact xbA R hF ev e he
structure RHq(c:WC)(Fs:Fo)(w w':World):Prop where
 rh:RHt c Fs w w'
 wb:c.wb<w.heap.size->w'.heap[c.wb]? = w.heap[c.wb]?
theorem RHq.trans{w'':World}(h:RHq c Fs w w')(h':RHq c Fs w' w''):RHq c Fs w w'':=
 ⟨h.rh.trans h'.rh,fun hl=>(h'.wb (Nat.lt_of_lt_of_le hl h.rh.keeps.size)).trans (h.wb hl)⟩
theorem RHq.at_(w:World)(d:Nat):RHq c Fs w (w.at d):=⟨RHt.at_ w d,fun _=>rfl⟩
theorem Dq.round{K:World->Prop}{Inb:Nat->Option Seat}{Still:Loc->Prop}{es:Array Event}(R:Round c Fs K Inb Still)(hF : ∀b,Fs b->F b)(ao : ∀i s c',Inb i=some s->s.has c'->c'<w.heap.size)(h:Dq c F w w' es):DW K Inb Still (M0t c.tb) (RHq c Fs) w w' es:=by
 obtain⟨a,b,d,e⟩:=Dw.round R hF ao h.1
 exact⟨a,b,⟨d,h.2⟩,e⟩
structure AskNow(c:WC)(rv:List Value)(tf:Option (List C))(s:WS)(F:Fo)(e:Ask)(L:List Ask)(g₂ g₃:Goroutine)(g:Goroutine)(w:World):Prop where
 hr:g.status = .running
 hR:RepW c s F w
 hL:s.orc=e::L
 ht:s.told=e.told
 h : ∀w₁,RFw c F w F w₁ ->∃es,stepG Tryz.prog false g w₁ = .comm g₂ (askCases c (accV e.k e.at_ e.a e.b)) true .select w₁ es/\ ∀e∈es,EvWk c F w₁.heap.size e
 hsit : ∃n,ToSeat c n (Go.Conc.served g₂ (commResult (askCases c (accV e.k e.at_ e.a e.b)) .select 0 undef false)) g₃
 hgrant : ∀F₂ w₂,Later c s F w F₂ w₂->WOk c rv tf (s.next L) F₂ (Go.Conc.served g₃ (commResult (seatCases c) .select 0 (.int .u64 e.v) true)) w₂
 hquit : ∀F₂ w₂,Later c s F w F₂ w₂->QOk c F₂ (Go.Conc.served g₃ (commResult (seatCases c) .select 1 zq false)) w₂
structure DoneNow(c:WC)(rv:List Value)(tf:Option (List C))(s:WS)(F:Fo)(g:Goroutine)(w:World):Prop where
 hr:g.status = .running
 hR:RepW c s F w
 ht:s.told=tf
 fin:s.orc = []
 h : ∀w₁,RFw c F w F w₁->AtLast c F g w₁
 hres : ∃pre,WorkAt c pre rv w
theorem AskNow.rely{e:Ask}{L:List Ask}{g₂ g₃:Goroutine}{w₁:World}(h:AskNow c rv tf s F e L g₂ g₃ g w)(r:RFw c F w F w₁):AskNow c rv tf s F e L g₂ g₃ g w₁:=
 ⟨h.hr,h.hR.rely r,h.hL,h.ht,fun w₂ h₂=>h.h w₂ (r.trans h₂),h.hsit,fun F₂ w₂ d=>h.hgrant F₂ w₂ (d.rely h.hR.tb r),fun F₂ w₂ d=>h.hquit F₂ w₂ (d.rely h.hR.tb r)⟩
theorem DoneNow.rely{w₁:World}(h:DoneNow c rv tf s F g w)(r:RFw c F w F w₁):DoneNow c rv tf s F g w₁:=by
 refine⟨h.hr,h.hR.rely r,h.ht,h.fin,fun w₂ h₂=>h.h w₂ (r.trans h₂),?_⟩
 obtain⟨pre,x,y⟩:=h.hres
 exact⟨pre,x,by rw[r.2.1.block _ (h.hR.lt _ h.hR.wb) fun z=>h.hR.wt z.1];exact y⟩
def StopW(c:WC)(rv:List Value)(tf:Option (List C))(orc:List Ask)(Fs:Fo)(g:Goroutine)(w:World):Prop:=
 ∃s F,s.orc=orc/\(∀b,Fs b->F b)/\F.A=Fs.A/\((∃e L g₂ g₃,AskNow c rv tf s F e L g₂ g₃ g w)\/DoneNow c rv tf s F g w)
theorem WOk.turn{K:World->Prop}{Inb:Nat->Option Seat}{Still:Loc->Prop}(R:Round c Fs K Inb Still){N:Nat}(hN : ∀i s c',Inb i=some s->s.has c'->c'<N)(h:WOk c rv tf s F g w)(hF : ∀b,Fs b->F b)(hA:F.A=Fs.A)(ai:N<=w.heap.size) :
  GW Tryz.prog false (RJt c.tb) (DW K Inb Still (M0t c.tb) (RHt c Fs)) (StopW c rv tf s.orc Fs) g w:=by
 induction h with
 | step hr h h' ih=>
  refine .step hr (fun w₁ h₁ =>?_) fun w₁ g' w' es h₁ hs =>?_
  .have r:=h₁.rf (hF _ R.tb)
   obtain⟨g',w',es,a,b⟩:=h w₁ r
   exact⟨g',w',es,a,b.round R hF fun i s c' hi hc=>Nat.lt_of_lt_of_le (hN i s c' hi hc) (by rw[h₁.2];exact ai)⟩
  .have r:=h₁.rf (hF _ R.tb)
   obtain⟨g₂,w₂,es₂,a,b⟩:=h w₁ r
   rw[hs]at a
   cases a
   exact ih w₁ g' w' es r hs hF hA (Nat.le_trans (by rw[h₁.2];exact ai) (b (hF _ R.tb) (hF _ R.pb) (hF _ R.wb)).keeps.size)
 | ask e L g₂ g₃ hr hR hL ht h hsit hgrant hquit=>
  exact .stop fun w₁ h₁=>⟨_,_,rfl,hF,hA,.inl ⟨e,L,g₂,g₃,(⟨hr,hR,hL,ht,h,hsit,hgrant,hquit⟩:AskNow ..).rely (h₁.rf (hF _ R.tb))⟩⟩
 | give hF' hn hA' h ih=>exact ih (fun b hb=>hF' b (hF b hb)) (hA'.trans hA) ai
 | tell r h ih=>exact ih hF hA ai
 | done hr hR ht fin h hres=>
  exact .stop fun w₁ h₁=>⟨_,_,rfl,hF,hA,.inr ((⟨hr,hR,ht,fin,h,hres⟩:DoneNow ..).rely (h₁.rf (hF _ R.tb)))⟩
theorem QOk.turn{K:World->Prop}{Inb:Nat->Option Seat}{Still:Loc->Prop}(R:Round c Fs K Inb Still){N:Nat}(hN : ∀i s c',Inb i=some s->s.has c'->c'<N)(h:QOk c F g w)(hF : ∀b,Fs b->F b)(ai:N<=w.heap.size) :
  GW Tryz.prog false (RJt c.tb) (DW K Inb Still (M0t c.tb) (RHq c Fs)) (fun g w =>∀w₁,RJt c.tb w w₁->AtLast c F g w₁) g w:=by
 unfold QOk at h
 induction h with
 | stop h=>exact .stop fun w₁ h₁ w₂ h₂=>h w₂ ((h₁.trans h₂).rf (hF _ R.tb))
 | step hr h h' ih=>
  refine .step hr (fun w₁ h₁ =>?_) fun w₁ g' w' es h₁ hs =>?_
  .have r:=h₁.rf (hF _ R.tb)
   obtain⟨g',w',es,a,b⟩:=h w₁ r
   exact⟨g',w',es,a,b.round R hF fun i s c' hi hc=>Nat.lt_of_lt_of_le (hN i s c' hi hc) (by rw[h₁.2];exact ai)⟩
  .have r:=h₁.rf (hF _ R.tb)
   obtain⟨g₂,w₂,es₂,a,b⟩:=h w₁ r
   rw[hs]at a
   cases a
   exact ih w₁ g' w' es r hs (Nat.le_trans (by rw[h₁.2];exact ai) (b.1 (hF _ R.tb) (hF _ R.pb) (hF _ R.wb)).keeps.size)
end Go.Proofs.YtfagfflkgmcnpaaGreatDoor.Tx
namespace Go.Proofs.YtfagfflkgmcnpaaGreatDoor.Tx
open Go Go.Conc Lx Kx
open Go.ConcN (sumTo upd sumTo_upd upd_ne upd_same)
theorem wd(w:World){c cap a b:Nat}{buf:Array Value}{cl tm:Bool}:Keeps (fun x=>x=c) w (w.setChan c cap buf cl a b tm):=
 ⟨rfl,rfl,rfl,by simp[World.setChan],fun x hx hn=>Go.Conc.heap_setChan_ne w _ _ _ _ _ _ (Ne.symm hn)⟩
theorem _root_.Go.Proofs.YtfagfflkgmcnpaaGreatDoor.Duo.rehome{P:Program}{K:World->Prop}{Still M0:Loc->Prop}{B:Nat}{Mem:Nat->Prop}{Inb:Nat->Option Seat}{h j:Nat}{T:Trace}{gs:Array Goroutine}{w:World}{q:Nat->Nat}(C:Duo P K Still M0 B Mem Inb h j T gs w q){s s':Seat}(hj:Inb j=some s)(hc:s'.cases=s.cases):Duo P K Still M0 B Mem (upd Inb j (some s')) h j T gs w q:=by
 have hh : ∀c,s'.has c↔s.has c:=fun c=>by unfold Seat.has;rw[hc]
 have o8 : ∀x,x≠j->upd Inb j (some s') x=Inb x:=fun x hx=>upd_ne Inb _ hx
 have inv : ∀i t,upd Inb j (some s') i=some t->(i=j/\t=s')\/(i≠j/\Inb i=some t):=fun i t e=>by
  by_cases ei:i=j
  .subst ei;rw[upd_same]at e;exact .inl ⟨rfl,(Option.some.inj e).symm⟩
  .exact .inr ⟨ei,by rw[<- o8 i ei];exact e⟩
 have same : ∀g,(upd Inb j (some s') g).isSome=(Inb g).isSome:=fun g=>by
  by_cases eg:g=j
  .subst eg;rw[upd_same,hj];rfl
  .rw[o8 g eg]
 refine⟨fun i g hi hg =>?_,fun i t c hi e ah =>?_,fun i t e =>?_,C.live,fun i i' t t' c e e' h1 h2 =>?_,C.above,fun i t e =>?_,fun i hM =>?_,fun i t hi e =>?_,?_,C.keep⟩
 .rw[o8 i fun e=>hi (.inr e)];exact C.idle i g hi hg
 .rcases inv i t e with⟨rfl,rfl⟩|⟨_,e⟩
  .exact C.chans i s c hi hj ((hh c).1 ah)
  .exact C.chans i t c hi e ah
 .rcases inv i t e with⟨rfl,rfl⟩|⟨_,e⟩
  .have:=C.wf i s hj
   exact⟨by rw[hc];exact this.recvs,by rw[hc];exact this.apart⟩
  .exact C.wf i t e
 .have key : ∀i t,upd Inb j (some s') i=some t->t.has c ->∃u,Inb i=some u/\u.has c:=fun i t e ah=>by
   rcases inv i t e with⟨e1,e2⟩|⟨_,e⟩
   .exact⟨s,e1▸hj,(hh c).1 (e2▸ah)⟩
   .exact⟨t,e,ah⟩
  obtain⟨u,hu,Bu⟩:=key i t e h1
  obtain⟨v,hv,dt⟩:=key i' t' e' h2
  exact C.inj _ _ u v c hu hv Bu dt
 .rcases inv i t e with⟨rfl,rfl⟩|⟨_,e⟩
  .exact⟨(C.mem i s hj).1,fun c ah=>(C.mem i s hj).2 c ((hh c).1 ah)⟩
  .exact C.mem i t e
 .by_cases ei:i=j
  .exact .inr (.inr ei)
  .rw[o8 i ei];exact C.nomem i hM
 .rcases inv i t e with⟨rfl,rfl⟩|⟨_,e⟩
  .exact(C.lo i s hi hj).imp id fun⟨⟨a,b⟩,d⟩=>⟨⟨a,by rw[same];exact b⟩,d⟩
  .exact(C.lo i t hi e).imp id fun⟨⟨a,b⟩,d⟩=>⟨⟨a,by rw[same];exact b⟩,d⟩
 .exact PastG.loosen C.past fun g hg=>hg.imp id fun⟨⟨a,b⟩,d⟩=>⟨⟨a,by rw[same];exact b⟩,d⟩
theorem _root_.Go.Proofs.YtfagfflkgmcnpaaGreatDoor.ModeH.inb{P:Program}{K:World->Prop}{Still M0:Loc->Prop}{B:Nat}{Inb Inb':Nat->Option Seat}{RH RJ:World->World->Prop}{main:Bool}{s:Seat}{HomeH:Goroutine->World->Prop}{μ:Nat}{a:Goroutine}{w:World}(hI : ∀i s c,Inb' i=some s->s.has c ->∃t,Inb i=some t/\t.has c)(m:ModeH P K Still M0 B Inb RH RJ main s HomeH μ a w):ModeH P K Still M0 B Inb' RH RJ main s HomeH μ a w:=by
 rcases m with⟨n,e,G⟩|x
 .exact .inl ⟨n,e,goes_mono (fun w w' es ⟨a,b,c,d⟩=>⟨a,fun i s c hi hc=>by obtain⟨t,ht,Ez⟩:=hI i s c hi hc;exact b i t c ht Ez,c,d⟩) (fun _ _ x=>x) _ _ _ G⟩
 .exact .inr x
theorem xif{Inb:Nat->Option Seat}{j:Nat}{s s':Seat}(hj:Inb j=some s)(hc:s'.cases=s.cases) : ∀i t c,upd Inb j (some s') i=some t->t.has c ->∃u,Inb i=some u/\u.has c:=fun i t c e ah=>by
 by_cases ei:i=j
 .subst ei;rw[upd_same]at e;cases e;exact⟨s,hj,by unfold Seat.has at ah |-;rw[<- hc];exact ah⟩
 .rw[upd_ne Inb _ ei]at e;exact⟨t,e,ah⟩
variable{c:WC}{rv:List Value}{tf:Option (List C)}{s:WS}{F Fs:Fo}{w:World}
def mainCases(c:WC):Array CommCase:= #[rcase c.ask (accV 0 0 0 0),rcase c.done .nilIface]
structure AskOut(c:WC)(rv:List Value)(tf:Option (List C))(orc:List Ask)(Fs:Fo)(K:World->Prop)(Still:Loc->Prop)(Mem:Nat->Prop)(Inb:Nat->Option Seat)(j B n:Nat)(HomeH:Goroutine->World->Prop)(X:World->Prop)(m:Machine)(t:Trace):Prop where
 out : ∃ (ak:Array Goroutine) (w' ws:World) (aq:Option (Nat×Nat)) (q':Nat->Nat) (a₂ g₂ g₃ g:Goroutine) (k B':Nat) (s':WS) (F':Fo) (e:Ask) (L:List Ask),
  m=crowd ak (w'.setChan c.ask 0 #[] false (k+1) (k+1) false) aq/\ak.size=n/\ak[0]? = some (Go.Conc.served a₂ (commResult (mainCases c) .select 0 (accV e.k e.at_ e.a e.b) true))/\HomeH a₂ w'/\X w'/\
  s'.orc=orc/\(∀b,Fs b->F' b)/\F'.A=Fs.A/\AskNow c rv tf s' F' e L g₂ g₃ g ws/\RJt c.tb ws w'/\(w'.heap[c.ask]? = some (.chan 0 #[] false k k false)/\ ∃kd,w'.heap[c.done]? = some (.chan 1 #[] false kd kd false))/\B'<=max B w'.heap.size/\B<=B'/\w'.heap.size<=B'/\
  Ring Tryz.prog K Still B' Mem (upd Inb j (some (seatW c (· = g₃)))) 0 t ak (w'.setChan c.ask 0 #[] false (k+1) (k+1) false) q'
structure DoneOut(c:WC)(rv:List Value)(tf:Option (List C))(orc:List Ask)(Fs:Fo)(K:World->Prop)(Still:Loc->Prop)(Mem:Nat->Prop)(Inb:Nat->Option Seat)(j B n:Nat)(HomeH:Goroutine->World->Prop)(X:World->Prop)(m:Machine)(t:Trace):Prop where
 out : ∃ (ak:Array Goroutine) (w' ws wx:World) (aq:Option (Nat×Nat)) (q':Nat->Nat) (a₂ g:Goroutine) (k B':Nat) (s':WS) (F':Fo),
  m=crowd ak (w'.setChan c.done 1 #[] false (k+1) (k+1) false) aq/\ak.size=n/\ak[0]? = some (Go.Conc.served a₂ (commResult (mainCases c) .select 1 .nilIface true))/\HomeH a₂ w'/\X wx/\RJt c.tb wx ws/\
  s'.orc=orc/\(∀b,Fs b->F' b)/\F'.A=Fs.A/\DoneNow c rv tf s' F' g ws/\Keeps (fun b=>b=c.tb\/b=c.done) ws w'/\w'.heap.size=ws.heap.size/\B'<=max B w'.heap.size/\B<=B'/\w'.heap.size<=B'/\
  Ring Tryz.prog K Still B' (fun g=>Mem g/\g≠j) (cutI Inb 0 j) 0 t ak (w'.setChan c.done 1 #[] false (k+1) (k+1) false) q'
theorem xig{K:World->Prop}{Inb:Nat->Option Seat}{Still:Loc->Prop}{Mem:Nat->Prop}(R:Round c Fs K Inb Still)(hKat : ∀w d,K w->K (w.at d))(hKc : ∀w i s c cap buf cl a b tm,Inb i=some s->s.has c->K w->K (w.setChan c cap buf cl a b tm)){j:Nat}(hj:0<j)
  {sH sJ:Seat} (hh:Inb 0=some sH) (hsH:sH.cases=mainCases c/\sH.shape = .select) (hjI:Inb j=some sJ) (hsJ:sJ.cases=seatCases c/\sJ.shape = .select) (hMj:Mem j)
  (hSt : ∀w,K w->StillAt c w) (hS4:Still (.cell ⟨c.pb,4,none⟩)) (hS5:Still (.cell ⟨c.pb,5,none⟩))
  {HomeH:Goroutine->World->Prop} (hH : ∀a w w',HomeH a w->RHt c Fs w w'->HomeH a w') {X:World->Prop} (hX : ∀w w',X w->RHt c Fs w w'\/RJt c.tb w w'->X w')
  {g:Goroutine} (hW:WOk c rv tf s F g w) (hF : ∀b,Fs b->F b) (hA:F.A=Fs.A) {B μ:Nat} {gs:Array Goroutine} {T:Trace} {sl:Option (Nat×Nat)} {q:Nat->Nat} {a:Goroutine} (hB:w.heap.size<=B) (C:Duo Tryz.prog K Still (M0t c.tb) B Mem Inb 0 j T gs w q) (ha:gs[0]? = some a) (hb:gs[j]? = some g)
  (GH:ModeH Tryz.prog K Still (M0t c.tb) B Inb (RHt c Fs) (RJt c.tb) true sH HomeH μ a w) (x0:X w) (Dd:CapIs c.ask 0 w) (dw:CapIs c.done 1 w) (lu:c.pb<w.heap.size) :
  ∃N m' T',runNT Tryz.prog N (crowd gs w sl) T=(.next m',T')/\(AskOut c rv tf s.orc Fs K Still Mem Inb j B gs.size HomeH X m' T'\/DoneOut c rv tf s.orc Fs K Still Mem Inb j B gs.size HomeH X m' T'):=by
 have hMS : ∀l,M0t c.tb l ->¬Still l:=fun l h hs=>by
  obtain⟨a,rfl,_,_,h3,_⟩:=R.still l hs
  exact h3 h
 have h0:sH.has c.ask:=⟨0,_,by rw[hsH.1];rfl⟩
 have h1:sH.has c.done:=⟨1,_,by rw[hsH.1];rfl⟩
 have ae:(0:Nat)≠j:=by omega
 have A6:(j==0)=false:=by simp;omega
 have hX' : ∀w w',(X w/\CapIs c.ask 0 w/\CapIs c.done 1 w)->RHt c Fs w w'\/RJt c.tb w w'->(X w'/\CapIs c.ask 0 w'/\CapIs c.done 1 w'):=fun w w' ⟨x,y,z⟩ h=>⟨hX w w' x h,by
  obtain⟨_,_,_,h4⟩:=R.chans 0 sH c.ask hh h0
  obtain⟨buf,cl,a,b,tm,e⟩:=y
  refine⟨buf,cl,a,b,tm,?_⟩
  have ao:=(Array.getElem?_eq_some_iff.1 e).1
  obtain⟨f1,f2,f3,f4⟩:=R.chans 0 sH c.ask hh h0
  rcases h with h|h
  .rw[h.keeps.block _ ao fun u=>u.elim (fun u=>u f1) fun u=>u.elim f2 fun u=>u.elim f3 fun u =>?_]
   .exact e
   .have wf:=C.wf 0 sH hh
    have:=wf.apart 0 1 c.ask (accV 0 0 0 0) .nilIface (by rw[hsH.1];rfl) (by rw[hsH.1,u];rfl)
    omega
  .rw[h.1.block _ ao f4];exact e,by
  rcases h with h|h
  .exact h.cap z
  .obtain⟨buf,cl,a,b,tm,e⟩:=z
   exact⟨buf,cl,a,b,tm,by rw[h.1.block _ (Array.getElem?_eq_some_iff.1 e).1 R.dn.2.2.2];exact e⟩⟩
 have hN : ∀i s c',Inb i=some s->s.has c'->c'<w.heap.size:=fun i s c' hi hc=>by
  obtain⟨cap,k,e⟩:=C.chans i s c' (fun z=>z) hi hc
  exact(Array.getElem?_eq_some_iff.1 e).1
 have G:=hW.turn R hN hF hA (dJ _)
 rw[<- A6]at G
 obtain⟨N₁,gs₁,w₁,sl₁,q₁,T₁,a₁,b₁,μ₁,B₁,r1,z1,ha₁,hb₁,hBB,hB₁,C₁,GH₁,x₁,az⟩:=VO (h:=0) (RH:=RHt c Fs) (RJ:=RJt c.tb) hKat (fun _ _ _ x y=>x.trans y) (fun _ _ _ x y=>x.trans y) RHt.at_ RJt.at_ RJt.refl (fun _ _ x=>x.2) hMS hH (X:=fun w=>X w/\CapIs c.ask 0 w/\CapIs c.done 1 w) hX' ae hh hMj G w (RJt.refl w) B gs T sl q μ a hB C ha hb GH ⟨x0,Dd,dw⟩
 obtain⟨s₁,F₁,Bz,hF₁,hA₁,Cc⟩:=az w₁ (RJt.refl w₁)
 have chof : ∀ {x n:Nat},sH.has x->CapIs x n w₁ ->∃k,w₁.heap[x]? = some (.chan n #[] false k k false):=fun {x n} hx hc=>by
  obtain⟨cap,k,e⟩:=C₁.chans 0 sH x (fun z=>z) hh hx
  obtain⟨buf,cl,a,b,tm,e'⟩:=hc
  rw[e]at e'
  cases e'
  exact⟨k,e⟩
 rcases Cc with⟨e,L,g₂,g₃,d9⟩|bl
 ·-- it asks
  obtain⟨k,hk⟩:=chof h0 x₁.2.1
  have bk:(seatW c (· = g₃)).cases=sJ.cases:=by rw[hsJ.1];rfl
  have C₂:=C₁.rehome hjI bk
  have ic:upd Inb j (some (seatW c (· = g₃))) 0=some sH:=by rw[upd_ne Inb _ ae];exact hh
  have ov:upd Inb j (some (seatW c (· = g₃))) j=some (seatW c (· = g₃)):=upd_same Inb _ _
  have Ac:sH.cases[0]? = some (rcase c.ask (accV 0 0 0 0)):=by rw[hsH.1];rfl
  have gg:OneSend (askCases c (accV e.k e.at_ e.a e.b)) 0 c.ask (accV e.k e.at_ e.a e.b) (accV 0 0 0 0) (seatW c (· = g₃)).has:=by
   refine⟨rfl,fun m cc hm bx =>?_⟩
   rcases m with _|_|m
   .exact absurd rfl hm
   .simp[askCases]at bx;subst bx;exact⟨c.quit,zq,rfl,1,zq,rfl⟩
   .simp[askCases]at bx
  have GJ:ModeJ Tryz.prog K Still (M0t c.tb) B₁ (upd Inb j (some (seatW c (· = g₃)))) (RHt c Fs) (RJt c.tb) (j==0) (seatW c (· = g₃)) c.ask (fun v b' w'=>v=accV e.k e.at_ e.a e.b/\b'=Go.Conc.served g₂ (commResult (askCases c (accV e.k e.at_ e.a e.b)) .select 0 undef false)/\RJt c.tb w₁ w') 1 b₁ w₁:=by
   refine .inl ⟨0,rfl,fun w₂ h₂ =>?_⟩
   obtain⟨es,hs,bt⟩:=d9.h w₂ (h₂.rf (hF₁ _ R.tb))
   refine⟨d9.hr,g₂,_,.select,0,_,_,es,gg,⟨rfl,rfl,h₂⟩,fun x hx =>?_,by rw[A6];exact hs⟩
   have:=xbA R hF₁ bt x hx
   exact⟨kX (by rw[h₂.2];exact hB₁) this.1,this.2⟩
  obtain⟨N₂,m₂,T₂,r2,M⟩:=VM (RH:=RHt c Fs) (RJ:=RJt c.tb) (sl:=sl₁) hKat (fun _ _ _ x y=>x.trans y) (fun _ _ _ x y=>x.trans y) RHt.at_ RJt.at_ hMS hH (fun v a w w' ⟨x,y,z⟩ h=>⟨x,y,z.trans h⟩) ae ic ov Ac ha₁ hb₁ C₂ hk (GH₁.inb (xif hjI bk)) GJ (.inr (by omega))
  have hKc' : ∀w i s c' cap buf cl a b tm,upd Inb j (some (seatW c (· = g₃))) i=some s->s.has c'->K w->K (w.setChan c' cap buf cl a b tm):=fun w i s c' cap buf cl a b tm hi hc=>by
   obtain⟨t,ht,Ez⟩:=xif hjI bk i s c' hi hc
   exact hKc w i t c' cap buf cl a b tm ht Ez
  obtain⟨n₀,hsit⟩:=d9.hsit
  obtain⟨ak,w',aq,q',a₂,b',v,rfl,ax,ep,hHh,⟨rfl,rfl,hRJ⟩,ah,Rg⟩:=M.ring hKc' ae ic ov Ac fun v b' w' ⟨_,x,_⟩ _=>⟨n₀,by rw[x,A6];exact hsit K Still B₁ hSt hS4 hS5 (Nat.lt_of_lt_of_le lu (Nat.le_trans hB hBB.1))⟩
  refine⟨N₁+N₂,_,_,ConcX.runNT_trans r1 r2,.inl ⟨ak,w',w₁,aq,q',a₂,g₂,g₃,b₁,k,B₁,s₁,F₁,e,L,rfl,ax.trans z1,?_,hHh,(hX' _ _ x₁ (.inr hRJ)).1,Bz,hF₁,hA₁,d9,hRJ,⟨ah,by
   obtain⟨kd,ft⟩:=chof h1 x₁.2.2
   exact⟨kd,(hRJ.1.block _ (Array.getElem?_eq_some_iff.1 ft).1 R.dn.2.2.2).trans ft⟩⟩,by rw[hRJ.2];exact hBB.2.1,hBB.1,by rw[hRJ.2];exact hB₁,Rg⟩⟩
  rw[hsH.1,hsH.2]at ep
  exact ep
 ·-- it is done
  obtain⟨k,hk⟩:=chof h1 x₁.2.2
  have Ac:sH.cases[1]? = some (rcase c.done .nilIface):=by rw[hsH.1];rfl
  obtain⟨d1,d2,d3,d4⟩:=R.dn
  have hRc : ∀w v,RHt c Fs w (w.setChan c.done 1 #[v] false (k+1) k false):=fun w v=>by
   have hk:Keeps (fun b=>b=c.done) w (w.setChan c.done 1 #[v] false (k+1) k false):=wd _
   have hb : ∀b o,b≠c.done->w.heap[b]? = some o->(w.setChan c.done 1 #[v] false (k+1) k false).heap[b]? = some o:=fun b o hb ho=>by rw[hk.block b (Array.getElem?_eq_some_iff.1 ho).1 hb];exact ho
   exact⟨hk.mono fun b hb =>.inr (.inr (.inr hb)),fun⟨n,told,x⟩=>⟨n,told,hb _ _ (Ne.symm d2) x⟩,fun pre r ⟨x,y⟩=>⟨r,x,hb _ _ (Ne.symm d3) y⟩,fun⟨buf,cl,a,b,tm,x⟩=>⟨_,_,_,_,_,Go.Conc.heap_setChan_self _ x _ _ _ _ _ _⟩⟩
  have GJ:Goes Tryz.prog (j==0) (RJt c.tb) (DG K Inb (EvJ Still (M0t c.tb) B₁) (RHt c Fs)) (AtD Tryz.prog Still (M0t c.tb) B₁ (j==0) c.done (fun v b' w'=>v = .nilIface/\(∃n,QuitsD Tryz.prog n 0 b')/\RJt c.tb w₁ w')) 0 b₁ w₁:=fun w₂ h₂=>by
   obtain⟨hr,b₂,z,es,n,hs,bt,hq⟩:=bl.h w₂ (h₂.rf (hF₁ _ R.tb))
   refine⟨hr,b₂,.nilIface,z,es,⟨rfl,⟨n,hq⟩,h₂⟩,fun x hx =>?_,by rw[A6];exact hs⟩
   have:=xbA R hF₁ bt x hx
   exact⟨kX (by rw[h₂.2];exact hB₁) this.1,this.2⟩
  obtain⟨N₂,m₂,T₂,v,r2,M⟩:=VN (RH:=RHt c Fs) (RJ:=RJt c.tb) (X:=fun v w=>v = .nilIface/\Keeps (fun b=>b=c.tb\/b=c.done) w₁ w/\w.heap.size=w₁.heap.size) (sl:=sl₁) hKat hKc (fun _ _ _ x y=>x.trans y) (fun _ _ _ x y=>x.trans y) RHt.at_ RJt.at_ hMS hH (fun v w w' ⟨x,y,z⟩ h=>⟨x,y.trans h.1 fun b hb =>.inl (.inl hb),h.2.trans z⟩) ae hj hh hMj Ac ha₁ hb₁ C₁ hk (by omega) hRc (fun v b' w ⟨x,_,y⟩=>⟨⟨x,y.1.mono fun b hb =>.inl hb,y.2⟩,x,(y.1.mono fun b hb =>.inl hb).trans (wd _) fun b hb =>.inl (.inr hb),by rw[size_setChan];exact y.2⟩) (fun v b' w ⟨_,x,_⟩=>x) GH₁ GJ
  obtain⟨ak,w',aq,q',a₂,rfl,ax,ep,hHh,⟨rfl,am,hsz₂⟩,Rg⟩:=M
  refine⟨N₁+N₂,_,_,ConcX.runNT_trans r1 r2,.inr ⟨ak,w',w₁,w₁,aq,q',a₂,b₁,k,B₁,s₁,F₁,rfl,ax.trans z1,?_,hHh,x₁.1,RJt.refl w₁,Bz,hF₁,hA₁,bl,am,hsz₂,by rw[hsz₂];exact hBB.2.1,hBB.1,by rw[hsz₂];exact hB₁,Rg⟩⟩
  rw[hsH.1,hsH.2]at ep
  exact ep
end Go.Proofs.YtfagfflkgmcnpaaGreatDoor.Tx
namespace Go.Proofs.YtfagfflkgmcnpaaGreatDoor.Tx
open Go Go.Conc Lx Kx
open Go.ConcN (sumTo upd sumTo_upd upd_ne upd_same)
variable{c:WC}{rv:List Value}{tf:Option (List C)}{s:WS}{F Fs:Fo}{w:World}
theorem Round.cut{K:World->Prop}{Inb:Nat->Option Seat}{Still:Loc->Prop}(R:Round c Fs K Inb Still)(h j:Nat):Round c Fs K (cutI Inb h j) Still:=
 ⟨R.tb,R.pb,R.wb,R.keep,fun i s c' hi hc=>R.chans i s c' (yf hi).2.2 hc,R.dn,R.still⟩
structure ShutOut(c:WC)(K:World->Prop)(Still:Loc->Prop)(Mem:Nat->Prop)(Inb:Nat->Option Seat)(j B n:Nat)(HomeH:Goroutine->World->Prop)(X:World->Prop)(m:Machine)(t:Trace):Prop where
 out : ∃ (ak:Array Goroutine) (w' ws:World) (aq:Option (Nat×Nat)) (q':Nat->Nat) (a₂:Goroutine) (k B':Nat),
  m=crowd ak (w'.setChan c.done 1 #[] false (k+1) (k+1) false) aq/\ak.size=n/\ak[0]? = some (Go.Conc.served a₂ (commResult #[rcase c.done .nilIface] (.recv false) 0 .nilIface true))/\HomeH a₂ w'/\X ws/\
  Keeps (fun b=>b=c.tb\/b=c.done) ws w'/\w'.heap.size=ws.heap.size/\B'<=max B w'.heap.size/\B<=B'/\w'.heap.size<=B'/\
  Ring Tryz.prog K Still B' (fun g=>Mem g/\g≠j) (cutI (cutI Inb j j) 0 j) 0 t ak (w'.setChan c.done 1 #[] false (k+1) (k+1) false) q'
theorem xih{K:World->Prop}{Inb:Nat->Option Seat}{Still:Loc->Prop}{Mem:Nat->Prop}(R:Round c Fs K Inb Still)(hKat : ∀w d,K w->K (w.at d))(hKc : ∀w i s c cap buf cl a b tm,Inb i=some s->s.has c->K w->K (w.setChan c cap buf cl a b tm)){j:Nat}(hj:0<j)
  {sH sJ:Seat} (hh:Inb 0=some sH) (hsH:sH.cases = #[rcase c.done .nilIface]/\sH.shape = .recv false) (hjI:Inb j=some sJ) {g₃:Goroutine} (hsJ:sJ.cases=seatCases c/\sJ.shape = .select/\ ∀g,sJ.home g->g=g₃) (hMj:Mem j) (hM0:Mem 0)
  {HomeH:Goroutine->World->Prop} (hH : ∀a w w',HomeH a w->RHq c Fs w w'->HomeH a w') {X:World->Prop} (hX : ∀w w',X w->RHq c Fs w w'\/RJt c.tb w w'->X w')
  {B μ:Nat} {gs:Array Goroutine} {T:Trace} {sl:Option (Nat×Nat)} {q:Nat->Nat} {a a':Goroutine} {k cap:Nat} (hB:w.heap.size<=B) (ha:gs[0]? = some a) (aa:a.status = .running) (ms:mayWake Tryz.prog a=true) (zn:a'.status = .running) (zb:j<gs.size)
  (hc:w.heap[c.quit]? = some (.chan 0 #[] false k k false)) (gq : ∀d,stepG Tryz.prog true a (w.at d) = .go a' ((w.at d).setChan c.quit 0 #[] true k k false) (closeEvents c.quit)) (C:Ring Tryz.prog K Still B Mem Inb 0 T gs w q)
  (GH : ∀d,ModeH Tryz.prog K Still (M0t c.tb) B (cutI Inb j j) (RHq c Fs) (RJt c.tb) true sH HomeH μ a' ((w.at d).setChan c.quit 0 #[] true k k false)) (x0 : ∀d,X ((w.at d).setChan c.quit 0 #[] true k k false)) (dw:CapIs c.done 1 w)
  {Y:World->Prop} (hY : ∀w w',Y w->RJt c.tb w w'->Y w') (y0 : ∀d,Y ((w.at d).setChan c.quit 0 #[] true k k false))
  (hW : ∀w',Y w' ->∃F,(∀b,Fs b->F b)/\QOk c F (Go.Conc.served g₃ (commResult (seatCases c) .select 1 zq false)) w') :
  ∃N m' T',runNT Tryz.prog N (crowd gs w sl) T=(.next m',T')/\ShutOut c K Still Mem Inb j B gs.size HomeH X m' T':=by
 have ae:(0:Nat)≠j:=by omega
 have A6:(j==0)=false:=by simp;omega
 have hMS : ∀l,M0t c.tb l ->¬Still l:=fun l h hs=>by
  obtain⟨a,rfl,_,_,h3,_⟩:=R.still l hs
  exact h3 h
 have d6:sJ.cases[1]? = some (rcase c.quit zq):=by rw[hsJ.1];rfl
 have Ac:sH.cases[0]? = some (rcase c.done .nilIface):=by rw[hsH.1];rfl
 have zg:c.done≠c.quit:=fun e=>ae (C.inj 0 j sH sJ c.done hh hjI ⟨0,_,Ac⟩ ⟨1,zq,by rw[d6,e]⟩)
 have hJfin : ∀c',sJ.has c'->Fs c'/\c'≠c.pb/\c'≠c.wb/\c'≠c.tb:=fun c' h=>R.chans j sJ c' hjI h
 have hcB:c.quit<B:=(C.mem j sJ hjI).2 _ ⟨1,zq,d6⟩
 have hwfJ:=C.wf j sJ hjI
 obtain⟨N,gs₁,b',nb,w₀,d,sl₁,T₁,q₁,m,r1,z1,ha₁,hb₁,ca,GJ,S⟩:=xcN (M0:=M0t c.tb) (sl:=sl) hKat hKc (Ne.symm ae) zb hjI d6 hM0 ha aa ms zn hc gq C
 have de:cutI Inb j j 0=some sH:=by rw[vh ae ae];exact hh
 have da : ∀c',sJ.has c'->c'≠c.quit ->∃br k',((w.at d).setChan c.quit 0 #[] true k k false).heap[c']? = some (.chan br #[] false k' k' false):=fun c' h h'=>by
  obtain⟨br,k',e⟩:=C.chans j sJ c' (fun z=>z) hjI h
  exact⟨br,k',by rw[heap_setChan_ne _ _ _ _ _ _ _ (Ne.symm h')];exact e⟩
 have cq:((w.at d).setChan c.quit 0 #[] true k k false).heap[c.quit]? = some (.chan 0 #[] true k k false):=heap_setChan_self (w.at d) hc _ _ _ _ _ _
 have hXc : ∀w w',((X w/\Y w)/\CapIs c.done 1 w/\w.heap.size<=B/\ ∀i s c',Inb i=some s->s.has c'->c'<w.heap.size)->RJt c.tb w w'->((X w'/\Y w')/\CapIs c.done 1 w'/\w'.heap.size<=B/\ ∀i s c',Inb i=some s->s.has c'->c'<w'.heap.size):=fun w w' ⟨x,⟨buf,cl,a,b,tm,e⟩,hs,hl⟩ h=>
  ⟨⟨hX w w' x.1 (.inr h),hY w w' x.2 h⟩,⟨buf,cl,a,b,tm,by rw[h.1.block _ (Array.getElem?_eq_some_iff.1 e).1 R.dn.2.2.2];exact e⟩,by rw[h.2];exact hs,fun i s c' h1 h2=>by rw[h.2];exact hl i s c' h1 h2⟩
 have Gk:CapIs c.done 1 ((w.at d).setChan c.quit 0 #[] true k k false):=by
  obtain⟨buf,cl,a,b,tm,e⟩:=dw
  exact⟨buf,cl,a,b,tm,by rw[heap_setChan_ne _ _ _ _ _ _ _ (Ne.symm zg)];exact e⟩
 obtain⟨N₂,m₂,T₂,r2,FD⟩:=xcM (RH:=RHq c Fs) (RJ:=RJt c.tb) (HomeH:=HomeH) (X:=fun w=>(X w/\Y w)/\CapIs c.done 1 w/\w.heap.size<=B/\ ∀i s c',Inb i=some s->s.has c'->c'<w.heap.size) (sl:=sl₁) hKat (fun _ _ _ x y=>x.trans y) RHq.at_ RJt.at_ hXc
  ⟨⟨x0 d,y0 d⟩,Gk,by rw[size_setChan];exact hB,fun i s c' h1 h2=>by obtain⟨br,k',e⟩:=C.chans i s c' (fun z=>z) h1 h2;rw[size_setChan];exact(Array.getElem?_eq_some_iff.1 e).1⟩ hMS hH ae de hwfJ hMj hcB d6 ha₁ hb₁
  (fun w w' c' h hr=>by
   by_cases e:c'<w.heap.size
   .exact hr.1.block _ e (hJfin c' h).2.2.2
   .exact(Array.getElem?_eq_none (by rw[hr.2];omega)).trans (Array.getElem?_eq_none (by omega)).symm) S ca cq da (GH d) GJ
 obtain⟨gs₂,w₂,sl₂,q₂,a₂,g₂,μ₂,⟨⟨x2,y2⟩,Gj,hB2,hN2⟩,rfl,z2,ha₂,hb₂,nf,GH₂,D₂⟩:=FD
 obtain rfl:=hsJ.2.2 _ nf
 obtain⟨F,hF,hQ⟩:=hW w₂ y2
 have R':=R.cut j j
 have hX' : ∀w w',(X w/\CapIs c.done 1 w)->RHq c Fs w w'\/RJt c.tb w w'->(X w'/\CapIs c.done 1 w'):=fun w w' ⟨x,y⟩ h=>⟨hX w w' x h,by
  rcases h with h|h
  .exact h.rh.cap y
  .obtain⟨buf,cl,a,b,tm,e⟩:=y
   exact⟨buf,cl,a,b,tm,by rw[h.1.block _ (Array.getElem?_eq_some_iff.1 e).1 R.dn.2.2.2];exact e⟩⟩
 rw[hsJ.1,hsJ.2.1]at hb₂
 obtain⟨bb,gu⟩ : ∃bb,bb=Go.Conc.served g₂ (commResult (seatCases c) .select 1 zq false):=⟨_,rfl⟩
 rw[<- gu]at hQ
 replace hb₂:gs₂[j]? = some bb:=by rw[gu];exact hb₂
 have G:=hQ.turn R' (N:=w₂.heap.size) (fun i s c' hi hc=>hN2 i s c' (yf hi).2.2 hc) hF (dJ _)
 rw[<- A6]at G
 obtain⟨N₃,gs₃,w₃,sl₃,q₃,T₃,a₃,b₃,μ₃,B₃,r3,z3,ha₃,hb₃,hBB,hB₃,C₃,GH₃,x₃,az⟩:=VO (h:=0) (RH:=RHq c Fs) (RJ:=RJt c.tb) hKat (fun _ _ _ x y=>x.trans y) (fun _ _ _ x y=>x.trans y) RHq.at_ RJt.at_ RJt.refl (fun _ _ x=>x.2) hMS hH (X:=fun w=>X w/\CapIs c.done 1 w) hX' ae de hMj G w₂ (RJt.refl w₂) B gs₂ T₂ sl₂ q₂ μ₂ a₂ hB2 D₂ ha₂ hb₂ GH₂ ⟨x2,Gj⟩
 obtain⟨d1,d2,d3,d4⟩:=R.dn
 have hRc : ∀ (w:World) (v:Value) (k:Nat),RHq c Fs w (w.setChan c.done 1 #[v] false (k+1) k false):=fun w v k=>by
  have hk:Keeps (fun b=>b=c.done) w (w.setChan c.done 1 #[v] false (k+1) k false):=wd _
  have hb : ∀b o,b≠c.done->w.heap[b]? = some o->(w.setChan c.done 1 #[v] false (k+1) k false).heap[b]? = some o:=fun b o hb ho=>by rw[hk.block b (Array.getElem?_eq_some_iff.1 ho).1 hb];exact ho
  exact⟨⟨hk.mono fun b hb =>.inr (.inr (.inr hb)),fun⟨n,told,x⟩=>⟨n,told,hb _ _ (Ne.symm d2) x⟩,fun pre r ⟨x,y⟩=>⟨r,x,hb _ _ (Ne.symm d3) y⟩,fun⟨buf,cl,a,b,tm,x⟩=>⟨_,_,_,_,_,Go.Conc.heap_setChan_self _ x _ _ _ _ _ _⟩⟩,fun hl=>hk.block c.wb hl (Ne.symm d3)⟩
 obtain⟨k₃,hk₃⟩ : ∃k,w₃.heap[c.done]? = some (.chan 1 #[] false k k false):=by
  obtain⟨cap,k,e⟩:=C₃.chans 0 sH c.done (fun z=>z) de ⟨0,_,Ac⟩
  obtain⟨buf,cl,a,b,tm,e'⟩:=x₃.2
  rw[e]at e'
  cases e'
  exact⟨k,e⟩
 have GJ₃:Goes Tryz.prog (j==0) (RJt c.tb) (DG K (cutI Inb j j) (EvJ Still (M0t c.tb) B₃) (RHq c Fs)) (AtD Tryz.prog Still (M0t c.tb) B₃ (j==0) c.done (fun v b' w'=>v = .nilIface/\(∃n,QuitsD Tryz.prog n 0 b')/\RJt c.tb w₃ w')) 0 b₃ w₃:=fun w₄ h₄=>by
  obtain⟨hr,b₂,z,es,n,hs,bt,hq⟩:=az w₄ h₄ w₄ (RJt.refl w₄)
  refine⟨hr,b₂,.nilIface,z,es,⟨rfl,⟨n,hq⟩,h₄⟩,fun x hx =>?_,by rw[A6];exact hs⟩
  have:=xbA R' hF bt x hx
  exact⟨kX (by rw[h₄.2];exact hB₃) this.1,this.2⟩
 have hKc' : ∀w i s c' cap buf cl a b tm,cutI Inb j j i=some s->s.has c'->K w->K (w.setChan c' cap buf cl a b tm):=fun w i s c' cap buf cl a b tm hi hc=>hKc w i s c' cap buf cl a b tm (yf hi).2.2 hc
 obtain⟨N₄,m₄,T₄,v,r4,M⟩:=VN (RH:=RHq c Fs) (RJ:=RJt c.tb) (X:=fun v w=>v = .nilIface/\Keeps (fun b=>b=c.tb\/b=c.done) w₃ w/\w.heap.size=w₃.heap.size) (sl:=sl₃) hKat hKc' (fun _ _ _ x y=>x.trans y) (fun _ _ _ x y=>x.trans y) RHq.at_ RJt.at_ hMS hH (fun v w w' ⟨x,y,z⟩ h=>⟨x,y.trans h.1 fun b hb =>.inl (.inl hb),h.2.trans z⟩) ae hj de hMj Ac ha₃ hb₃ C₃ hk₃ (by omega) (fun w v=>hRc w v k₃) (fun v b' w ⟨x,_,y⟩=>⟨⟨x,y.1.mono fun b hb =>.inl hb,y.2⟩,x,(y.1.mono fun b hb =>.inl hb).trans (wd _) fun b hb =>.inl (.inr hb),by rw[size_setChan];exact y.2⟩) (fun v b' w ⟨_,x,_⟩=>x) GH₃ GJ₃
 obtain⟨ak,w',aq,q',a₅,rfl,ax,ep,hHh,⟨rfl,am,hsz₂⟩,Rg⟩:=M
 refine⟨N+(N₂+(N₃+N₄)),_,_,ConcX.runNT_trans r1 (ConcX.runNT_trans r2 (ConcX.runNT_trans r3 r4)),⟨ak,w',w₃,aq,q',a₅,k₃,B₃,rfl,ax.trans (z3.trans (z2.trans z1)),?_,hHh,x₃.1,am,hsz₂,by rw[hsz₂];exact hBB.2.1,hBB.1,by rw[hsz₂];exact hB₃,Rg⟩⟩
 rw[hsH.1,hsH.2]at ep
 exact ep
end Go.Proofs.YtfagfflkgmcnpaaGreatDoor.Tx
namespace Go.Proofs.YtfagfflkgmcnpaaGreatDoor.Mx
open Go Go.Conc Lx Kx Tx
open Go.ConcN (sumTo upd sumTo_upd upd_ne upd_same)
structure Rg where
 K:World->Prop
 Still:Loc->Prop
 Mem:Nat->Prop
 Inb:Nat->Option Seat
structure Rg.Ok(R:Rg):Prop where
 at_ : ∀w d,R.K w->R.K (w.at d)
 chan : ∀w i s c cap buf cl a b tm,R.Inb i=some s->s.has c->R.K w->R.K (w.setChan c cap buf cl a b tm)
 main:R.Mem 0
def xfB(R:Rg)(B:Nat)(T:Trace)(gs:Array Goroutine)(w:World)(q:Nat->Nat):Prop:=Ring Tryz.prog R.K R.Still B R.Mem R.Inb 0 T gs w q
def Runs(Goal:Machine->Trace->Prop)(R:Rg)(n:Nat)(a:Goroutine)(w:World):Prop:=
 ∀d gs T sl q,gs.size=n->gs[0]? = some a->xfB R w.heap.size T gs (w.at d) q ->∃N m' T',runNT Tryz.prog N (crowd gs (w.at d) sl) T=(.next m',T')/\Goal m' T'
variable{Goal:Machine->Trace->Prop}{R R':Rg}{n:Nat}{a a':Goroutine}{w w':World}
theorem Runs.at_{d:Nat}(h:Runs Goal R n a w):Runs Goal R n a (w.at d):=fun d' gs T sl q h1 h2 h3=>h d' gs T sl q h1 h2 h3
theorem Runs.of_at{d:Nat}(h:Runs Goal R n a (w.at d)):Runs Goal R n a w:=fun d' gs T sl q h1 h2 h3=>h d' gs T sl q h1 h2 h3
def WH(R:Rg)(w:World):Prop :=∀i s c,R.Inb i=some s->s.has c->c<w.heap.size
theorem Runs.go(hO:R.Ok)(hr:a.status = .running)(h:WH R w ->∀d,R.K (w.at d) ->∃a' w' es,stepG Tryz.prog true a (w.at d) = .go a' w' es/\R.K w'/\(∀i s c,R.Inb i=some s->s.has c->w'.heap[c]? = w.heap[c]?)/\w.heap.size<=w'.heap.size/\(∀e∈es,EvHd R.Still w'.heap.size e)/\Runs Goal R n a' w'):Runs Goal R n a w:=by
 intro d gs T sl q hn ha C
 obtain⟨N,gs₁,d₁,d₂,sl₁,sl₂,T₁,q₁,aa,az,ai,ha₁,C₁⟩:=picked (sl:=sl) hO.at_ ha hr C
 obtain⟨a',w',es,hs,hK,hc,bu,r7,Cu⟩:=h (fun i s c hi hc=>(C₁.mem i s hi).2 c hc) d₂ C₁.keep
 have gf:=runT_crowd_go (P:= Tryz.prog) (sl:=sl₂) ha₁ hs
 have C₂:Ring Tryz.prog R.K R.Still w'.heap.size R.Mem R.Inb 0 T₁ gs₁ (w.at d₂) q₁:=Ring.grow C₁ bu
 obtain⟨au,Jk,hl,bf⟩:=evHd_ops (i:=0) (fn:=a.frame.fn) (pos:=a.frame.place) r7
 have hp:=PastH.appH C₂.past au Jk (bf T₁) hl
 obtain⟨C₃,g1,_⟩:=vN (a':=a') C₂ ha₁ rfl (fun _=>hK) hc (fun x y hx fa hy=>absurd hx fa) hp
 obtain⟨N',m',T',h1,h2⟩:=Cu w'.drawn _ _ sl₂ q₁ (by simpa using ai.trans hn) g1 C₃
 exact⟨N+1+N',m',T',ConcX.runNT_trans (runNT_succ_of aa (az.trans gf)) h1,h2⟩
theorem Runs.ring(hR : ∀d T gs q,xfB R w.heap.size T gs (w.at d) q->xfB R' w.heap.size T gs (w.at d) q)(h:Runs Goal R' n a w):Runs Goal R n a w:=fun d gs T sl q h1 h2 h3=>h d gs T sl q h1 h2 (hR d T gs q h3)
section
variable{K K':World->Prop}{Still Still':Loc->Prop}{B:Nat}{Mem:Nat->Prop}{Inb:Nat->Option Seat}{h:Nat}{T:Trace}{gs:Array Goroutine}{q:Nat->Nat}{P:Program}
theorem xaA(hK : ∀w,K' w->K w)(hS : ∀l,Still l->Still' l){main:Bool}{s:Seat}{g g₂:Goroutine}(x:AtIn P main K Still B s g g₂):AtIn P main K' Still' B s g g₂:=by
 obtain⟨a,b,c,d,e,es,f,k⟩:=x
 exact⟨a,b,c,d,e,es,fun e he=>by obtain⟨x,y,z,u⟩:=f e he;exact⟨x,y,hS _ z,u⟩,fun w hw=>k w (hK w hw)⟩
theorem YI{main:Bool}{Ra Rb:World->World->Prop}(hR : ∀w w₁,Rb w w₁->Ra w w₁){D:World->World->Array Event->Prop}{Stop:Goroutine->World->Prop} : ∀ (n:Nat) (g:Goroutine) (w:World),Goes P main Ra D Stop n g w->Goes P main Rb D Stop n g w
 | 0,g,w,H=>fun w₁ h₁=>H w₁ (hR _ _ h₁)
 | n+1,g,w,H=>by
  rcases H with H|⟨hr,H⟩
  .exact .inl fun w₁ h₁=>H w₁ (hR _ _ h₁)
  .refine .inr ⟨hr,fun w₁ h₁ =>?_⟩
   have:=H w₁ (hR _ _ h₁)
   revert this
   cases stepG P main g w₁ with
   | go g' w' es=>exact fun⟨d,x⟩=>⟨d,YI hR n g' w' x⟩
   | _=>exact fun x=>x.elim
theorem xaB(hK : ∀w,K' w->K w)(hS : ∀l,Still l->Still' l){main:Bool}{s:Seat}{n:Nat}{g:Goroutine}(x:Sits P main K Still B s n g):Sits P main K' Still' B s n g:=by
 rcases x with⟨k,w,e,G⟩|⟨e,g₀,g₂,e',x⟩
 .exact .inl ⟨k,w,e,YI (fun w w₁ h=>hK _ h) k g w (goes_mono (fun w w' es ⟨a,b⟩=>⟨a,fun e he=>by obtain⟨x,y,z,u⟩:=b e he;exact⟨x,y,hS _ z,u⟩⟩) (fun g w ⟨g₂,x⟩=>⟨g₂,xaA hK hS x⟩) k g w G)⟩
 .exact .inr ⟨e,g₀,g₂,e',xaA hK hS x⟩
theorem xgX(hK : ∀w,K' w->K w)(hw:K' w)(C:Ring P K Still B Mem Inb h T gs w q):Ring P K' Still B Mem Inb h T gs w q:=by
 refine⟨fun i g hi hg =>?_,C.chans,C.wf,C.live,C.inj,C.above,C.mem,C.nomem,C.lo,C.past,hw⟩
 have x:=C.idle i g hi hg
 cases e:Inb i with
 | none=>rw[e]at x;exact x
 | some s=>rw[e]at x;exact xaB hK (fun _ x=>x) x
theorem xew(hS : ∀l,Still l->Still' l)(hN : ∀l,Still' l->Still l\/ ∃a,l = .cell a/\B<=a.block)(C:Ring P K Still B Mem Inb h T gs w q):Ring P K Still' B Mem Inb h T gs w q:=by
 refine⟨fun i g hi hg =>?_,C.chans,C.wf,C.live,C.inj,C.above,C.mem,C.nomem,C.lo,?_,C.keep⟩
 .have x:=C.idle i g hi hg
  cases e:Inb i with
  | none=>rw[e]at x;exact x
  | some s=>rw[e]at x;exact xaB (fun _ x=>x) hS x
 .have H:=C.past
  refine⟨H.clean,fun i a ha hm=>(H.known i a ha hm).imp id fun⟨x,y,z⟩=>⟨x,hS _ y,z⟩,fun i a ha f6 hs =>?_,H.hears,H.seen⟩
  rcases hN _ hs with y|⟨b,e,hb⟩
  .exact H.wrote i a ha f6 y
  .obtain⟨op,ab,rt⟩:=touch_of ha
   have hl:=H.seen op (Array.mem_of_getElem? ab)
   exact absurd hl (by
    have:op.act.low B->a.loc.low B:=fun hl=>by
     cases hx:op.act with
     | access ev=>rw[hx]at hl rt;simp only[MemAct.touch?,oI]at rt;subst rt;exact hl
     | mark m=>cases m<;>(rw[hx]at hl rt;first|(simp[MemAct.touch?]at rt;done)|(simp only[MemAct.touch?,oI]at rt;subst rt;exact hl))
     | _=>rw[hx]at rt;simp[MemAct.touch?]at rt
    intro hl
    have:=this hl
    rw[e]at this
    exact absurd (show b.block<B from this) (by omega))
theorem YJ(s:Seat)(hM:Mem h)(uz:s.Wf)(de : ∀c,s.has c ->∃cap k,w.heap[c]? = some (.chan cap #[] false k k false))(bw : ∀i t c,i≠h->Inb i=some t->t.has c ->¬s.has c)(hB : ∀c,s.has c->c<B)(C:Ring P K Still B Mem Inb h T gs w q):Ring P K Still B Mem (upd Inb h (some s)) h T gs w q:=by
 have inv : ∀i t,upd Inb h (some s) i=some t->(i=h/\t=s)\/(i≠h/\Inb i=some t):=fun i t e=>by
  by_cases ei:i=h
  .subst ei;rw[upd_same]at e;exact .inl ⟨rfl,(Option.some.inj e).symm⟩
  .rw[upd_ne Inb _ ei]at e;exact .inr ⟨ei,e⟩
 refine⟨fun i g hi hg=>by rw[upd_ne Inb _ hi];exact C.idle i g hi hg,fun i t c hi e hc =>?_,fun i t e =>?_,C.live,fun i i' t t' c e e' h1 h2 =>?_,C.above,fun i t e =>?_,fun i hi =>?_,fun i t hi e =>?_,PastG.loosen C.past fun g ⟨x,y⟩=>⟨x,by rw[upd_ne Inb _ x];exact y⟩,C.keep⟩
 .rcases inv i t e with⟨e1,e2⟩|⟨_,e⟩
  .exact de c (e2▸hc)
  .exact C.chans i t c hi e hc
 .rcases inv i t e with⟨e1,e2⟩|⟨_,e⟩
  .exact e2▸uz
  .exact C.wf i t e
 .rcases inv i t e with⟨e1,e2⟩|⟨n1,e⟩<;>rcases inv i' t' e' with⟨e3,e4⟩|⟨n2,e'⟩
  .exact e1.trans e3.symm
  .exact absurd (e2▸h1) (bw i' t' c n2 e' h2)
  .exact absurd (e4▸h2) (bw i t c n1 e h1)
  .exact C.inj i i' t t' c e e' h1 h2
 .rcases inv i t e with⟨e1,e2⟩|⟨_,e⟩
  .exact⟨e1▸hM,fun c hc=>hB c (e2▸hc)⟩
  .exact C.mem i t e
 .by_cases ei:i=h
  .exact .inr ei
  .rw[upd_ne Inb _ ei];exact C.nomem i hi
 .rcases inv i t e with⟨e1,e2⟩|⟨_,e⟩
  .exact absurd e1 hi
  .have:=C.lo i t hi e
   exact⟨this.1,by rw[upd_ne Inb _ this.1];exact this.2⟩
end
end Go.Proofs.YtfagfflkgmcnpaaGreatDoor.Mx
namespace Go.Proofs.YtfagfflkgmcnpaaGreatDoor.Mx
open Go Go.Conc Lx Kx Tx
def thrC(self:Int)(port done pend:Value)(busy closed:Bool)(quit:Nat):Array Value:= #[.int .i64 self,port,done,pend,.bool busy,.bool closed,.chan (some quit)]
def thrO(self:Int)(port done pend:Value)(busy closed:Bool)(quit:Nat):Obj :=.cells (thrC self port done pend busy closed quit) 118 (0,0)
def ThrAt(c:WC)(pend:Value)(busy closed:Bool)(w:World):Prop:=w.heap[c.tb]? = some (thrO c.self (.pointer (some ⟨c.pb,0,none⟩)) (.chan (some c.done)) pend busy closed c.quit)
theorem xy{x:Nat}{self:Int}{port done pend:Value}{busy closed:Bool}{quit:Nat}{w:World}(h:w.heap[x]? = some (thrO self port done pend busy closed quit))(k:Nat):w.cell? ⟨x,k,none⟩=(thrC self port done pend busy closed quit)[k]? /\ w.frozen? ⟨x,k,none⟩=false:=⟨xk h,xg h⟩
theorem Yc{x:Nat}{self:Int}{port done pend v:Value}{busy closed:Bool}{quit:Nat}{w:World}(h:w.heap[x]? = some (thrO self port done pend busy closed quit)):(w.setCell ⟨x,3,none⟩ v).heap[x]? = some (thrO self port done v busy closed quit)/\(∀y,y≠x->(w.setCell ⟨x,3,none⟩ v).heap[y]? = w.heap[y]?)/\(w.setCell ⟨x,3,none⟩ v).heap.size=w.heap.size:=by
 refine⟨?_,fun y hy =>?_,?_⟩
 .simp[World.setCell,Array.getElem?_modify,h,thrO,thrC]
 .show(w.heap.modify x _)[y]? = _
  rw[Array.getElem?_modify,dA fun h=>hy h.symm]
 .simp[World.setCell]
theorem VZ{x:Nat}{self:Int}{port done pend:Value}{busy closed b:Bool}{quit:Nat}{w:World}(h:w.heap[x]? = some (thrO self port done pend busy closed quit)):(w.setCell ⟨x,4,none⟩ (.bool b)).heap[x]? = some (thrO self port done pend b closed quit)/\(∀y,y≠x->(w.setCell ⟨x,4,none⟩ (.bool b)).heap[y]? = w.heap[y]?)/\(w.setCell ⟨x,4,none⟩ (.bool b)).heap.size=w.heap.size:=by
 refine⟨?_,fun y hy =>?_,?_⟩
 .simp[World.setCell,Array.getElem?_modify,h,thrO,thrC]
 .show(w.heap.modify x _)[y]? = _
  rw[Array.getElem?_modify,dA fun h=>hy h.symm]
 .simp[World.setCell]
theorem xbB{c:WC}{acc:Value}:commResult (mainCases c) .select 0 acc true = .tuple #[.int .i64 0,.bool true,acc,.nilIface]:=by kernel_rfl
theorem KL{c:WC}:commResult (mainCases c) .select 1 .nilIface true = .tuple #[.int .i64 1,.bool true,accV 0 0 0 0,.nilIface]:=by kernel_rfl
theorem xfC{x:Nat}{T U:TypeId}{cs rv:List Value}{w:World}(ho:w.heap[x]? = some (.cells cs.toArray T (0,0)))(hl:rv.length=cs.length)(h1 : ∀v∈rv,Lx.One v)(hz:(sizeOf U).run Tryz.prog w = .ok rv.length w)(Ej:(sizeOf U).events Tryz.prog w #[] = #[]) :
  ∃w',(Instr.storeAt U (.pointer (some ⟨x,0,none⟩)) (.agg rv.toArray)).run Tryz.prog w = .ok () w'/\w'.heap[x]? = some (.cells rv.toArray T (0,0))/\Keeps (fun b=>b=x) w w'/\w'.heap.size=w.heap.size/\
  ∀e∈(Instr.storeAt U (.pointer (some ⟨x,0,none⟩)) (.agg rv.toArray)).events Tryz.prog w #[],∃k,e=⟨.cell ⟨x,k,none⟩,true,false⟩:=by
 have ao:=(Array.getElem?_eq_some_iff.1 ho).1
 have aa:=vK Tryz.prog x 0 T rv 0 w cs ho h1 (by simp;omega)
 have rl:put cs 0 rv=rv:=xbx cs rv (by omega)
 rw[rl]at aa
 have ai:rv.toArray.size=rv.length:=by simp
 refine⟨{w with heap:=w.heap.setIfInBounds x (.cells rv.toArray T)},by simp only[Instr.storeAt,Instr.sureAddr,storeVar,Sem.run_bind,Sem.run_pure,Result.andThen_ok,hz,ne_eq,Value.cells,ai,not_true_eq_false,if_false];exact aa,by simp[ao],⟨rfl,rfl,rfl,by simp,fun y _ hy=>Array.getElem?_setIfInBounds_ne (fun h=>hy h.symm)⟩,by simp,fun e he =>?_⟩
 simp only[Instr.storeAt,Instr.sureAddr,storeVar,Sem.run_bind,Sem.run_pure,Sem.events_bind,Sem.events_pure,Result.evThen,Result.andThen_ok,hz,Ej,ne_eq,Value.cells,ai,not_true_eq_false,if_false]at he
 rcases Xr Tryz.prog x 0 T rv 0 w cs #[] ho h1 (by simp;omega) e he with h|h
 .simp at h
 .exact h
variable{c:WC}{Fs:Fo}{K:World->Prop}{Still:Loc->Prop}{B:Nat}{Inb:Nat->Option Seat}{sH:Seat}{HomeH:Goroutine->World->Prop}{n:Nat}{g g':Goroutine}{w w':World}{Goal:Machine->Trace->Prop}{R:Rg}{m:Nat}
abbrev HG(K:World->Prop)(Still:Loc->Prop)(B:Nat)(Inb:Nat->Option Seat)(c:WC)(Fs:Fo)(sH:Seat)(HomeH:Goroutine->World->Prop)(n:Nat)(a:Goroutine)(w:World):Prop:=
 Goes Tryz.prog true (RHt c Fs) (DG K Inb (EvH Still (M0t c.tb) B) (RJt c.tb)) (AtH Tryz.prog Still (M0t c.tb) B true sH HomeH) n a w
theorem yO(h : ∀w₁,stepG Tryz.prog true g w₁ = .go g' w₁)(hr:g.status = .running)(hn:HG K Still B Inb c Fs sH HomeH n g' w):HG K Still B Inb c Fs sH HomeH (n+1) g w:=
 Goes.step hr fun w₁ h₁=>by
  rw[h w₁]
  simp only[goes_go]
  exact⟨⟨id,fun _ _ _ _ _=>rfl,RJt.refl _,by simp⟩,Goes.rely (fun _ _ _ x y=>x.trans y) hn h₁⟩
section
variable{b:Frame}{a:Act}{ops:Array Oper}{i:Nat}{rest:List Nat}{o:Oper}{k:List Item}{cs:List Frame}{v:Value}
theorem jA(ho:ops[i]? = some o)(hw:Region.wanted o (yielded ops a.tmps)=true)(hk:b.kind ≠ .early)(h : ∀w₁,RHt c Fs w w₁->(execOp a.eval o).run Tryz.prog w₁ = .ok (.value v) w₁/\ ∀e∈(execOp a.eval o).events Tryz.prog w₁ #[],EvH Still (M0t c.tb) B e)
  (hn:HG K Still B Inb c Fs sH HomeH n (G (b.at (a.put o.dst v) (.inRegion ops rest::k)) cs) w):HG K Still B Inb c Fs sH HomeH (n+1) (G (b.at a (.inRegion ops (i::rest)::k)) cs) w:=
 Goes.step rfl fun w₁ h₁=>by
  rw[stepG_value ho hw hk (h w₁ h₁).1]
  simp only[goes_go]
  exact⟨⟨id,fun _ _ _ _ _=>rfl,RJt.refl _,fun ev he=>(h w₁ h₁).2 ev (Kx.mem_seen he)⟩,Goes.rely (fun _ _ _ x y=>x.trans y) hn h₁⟩
theorem jm(ho:ops[i]? = some o)(hw:Region.wanted o (yielded ops a.tmps)=true)(hn:HG K Still B Inb c Fs sH HomeH n (G (b.at (a.put o.dst v) (.inRegion ops rest::k)) cs) w)(hk:b.kind ≠ .early:=by decide)
  (h : ∀w₁,RHt c Fs w w₁->(execOp a.eval o).run Tryz.prog w₁ = .ok (.value v) w₁/\ ∀e∈(execOp a.eval o).events Tryz.prog w₁ #[],EvH Still (M0t c.tb) B e:=by exact fun _ _=>⟨by simp[go_sem,execOp,Act.eval];rfl,by simp[go_sem,execOp,Act.eval]⟩):HG K Still B Inb c Fs sH HomeH (n+1) (G (b.at a (.inRegion ops (i::rest)::k)) cs) w:=jA ho hw hk h hn
theorem xii(hKJ : ∀w w',RJt c.tb w w'->K w->K w')(hC : ∀i s c',Inb i=some s->s.has c'->c'≠c.tb)(ho:ops[i]? = some o)(hw:Region.wanted o (yielded ops a.tmps)=true)(hk:b.kind ≠ .early)
  (h : ∀w₁,RHt c Fs w w₁ ->∃w',(execOp a.eval o).run Tryz.prog w₁ = .ok .skip w'/\RJt c.tb w₁ w'/\(∀e∈(execOp a.eval o).events Tryz.prog w₁ #[],EvH Still (M0t c.tb) B e)/\HG K Still B Inb c Fs sH HomeH n (G (b.at (a.put o.dst undef) (.inRegion ops rest::k)) cs) w'):HG K Still B Inb c Fs sH HomeH (n+1) (G (b.at a (.inRegion ops (i::rest)::k)) cs) w:=
 Goes.step rfl fun w₁ h₁=>by
  obtain⟨w',h2,h3,h4,h5⟩:=h w₁ h₁
  rw[stepG_none ho hw hk h2]
  simp only[goes_go]
  refine⟨⟨hKJ _ _ h3,fun i s c' hi hc =>?_,h3,fun ev he=>h4 ev (Kx.mem_seen he)⟩,h5⟩
  by_cases e:c'<w₁.heap.size
  .exact h3.1.block c' e (hC i s c' hi hc)
  .exact(Array.getElem?_eq_none (by rw[h3.2];omega)).trans (Array.getElem?_eq_none (by omega)).symm
theorem xe(hO:R.Ok)(h : ∀w₁,stepG Tryz.prog true g w₁ = .go g' w₁)(hr:g.status = .running)(hn:Runs Goal R m g' w):Runs Goal R m g w:=
 Runs.go hO hr fun _ d hk=>⟨g',w.at d,#[],h _,hk,fun _ _ _ _ _=>rfl,dJ _,by simp,hn.at_⟩
theorem m_op(hO:R.Ok)(ho:ops[i]? = some o)(hw:Region.wanted o (yielded ops a.tmps)=true)(hk:b.kind ≠ .early)(h : ∀w₁:World,w₁.heap=w.heap->(execOp a.eval o).run Tryz.prog w₁ = .ok (.value v) w₁/\ ∀e∈(execOp a.eval o).events Tryz.prog w₁ #[],EvHd R.Still w₁.heap.size e)
  (hn:Runs Goal R m (G (b.at (a.put o.dst v) (.inRegion ops rest::k)) cs) w):Runs Goal R m (G (b.at a (.inRegion ops (i::rest)::k)) cs) w:=
 Runs.go hO rfl fun _ d am=>⟨_,w.at d,_,stepG_value ho hw hk (h (w.at d) rfl).1,am,fun _ _ _ _ _=>rfl,dJ _,fun ev he=>(h (w.at d) rfl).2 ev (Kx.mem_seen he),hn.at_⟩
theorem xp(hO:R.Ok)(ho:ops[i]? = some o)(hw:Region.wanted o (yielded ops a.tmps)=true)(hn:Runs Goal R m (G (b.at (a.put o.dst v) (.inRegion ops rest::k)) cs) w)(hk:b.kind ≠ .early:=by decide)
  (h : ∀w₁:World,w₁.heap=w.heap->(execOp a.eval o).run Tryz.prog w₁ = .ok (.value v) w₁/\ ∀e∈(execOp a.eval o).events Tryz.prog w₁ #[],EvHd R.Still w₁.heap.size e:=by exact fun _ _=>⟨by simp[go_sem,execOp,Act.eval];rfl,by simp[go_sem,execOp,Act.eval]⟩):Runs Goal R m (G (b.at a (.inRegion ops (i::rest)::k)) cs) w:=m_op hO ho hw hk h hn
theorem xL(hO:R.Ok)(ho:ops[i]? = some o)(hw:Region.wanted o (yielded ops a.tmps)=true)(hn:Runs Goal R m (G (b.at (a.put o.dst v) (.inRegion ops rest::k)) cs) w)(hk:b.kind ≠ .early:=by decide)
  (h : ∀w₁:World,w₁.heap=w.heap->(execOp a.eval o).run Tryz.prog w₁ = .ok (.value v) w₁/\ ∀e∈(execOp a.eval o).events Tryz.prog w₁ #[],EvHd R.Still w₁.heap.size e:=by exact fun _ _=>⟨by simp[go_sem,execOp,Act.eval],by simp[go_sem,execOp,Act.eval]⟩):Runs Goal R m (G (b.at a (.inRegion ops (i::rest)::k)) cs) w:=m_op hO ho hw hk h hn
theorem xij (hO:R.Ok) (ho:ops[i]? = some o) (hw:Region.wanted o (yielded ops a.tmps)=true) (hk:b.kind ≠ .early) (h:WH R w ->∀d,R.K (w.at d) ->∃v w',(execOp a.eval o).run Tryz.prog (w.at d) = .ok (.value v) w'/\R.K w'/\(∀i s c,R.Inb i=some s->s.has c->w'.heap[c]? = w.heap[c]?)/\w.heap.size<=w'.heap.size/\(∀e∈(execOp a.eval o).events Tryz.prog (w.at d) #[],EvHd R.Still w'.heap.size e)/\
   Runs Goal R m (G (b.at (a.put o.dst v) (.inRegion ops rest::k)) cs) w'):Runs Goal R m (G (b.at a (.inRegion ops (i::rest)::k)) cs) w:=
 Runs.go hO rfl fun hl d am=>by
  obtain⟨v,w',h1,h2,h3,h4,h5,h6⟩:=h hl d am
  exact⟨_,w',_,stepG_value ho hw hk h1,h2,h3,h4,fun ev he=>h5 ev (Kx.mem_seen he),h6⟩
theorem wj (hO:R.Ok) (ho:ops[i]? = some o) (hw:Region.wanted o (yielded ops a.tmps)=true) (hk:b.kind ≠ .early) (h:WH R w ->∀d,R.K (w.at d) ->∃w',(execOp a.eval o).run Tryz.prog (w.at d) = .ok .skip w'/\R.K w'/\(∀i s c,R.Inb i=some s->s.has c->w'.heap[c]? = w.heap[c]?)/\w.heap.size<=w'.heap.size/\(∀e∈(execOp a.eval o).events Tryz.prog (w.at d) #[],EvHd R.Still w'.heap.size e)/\
   Runs Goal R m (G (b.at (a.put o.dst undef) (.inRegion ops rest::k)) cs) w'):Runs Goal R m (G (b.at a (.inRegion ops (i::rest)::k)) cs) w:=
 Runs.go hO rfl fun hl d am=>by
  obtain⟨w',h1,h2,h3,h4,h5,h6⟩:=h hl d am
  exact⟨_,w',_,stepG_none ho hw hk h1,h2,h3,h4,fun ev he=>h5 ev (Kx.mem_seen he),h6⟩
end
theorem xl{N x off:Nat}{wr:Bool}(h:x<N)(hs:wr=true ->¬Still (.cell ⟨x,off,none⟩)):EvHd Still N ⟨.cell ⟨x,off,none⟩,wr,false⟩:=by
 refine⟨fun y hy hS =>?_,by simp,by simp,?_⟩
 .simp[MemAct.ofEvent,MemAct.touch?]at hy
  subst hy
  cases wr with
  | false=>rfl
  | true=>exact absurd hS (hs rfl)
 .exact h
theorem Ka{off:Nat}{wr:Bool}(h:c.tb<B)(hs : ∀k,¬Still (.cell ⟨c.tb,k,none⟩)):EvH Still (M0t c.tb) B ⟨.cell ⟨c.tb,off,none⟩,wr,false⟩:=
 ⟨xl h fun _=>hs off,fun x hx _ =>.inl (by simp[MemAct.ofEvent,MemAct.touch?]at hx;subst hx;rfl)⟩
theorem xgY{x off:Nat}(h:x<B)(hs:Still (.cell ⟨x,off,none⟩)):EvH Still (M0t c.tb) B ⟨.cell ⟨x,off,none⟩,false,false⟩:=
 ⟨xl h (fun e=>by cases e),fun x hx _ =>.inr (by simp[MemAct.ofEvent,MemAct.touch?]at hx;subst hx;exact⟨rfl,hs⟩)⟩
theorem ThrAt.rh{pend:Value}{busy closed:Bool}(R:Round c Fs K Inb Still)(hp:c.tb≠c.pb/\c.tb≠c.wb)(h:ThrAt c pend busy closed w)(r:RHt c Fs w w'):ThrAt c pend busy closed w':=by
 unfold ThrAt at h |-
 rw[r.keeps.block _ (Array.getElem?_eq_some_iff.1 h).1 fun z=>z.elim (fun y=>y R.tb) fun z=>z.elim hp.1 fun z=>z.elim hp.2 fun e=>R.dn.2.2.2 e.symm]
 exact h
structure Free(R:Rg)(tb:Nat):Prop where
 st : ∀k,¬R.Still (.cell ⟨tb,k,none⟩)
 keep : ∀w w',(∀b k,R.Still (.cell ⟨b,k,none⟩)->w'.heap[b]? = w.heap[b]?)->R.K w->R.K w'
 chans : ∀i s c',R.Inb i=some s->s.has c'->c'≠tb
 low : ∀w b k,R.K w->R.Still (.cell ⟨b,k,none⟩)->b<w.heap.size
theorem Free.keeps{R:Rg}{tb:Nat}(h:Free R tb){w w':World}(k:Keeps (fun b=>b=tb) w w')(hK:R.K w):R.K w':=
 h.keep w w' (fun b n hb=>k.block b (h.low w b n hK hb) fun e=>h.st n (e▸hb)) hK
theorem Free.seats{R:Rg}{tb:Nat}(h:Free R tb){w w':World}(hl:WH R w)(hk:Keeps (fun b=>b=tb) w w') : ∀i s c,R.Inb i=some s->s.has c->w'.heap[c]? = w.heap[c]? :=fun i s c hi hc=>hk.block c (hl i s c hi hc) (h.chans i s c hi hc)
theorem StillAt.rj(hp:c.tb≠c.pb)(h:StillAt c w)(r:RJt c.tb w w'):StillAt c w':=by
 obtain⟨n,told,h⟩:=h
 exact⟨n,told,by rw[r.1.block _ (Array.getElem?_eq_some_iff.1 h).1 (Ne.symm hp)];exact h⟩
theorem yq(P:Program)(w:World)(es:Array Event)(a:Addr)(m:Mode)(b:Bool):(store a (.bool b) m).events P w es=storedEv P w es a (.bool b) m:=events_store P w es a _ m rfl
theorem yP(P:Program)(w:World)(es:Array Event)(a:Addr)(m:Mode)(p:Option Addr):(store a (.pointer p) m).events P w es=storedEv P w es a (.pointer p) m:=events_store P w es a _ m rfl
theorem xc1{b:Frame}{a:Act}{ops:Array Oper}{i:Nat}{rest:List Nat}{o:Oper}{k:List Item}{cs:List Frame}{f:FuncId}{args:Array Value}(ho:ops[i]? = some o)(hw:Region.wanted o (yielded ops a.tmps)=true)(hk:b.kind ≠ .early)
  (h : ∀w₁,(execOp a.eval o).run Tryz.prog w₁ = .ok (.enter f args) w₁/\(execOp a.eval o).events Tryz.prog w₁ #[] = #[]) (hn:HG K Still B Inb c Fs sH HomeH n (G (Frame.enter Tryz.prog f args .normal) (b.at a (.inRegion ops (i::rest)::k)::cs)) w):HG K Still B Inb c Fs sH HomeH (n+1) (G (b.at a (.inRegion ops (i::rest)::k)) cs) w:=
 Goes.step rfl fun w₁ h₁=>by
  rw[stepG_enter ho hw hk (h w₁).1]
  simp only[goes_go]
  exact⟨⟨id,fun _ _ _ _ _=>rfl,RJt.refl _,fun ev he=>by have:=Kx.mem_seen he;rw[(h w₁).2]at this;simp at this⟩,Goes.rely (fun _ _ _ x y=>x.trans y) hn h₁⟩
theorem hg_stop{X:World->Prop}(hsH:sH.cases=mainCases c/\sH.shape = .select)(hr:g.status = .running)(h : ∀w₂,RHt c Fs w w₂->X w₂/\ ∃es,stepG Tryz.prog true g w₂ = .comm g (mainCases c) true .select w₂ es/\ ∀e∈es,EvH Still (M0t c.tb) B e):HG K Still B Inb c Fs sH (fun a w=>a=g/\X w) 0 g w:=
 Goes.stop (n:=0) fun w₂ h₂=>by
  obtain⟨hX,es,hs,he⟩:=h w₂ h₂
  exact⟨hr,g,es,⟨rfl,hX⟩,he,by rw[hs,hsH.1,hsH.2]⟩
theorem xc2(R:Round c Fs K Inb Still)(hp:c.tb≠c.pb/\c.tb≠c.wb)(hKJ : ∀w w',RJt c.tb w w'->K w->K w')(az : ∀k,¬Still (.cell ⟨c.tb,k,none⟩))(Dn:Still (.cell ⟨c.pb,3,none⟩))(hB:c.tb<B/\c.pb<B)(hsH:sH.cases=mainCases c/\sH.shape = .select)
  (pend:Value) (busy closed:Bool) (caller:Frame) (cs:List Frame) :
  ∃N a₂,(∀w,ThrAt c pend busy closed w->StillAt c w->HG K Still B Inb c Fs sH (fun a w=>a=a₂/\ThrAt c (.pointer none) busy closed w/\StillAt c w) N (G (Frame.enter Tryz.prog 59 #[.pointer (some ⟨c.tb,0,none⟩)] .normal) (caller::cs)) w)/\
   (∀ {R':Rg} {m:Nat} {w₂:World} {k at_ x y:Int} {busy closed:Bool},R'.Ok->Free R' c.tb->ThrAt c (.pointer none) busy closed w₂->
    (∀w₃ px,px=w₂.heap.size->w₃.heap[px]? = some (.cells #[.int .u8 k,.int .i64 at_,.int .u64 x,.int .u64 y] 143 (0,0))->Keeps (fun b=>b=c.tb) w₂ w₃->ThrAt c (.pointer (some ⟨px,0,none⟩)) busy closed w₃->w₃.heap.size=w₂.heap.size+1->Runs Goal R' m (G (caller.finish (.tuple #[])) cs) w₃)->
    Runs Goal R' m (Go.Conc.served a₂ (commResult (mainCases c) .select 0 (accV k at_ x y) true)) w₂)/\
   (∀ {R':Rg} {m:Nat} {w₂:World} {busy closed:Bool},R'.Ok->Free R' c.tb->ThrAt c (.pointer none) busy closed w₂->
    (∀w₃,Keeps (fun b=>b=c.tb) w₂ w₃->ThrAt c (.pointer none) false closed w₃->w₃.heap.size=w₂.heap.size->Runs Goal R' m (G (caller.finish (.tuple #[])) cs) w₃)->
    Runs Goal R' m (Go.Conc.served a₂ (commResult (mainCases c) .select 1 .nilIface true)) w₂):=by
 rw[enter_at _ Tryz.func59 (by rfl)]
 simp only[Tryz.f59]
 refine⟨26,?_⟩
 apply Exists.intro
 refine⟨?_,?_,?_⟩
 case' refine_1=>
  intro w hT hS
 refine yO (fun _=>stepG_seq) rfl ?_
 refine yO (fun _=>stepG_region) rfl ?_
 simp only[List.size_toArray,List.length_cons,List.length_nil,Nat.reduceAdd,Nat.zero_add,List.range,List.range.loop]
 refine jm rfl rfl ?_
 walk_nrm
 refine jm rfl rfl ?_
 walk_nrm
 refine jm rfl rfl ?_
 walk_nrm
 refine xii hKJ (fun i s c' hi hc=>(R.chans i s c' hi hc).2.2.2) rfl rfl (by decide) fun w₁ h₁ =>?_
 have hT₁:=hT.rh R hp h₁
 have hS₁:=h₁.still hS
 obtain⟨hc,hz⟩:=xy hT₁ 3
 simp only[thrC]at hc
 obtain⟨p1,p2,p3⟩:=Yc (v :=.pointer none) hT₁
 have hJ:RJt c.tb w₁ (w₁.setCell ⟨c.tb,3,none⟩ (.pointer none)):=⟨⟨rfl,rfl,rfl,Nat.le_of_eq p3.symm,fun b _ hn=>p2 b hn⟩,p3⟩
 refine⟨w₁.setCell ⟨c.tb,3,none⟩ (.pointer none),by simp[go_sem,execOp,Act.eval,hc,hz],hJ,fun ev he=>by
  simp[go_sem,execOp,Act.eval,hc,hz,storedEv,yP,yq]at he
  subst he
  exact Ka hB.1 az,?_⟩
 have hT:ThrAt c (.pointer none) busy closed (w₁.setCell ⟨c.tb,3,none⟩ (.pointer none)):=p1
 have hS:=StillAt.rj hp.1 hS₁ hJ
 generalize w₁.setCell ⟨c.tb,3,none⟩ (.pointer none)=W at hT hS |-
 walk_nrm
 refine yO (fun _=>stepG_region_end) rfl ?_
 refine yO (fun _=>stepG_seq) rfl ?_
 refine yO (fun _=>stepG_seq) rfl ?_
 refine yO (fun _=>stepG_region) rfl ?_
 simp only[List.size_toArray,List.length_cons,List.length_nil,Nat.reduceAdd,Nat.zero_add,List.range,List.range.loop]
 refine jm rfl rfl ?_
 walk_nrm
 refine jm rfl rfl ?_
 walk_nrm
 refine jm rfl rfl ?_
 walk_nrm
 refine jA (v :=.pointer (some ⟨c.pb,0,none⟩)) rfl rfl (by decide) (fun w₂ h₂ =>?_) ?_
 .obtain⟨hc,hz⟩:=xy (hT.rh R hp h₂) 1
  simp only[thrC]at hc
  exact⟨by simp[go_sem,execOp,Act.eval,hc,hz],fun ev he=>by
   simp[go_sem,execOp,Act.eval,hc,hz]at he
   subst he
   exact Ka hB.1 az⟩
 walk_nrm
 refine jm rfl rfl ?_
 walk_nrm
 refine jm rfl rfl ?_
 walk_nrm
 refine jA (v :=.chan (some c.ask)) rfl rfl (by decide) (fun w₂ h₂ =>?_) ?_
 .obtain⟨n₂,told,gy⟩:=h₂.still hS
  obtain⟨hc,hz⟩:=yB gy 3
  simp only[waitsC]at hc
  exact⟨by simp[go_sem,execOp,Act.eval,hc,hz],fun ev he=>by
   simp[go_sem,execOp,Act.eval,hc,hz]at he
   subst he
   exact xgY hB.2 Dn⟩
 walk_nrm
 refine yO (fun _=>stepG_region_end) rfl ?_
 refine yO (fun _=>stepG_region) rfl ?_
 simp only[List.size_toArray,List.length_cons,List.length_nil,Nat.reduceAdd,Nat.zero_add,List.range,List.range.loop]
 refine jm rfl rfl ?_
 walk_nrm
 refine jm rfl rfl ?_
 walk_nrm
 refine jm rfl rfl ?_
 walk_nrm
 refine jA (v :=.chan (some c.done)) rfl rfl (by decide) (fun w₂ h₂ =>?_) ?_
 .obtain⟨hc,hz⟩:=xy (hT.rh R hp h₂) 2
  simp only[thrC]at hc
  exact⟨by simp[go_sem,execOp,Act.eval,hc,hz],fun ev he=>by
   simp[go_sem,execOp,Act.eval,hc,hz]at he
   subst he
   exact Ka hB.1 az⟩
 walk_nrm
 refine yO (fun _=>stepG_region_end) rfl ?_
 refine yO (fun _=>stepG_seq) rfl ?_
 refine yO (fun _=>stepG_region) rfl ?_
 simp only[List.size_toArray,List.length_cons,List.length_nil,Nat.reduceAdd,Nat.zero_add,List.range,List.range.loop]
 refine hg_stop hsH rfl fun w₂ h₂=>⟨⟨hT.rh R hp h₂,h₂.still hS⟩,_,stepG_comm rfl rfl (by decide) (by simp[go_sem,execOp,Act.eval,mainCases,rcase];rfl),fun e he =>?_⟩
 have:=Kx.mem_seen he
 simp[go_sem,execOp,Act.eval]at this
 .intro R' m w₂ k at_ x y busy closed hO hF hT hn
  rw[served_fr,Frame.finish_at,xbB]
  walk_nrm
  refine xL (v :=.int .i64 0) hO rfl rfl ?_
  walk_nrm
  refine xL (v :=.bool true) hO rfl rfl ?_
  walk_nrm
  refine xL (v :=.bool false) hO rfl rfl ?_
  walk_nrm
  refine xe hO (fun _=>stepG_region_end) rfl ?_
  refine xe hO (fun _=>stepG_block) rfl ?_
  refine xe hO (fun _=>stepG_cond (t:=true) rfl) rfl ?_
  simp only[if_true]
  refine xe hO (fun _=>stepG_seq) rfl ?_
  refine xe hO (fun _=>stepG_region) rfl ?_
  simp only[List.size_toArray,List.length_cons,List.length_nil,Nat.reduceAdd,Nat.zero_add,List.range,List.range.loop]
  refine xL (v:=accV k at_ x y) hO rfl rfl ?_
  walk_nrm
  refine xij hO rfl rfl (by decide) fun hl d hk =>?_
  have fy:Keeps (fun b=>b=c.tb) (w₂.at d) ((w₂.at d).alloc (.cells #[.int .u8 0,.int .i64 0,.int .u64 0,.int .u64 0] 143)):=⟨rfl,rfl,rfl,by rw[World.size_alloc];exact Nat.le_succ _,fun b hb _=>alloc_old hb⟩
  refine⟨.pointer (some ⟨w₂.heap.size,0,none⟩),(w₂.at d).alloc (.cells #[.int .u8 0,.int .i64 0,.int .u64 0,.int .u64 0] 143),by simp[go_sem,execOp,Act.eval],hF.keeps fy hk,fun i s c' hi ah=>hF.seats (w:=w₂.at d) hl fy i s c' hi ah,fy.size,fun ev he=>by simp[go_sem,execOp,Act.eval]at he,?_⟩
  have hx:((w₂.at d).alloc (.cells #[.int .u8 0,.int .i64 0,.int .u64 0,.int .u64 0] 143)).heap[w₂.heap.size]? = some (.cells [.int .u8 0,.int .i64 0,.int .u64 0,.int .u64 0].toArray 143 (0,0)):=heap_alloc_new _ _
  have dy:c.tb<w₂.heap.size:=(Array.getElem?_eq_some_iff.1 hT).1
  have hT:((w₂.at d).alloc (.cells #[.int .u8 0,.int .i64 0,.int .u64 0,.int .u64 0] 143)).heap[c.tb]? = some (thrO c.self (.pointer (some ⟨c.pb,0,none⟩)) (.chan (some c.done)) (.pointer none) busy closed c.quit):=(alloc_old (w:=w₂.at d) dy).trans hT
  have hK0:Keeps (fun b=>b=c.tb) w₂ ((w₂.at d).alloc (.cells #[.int .u8 0,.int .i64 0,.int .u64 0,.int .u64 0] 143)):=⟨rfl,rfl,rfl,fy.size,fun b hb _=>alloc_old (w:=w₂.at d) hb⟩
  have ai:((w₂.at d).alloc (.cells #[.int .u8 0,.int .i64 0,.int .u64 0,.int .u64 0] 143)).heap.size=w₂.heap.size+1:=World.size_alloc _ _
  generalize(w₂.at d).alloc (.cells #[.int .u8 0,.int .i64 0,.int .u64 0,.int .u64 0] 143)=W at hx hT hK0 ai |-
  generalize u9:w₂.heap.size=px at hx ai dy |-
  walk_nrm
  refine wj hO rfl rfl (by decide) fun _ d' am =>?_
  obtain⟨w',hr,cr,o9,d5,bt⟩:=xfC (U:= 143) (rv :=[.int .u8 k,.int .i64 at_,.int .u64 x,.int .u64 y]) (w:=W.at d') hx rfl (by simp[Lx.One,Value.cells]) (by kernel_rfl) (by kernel_rfl)
  have Fi : ∀b k,R'.Still (.cell ⟨b,k,none⟩)->b≠px/\b<W.heap.size:=fun b k hb=>by
   have:=hF.low (w₂.at d) b k hk hb
   have e:(w₂.at d).heap.size=px:=u9
   omega
  refine⟨w',by simp[execOp,Act.eval,accV,hr],hF.keep _ _ (fun b k hb=>o9.block b (Fi b k hb).2 (Fi b k hb).1) am,fun i s c' hi ah =>?_,Nat.le_of_eq d5.symm,fun ev he =>?_,?_⟩
  .have:=hl i s c' hi ah
   exact o9.block c' (show c'<W.heap.size by omega) (by omega)
  .obtain⟨k',rfl⟩:=bt ev (by simpa[execOp,Act.eval,accV]using he)
   exact xl (by rw[d5];show px<W.heap.size;omega) fun _ h=>(Fi _ _ h).1 rfl
  have hT:w'.heap[c.tb]? = some (thrO c.self (.pointer (some ⟨c.pb,0,none⟩)) (.chan (some c.done)) (.pointer none) busy closed c.quit):=(o9.block c.tb (show c.tb<W.heap.size by omega) (by omega)).trans hT
  have hK1:Keeps (fun b=>b=c.tb) w₂ w':=hK0.trans (S':=fun b=>b=px) ⟨o9.os,o9.tape,o9.output,o9.size,o9.block⟩ fun b hb =>.inr (by rw[hb,u9];exact dJ _)
  have Ca:w'.heap.size=px+1:=d5.trans ai
  clear o9 bt hr hx hK0 fy
  generalize w'=W₂ at hT hK1 Ca cr |-
  walk_nrm
  refine xe hO (fun _=>stepG_region_end) rfl ?_
  refine xe hO (fun _=>stepG_region) rfl ?_
  simp only[List.size_toArray,List.length_cons,List.length_nil,Nat.reduceAdd,Nat.zero_add,List.range,List.range.loop]
  refine xp hO rfl rfl ?_
  walk_nrm
  refine xp hO rfl rfl ?_
  walk_nrm
  refine xp hO rfl rfl ?_
  walk_nrm
  refine wj hO rfl rfl (by decide) fun hl d hk =>?_
  obtain⟨hc,hz⟩:=xy (w:=W₂.at d) hT 3
  simp only[thrC]at hc
  obtain⟨p1,p2,p3⟩:=Yc (v :=.pointer (some ⟨px,0,none⟩)) (w:=W₂.at d) hT
  have hK:Keeps (fun b=>b=c.tb) (W₂.at d) ((W₂.at d).setCell ⟨c.tb,3,none⟩ (.pointer (some ⟨px,0,none⟩))):=⟨rfl,rfl,rfl,Nat.le_of_eq p3.symm,fun b _ hn=>p2 b hn⟩
  refine⟨(W₂.at d).setCell ⟨c.tb,3,none⟩ (.pointer (some ⟨px,0,none⟩)),by simp[go_sem,execOp,Act.eval,hc,hz],hF.keeps hK hk,fun i s c' hi ah=>hF.seats (w:=W₂.at d) hl hK i s c' hi ah,Nat.le_of_eq p3.symm,fun ev he=>by
   simp[go_sem,execOp,Act.eval,hc,hz,storedEv,yP,yq]at he
   subst he
   exact xl (by rw[p3];exact(Array.getElem?_eq_some_iff.1 hT).1) fun _=>hF.st _,?_⟩
  walk_nrm
  have hn:=hn _ px u9.symm ((p2 px (by omega)).trans cr) (hK1.trans (S':=fun b=>b=c.tb) ⟨rfl,rfl,rfl,hK.size,hK.block⟩ fun b hb =>.inl hb) p1 (p3.trans (by rw[u9];exact Ca))
  generalize(W₂.at d).setCell ⟨c.tb,3,none⟩ (.pointer (some ⟨px,0,none⟩))=W₃ at hn |-
  refine xe hO (fun _=>stepG_region_end) rfl ?_
  refine xe hO (fun _=>stepG_inBlock) rfl ?_
  refine xe hO (fun _=>stepG_end) rfl ?_
  refine xe hO (fun w₄=>stepG_leave rfl rfl Tryz.func59 (results_none rfl _ _ _) (events_results_none rfl _ _)) rfl ?_
  exact hn
 .intro R' m w₂ busy closed hO hF hT hn
  rw[served_fr,Frame.finish_at,KL]
  walk_nrm
  refine xL (v :=.int .i64 1) hO rfl rfl ?_
  walk_nrm
  refine xL (v :=.bool false) hO rfl rfl ?_
  walk_nrm
  refine xL (v :=.bool true) hO rfl rfl ?_
  walk_nrm
  refine xe hO (fun _=>stepG_region_end) rfl ?_
  refine xe hO (fun _=>stepG_block) rfl ?_
  refine xe hO (fun _=>stepG_cond (t:=false) rfl) rfl ?_
  simp only[Bool.false_eq_true,if_false]
  refine xe hO (fun _=>stepG_cond (t:=true) rfl) rfl ?_
  simp only[if_true]
  refine xe hO (fun _=>stepG_seq) rfl ?_
  refine xe hO (fun _=>stepG_region) rfl ?_
  simp only[List.size_toArray,List.length_cons,List.length_nil,Nat.reduceAdd,Nat.zero_add,List.range,List.range.loop]
  refine xL (v :=.nilIface) hO rfl rfl ?_
  walk_nrm
  refine xL (v :=.nilIface) hO rfl rfl ?_
  walk_nrm
  refine xe hO (fun _=>stepG_region_end) rfl ?_
  refine xe hO (fun _=>stepG_seq) rfl ?_
  refine xe hO (fun _=>stepG_region) rfl ?_
  simp only[List.size_toArray,List.length_cons,List.length_nil,Nat.reduceAdd,Nat.zero_add,List.range,List.range.loop]
  refine xp hO rfl rfl ?_
  walk_nrm
  refine xp hO rfl rfl ?_
  walk_nrm
  refine xp hO rfl rfl ?_
  walk_nrm
  have hT:w₂.heap[c.tb]? = some _:=hT
  refine wj hO rfl rfl (by decide) fun hl d hk =>?_
  obtain⟨hc,hz⟩:=xy (w:=w₂.at d) hT 4
  simp only[thrC]at hc
  obtain⟨p1,p2,p3⟩:=VZ (b:=false) (w:=w₂.at d) hT
  have hK:Keeps (fun b=>b=c.tb) (w₂.at d) ((w₂.at d).setCell ⟨c.tb,4,none⟩ (.bool false)):=⟨rfl,rfl,rfl,Nat.le_of_eq p3.symm,fun b _ hn=>p2 b hn⟩
  refine⟨(w₂.at d).setCell ⟨c.tb,4,none⟩ (.bool false),by simp[go_sem,execOp,Act.eval,hc,hz],hF.keeps hK hk,fun i s c' hi ah=>hF.seats (w:=w₂.at d) hl hK i s c' hi ah,Nat.le_of_eq p3.symm,fun ev he=>by
   simp[go_sem,execOp,Act.eval,hc,hz,storedEv,yP,yq]at he
   subst he
   exact xl (by rw[p3];exact(Array.getElem?_eq_some_iff.1 hT).1) fun _=>hF.st _,?_⟩
  walk_nrm
  have hn:=hn _ ((⟨rfl,rfl,rfl,dJ _,fun _ _ _=>rfl⟩:Keeps (fun b=>b=c.tb) w₂ (w₂.at d)).trans hK fun b hb =>.inl hb) p1 p3
  generalize(w₂.at d).setCell ⟨c.tb,4,none⟩ (.bool false)=W at hn |-
  refine xe hO (fun _=>stepG_region_end) rfl ?_
  refine xe hO (fun _=>stepG_seq) rfl ?_
  refine xe hO (fun _=>stepG_region) rfl ?_
  simp only[List.size_toArray,List.length_cons,List.length_nil,Nat.reduceAdd,Nat.zero_add,List.range,List.range.loop]
  refine xL (v :=.nilIface) hO rfl rfl ?_
  walk_nrm
  refine m_op (v :=.bool false) hO rfl rfl (by decide) (fun w₄ h₄=>⟨by simp[go_sem,execOp,Act.eval],by
   simp[go_sem,execOp,Act.eval]
   rw[show Sem.events Tryz.prog (binOp BinOp.neq 20 Value.nilIface Value.nilIface) w₄ #[] = #[]from by kernel_rfl]
   simp⟩) ?_
  walk_nrm
  refine xe hO (fun _=>stepG_region_end) rfl ?_
  refine xe hO (fun _=>stepG_cond (t:=false) rfl) rfl ?_
  simp only[Bool.false_eq_true,if_false]
  refine xe hO (fun _=>stepG_skip) rfl ?_
  refine xe hO (fun _=>stepG_inBlock) rfl ?_
  refine xe hO (fun _=>stepG_end) rfl ?_
  refine xe hO (fun w₄=>stepG_leave rfl rfl Tryz.func59 (results_none rfl _ _ _) (events_results_none rfl _ _)) rfl ?_
  exact hn
end Go.Proofs.YtfagfflkgmcnpaaGreatDoor.Mx
namespace Go.Proofs.YtfagfflkgmcnpaaGreatDoor.Mx
open Go Go.Conc Lx Kx Tx
open Go.ConcN (sumTo upd sumTo_upd upd_ne upd_same)
structure Env(R:Rg):Prop where
 main:R.Mem 0
 zero:R.Inb 0=none
 keep : ∀w w',(∀b k,R.Still (.cell ⟨b,k,none⟩)->w'.heap[b]? = w.heap[b]?)->R.K w->R.K w'
 low : ∀w b k,R.K w->R.Still (.cell ⟨b,k,none⟩)->b<w.heap.size
 cell : ∀l,R.Still l ->∃b k,l = .cell ⟨b,k,none⟩
 chan : ∀i s c k,R.Inb i=some s->s.has c ->¬R.Still (.cell ⟨c,k,none⟩)
variable{Goal:Machine->Trace->Prop}{R:Rg}{n:Nat}{a:Goroutine}{w w':World}{c:WC}{rv:List Value}{tf:Option (List C)}{s:WS}{F Fs:Fo}
theorem Env.ok(E:Env R):R.Ok:=
 ⟨fun w d h=>E.keep w _ (fun _ _ _=>rfl) h,fun w i s c cap buf cl a b tm hi hc h=>E.keep w _ (fun x k hx=>heap_setChan_ne _ _ _ _ _ _ _ fun e=>E.chan i s c k hi hc (e▸hx)) h,E.main⟩
def yG(c:WC):Seat :={cases:=mainCases c,shape :=.select,home:=fun _=>True}
theorem vk{c:WC}{x:Nat}:(yG c).has x↔x=c.ask\/x=c.done:=by
 constructor
 .rintro ⟨k,z,h⟩
  rcases k with _|_|k
  .simp[yG,mainCases,rcase]at h;exact .inl h.1.symm
  .simp[yG,mainCases,rcase]at h;exact .inr h.1.symm
  .simp[yG,mainCases]at h
 .rintro (rfl|rfl)
  .exact⟨0,_,rfl⟩
  .exact⟨1,_,rfl⟩
theorem xc3{c:WC}(h:c.ask≠c.done):(yG c).Wf:=by
 refine⟨fun cc bx =>?_,fun k m x z z' h1 h2 =>?_⟩
 .simp[yG,mainCases]at bx
  rcases bx with rfl|rfl<;>exact⟨_,_,rfl⟩
 .rcases k with _|_|k<;>rcases m with _|_|m<;>simp[yG,mainCases,rcase]at h1 h2 |-
  .exact absurd (h1.1.trans h2.1.symm) h
  .exact absurd (h2.1.trans h1.1.symm) h
structure Turned(c:WC)(Fs:Fo)(w0:World)(busy closed:Bool)(w:World):Prop where
 thr:ThrAt c (.pointer none) busy closed w
 still:StillAt c w
 keeps:Keeps (fun b=> ¬Fs b\/b=c.pb\/b=c.wb\/b=c.done\/b=c.tb) w0 w
 work : ∀pre r,WorkAt c pre r w0 ->∃r',WorkAt c pre r' w
def Rg.asks(R:Rg)(c:WC)(j:Nat)(g₃:Goroutine):Rg:=⟨R.K,R.Still,R.Mem,upd R.Inb j (some (seatW c (· = g₃)))⟩
def Rg.gone(R:Rg)(j:Nat):Rg:=⟨R.K,R.Still,fun g=>R.Mem g/\g≠j,upd R.Inb j none⟩
theorem Kb{K:World->Prop}{Still:Loc->Prop}{B:Nat}{Mem:Nat->Prop}{Inb Inb':Nat->Option Seat}{h:Nat}{T:Trace}{gs:Array Goroutine}{q:Nat->Nat}(e : ∀x,Inb x=Inb' x)(C:Ring Tryz.prog K Still B Mem Inb h T gs w q):Ring Tryz.prog K Still B Mem Inb' h T gs w q:=by
 rwa [<- funext e]
theorem xaC(E:Env R){j:Nat}(hj:0<j)(R₀:Round c Fs R.K (upd R.Inb 0 (some (yG c))) R.Still)(hp:c.tb≠c.pb/\c.tb≠c.wb){sJ:Seat}(hjI:R.Inb j=some sJ)(hsJ:sJ.cases=seatCases c/\sJ.shape = .select)(hMj:R.Mem j)
  (hSt : ∀w,R.K w->StillAt c w) (hS4:R.Still (.cell ⟨c.pb,4,none⟩)) (hS5:R.Still (.cell ⟨c.pb,5,none⟩)) (de : ∀k,¬R.Still (.cell ⟨c.ask,k,none⟩)/\ ¬R.Still (.cell ⟨c.done,k,none⟩))
  {g aSel:Goroutine} (hW:WOk c rv tf s F g w) (hF : ∀b,Fs b->F b) (hA:F.A=Fs.A) {w0:World} {busy closed:Bool} {N:Nat} {gs:Array Goroutine} {T:Trace} {sl:Option (Nat×Nat)} {q:Nat->Nat} (hn:gs.size=n)
  (C:Duo Tryz.prog R.K R.Still (M0t c.tb) w.heap.size R.Mem (upd R.Inb 0 (some (yG c))) 0 j T gs w q) (ha:gs[0]? = some a) (hb:gs[j]? = some g)
  (GH:HG R.K R.Still w.heap.size (upd R.Inb 0 (some (yG c))) c Fs (yG c) (fun a w=>a=aSel/\ThrAt c (.pointer none) busy closed w/\StillAt c w) N a w)
  (x0:Keeps (fun b=> ¬Fs b\/b=c.pb\/b=c.wb\/b=c.done\/b=c.tb) w0 w) (x1 : ∀pre r,WorkAt c pre r w0 ->∃r',WorkAt c pre r' w) (Dd:CapIs c.ask 0 w) (dw:CapIs c.done 1 w) (lu:c.pb<w.heap.size)
  (d9 : ∀ (w' ws:World) (k:Nat) (s':WS) (F':Fo) (e:Tx.Ask) (L:List Tx.Ask) (g₂ g₃ g:Goroutine),s'.orc=s.orc->(∀b,Fs b->F' b)->F'.A=Fs.A->AskNow c rv tf s' F' e L g₂ g₃ g ws->RJt c.tb ws w'->(w'.heap[c.ask]? = some (.chan 0 #[] false k k false)/\ ∃kd,w'.heap[c.done]? = some (.chan 1 #[] false kd kd false))->Turned c Fs w0 busy closed w'->
   Runs Goal (R.asks c j g₃) n (Go.Conc.served aSel (commResult (mainCases c) .select 0 (accV e.k e.at_ e.a e.b) true)) (w'.setChan c.ask 0 #[] false (k+1) (k+1) false))
  (bl : ∀ (w' ws:World) (k:Nat) (s':WS) (F':Fo) (g:Goroutine),s'.orc=s.orc->(∀b,Fs b->F' b)->F'.A=Fs.A->DoneNow c rv tf s' F' g ws->Keeps (fun b=>b=c.tb\/b=c.done) ws w'->w'.heap.size=ws.heap.size->Turned c Fs w0 busy closed w'->
   Runs Goal (R.gone j) n (Go.Conc.served aSel (commResult (mainCases c) .select 1 .nilIface true)) (w'.setChan c.done 1 #[] false (k+1) (k+1) false)) :
  ∃N m' T',runNT Tryz.prog N (crowd gs w sl) T=(.next m',T')/\Goal m' T':=by
 have ae:j≠0:=by omega
 have hO:=E.ok
 have hKc : ∀w i s c' cap buf cl a b tm,upd R.Inb 0 (some (yG c)) i=some s->s.has c'->R.K w->R.K (w.setChan c' cap buf cl a b tm):=fun w i s c' cap buf cl a b tm hi hc hk=>by
  by_cases e:i=0
  .subst e
   rw[upd_same]at hi
   cases hi
   refine E.keep w _ (fun x k hx=>heap_setChan_ne _ _ _ _ _ _ _ fun e =>?_) hk
   rcases vk.1 hc with rfl|rfl
   .exact(de k).1 (e▸hx)
   .exact(de k).2 (e▸hx)
  .rw[upd_ne _ _ e]at hi
   exact hO.chan w i s c' cap buf cl a b tm hi hc hk
 have hjI':upd R.Inb 0 (some (yG c)) j=some sJ:=by rw[upd_ne _ _ ae];exact hjI
 have hH : ∀a w w',(a=aSel/\ThrAt c (.pointer none) busy closed w/\StillAt c w)->RHt c Fs w w'->(a=aSel/\ThrAt c (.pointer none) busy closed w'/\StillAt c w'):=fun a w w' ⟨x,y,z⟩ h=>⟨x,y.rh R₀ hp h,h.still z⟩
 have hX : ∀w₁ w',((Keeps (fun b=> ¬Fs b\/b=c.pb\/b=c.wb\/b=c.done\/b=c.tb) w0 w₁/\w.heap.size<=w₁.heap.size)/\ ∀pre r,WorkAt c pre r w0 ->∃r',WorkAt c pre r' w₁)->RHt c Fs w₁ w'\/RJt c.tb w₁ w'->((Keeps (fun b=> ¬Fs b\/b=c.pb\/b=c.wb\/b=c.done\/b=c.tb) w0 w'/\w.heap.size<=w'.heap.size)/\ ∀pre r,WorkAt c pre r w0 ->∃r',WorkAt c pre r' w'):=fun w₁ w' ⟨⟨x,y⟩,z⟩ h=>by
  rcases h with h|h
  .exact⟨⟨x.trans h.keeps fun b hb =>.inl (hb.imp id fun z=>z.imp id fun z=>z.imp id .inl),Nat.le_trans y h.keeps.size⟩,fun pre r hw=>by obtain⟨r',f6⟩:=z pre r hw;exact h.work pre r' f6⟩
  .exact⟨⟨x.trans h.1 fun b hb =>.inl (.inr (.inr (.inr (.inr hb)))),Nat.le_trans y h.1.size⟩,fun pre r hw=>by obtain⟨r',f6⟩:=z pre r hw;exact⟨r',f6.1,(h.1.block _ (Array.getElem?_eq_some_iff.1 f6.2).1 (Ne.symm hp.2)).trans f6.2⟩⟩
 obtain⟨N',m',T',r1,Ff⟩:=xig (sl:=sl) (HomeH:=fun a w=>a=aSel/\ThrAt c (.pointer none) busy closed w/\StillAt c w) (X:=fun w₁=>(Keeps (fun b=> ¬Fs b\/b=c.pb\/b=c.wb\/b=c.done\/b=c.tb) w0 w₁/\w.heap.size<=w₁.heap.size)/\ ∀pre r,WorkAt c pre r w0 ->∃r',WorkAt c pre r' w₁) R₀ hO.at_ hKc hj (upd_same _ _ _) ⟨rfl,rfl⟩ hjI' hsJ hMj hSt hS4 hS5 hH hX hW hF hA (dJ _) C ha hb (.inl ⟨N,rfl,GH⟩) ⟨⟨x0,dJ _⟩,x1⟩ Dd dw lu
 rcases Ff with⟨⟨ak,w',ws,aq,q',a₂,g₂,g₃,g',k,B',s',F',e,L,rfl,ai,ep,⟨rfl,ht,hs⟩,⟨⟨hx,bu⟩,im⟩,Bz,hF',hA',Dg,hRJ,zl,hB1,hB2,hB3,Rg⟩⟩|⟨⟨ak,w',ws,wx,aq,q',a₂,g',k,B',s',F',rfl,ai,ep,⟨rfl,ht,hs⟩,hx,ez,Bz,hF',hA',K7,am,ax,hB1,hB2,hB3,Rg⟩⟩
 .have:=d9 w' ws k s' F' e L g₂ g₃ g' Bz hF' hA' Dg hRJ zl ⟨ht,hs,hx,im⟩
  have hB:B'=w'.heap.size:=by
   omega
  subst hB
  obtain⟨N₂,m₂,T₂,r2,hg⟩:=this (w'.setChan c.ask 0 #[] false (k+1) (k+1) false).drawn ak T' aq q' (ai.trans hn) ep (by
   show Ring _ _ _ _ _ _ _ _ _ _ _
   rw[size_setChan]
   refine Kb (fun x =>?_) (Ring.unseat Rg)
   show upd (upd (upd R.Inb 0 (some (yG c))) j (some (seatW c (· = g₃)))) 0 none x=upd R.Inb j (some (seatW c (· = g₃))) x
   by_cases e0:x=0
   .subst e0;rw[upd_same,upd_ne _ _ (Ne.symm ae),E.zero]
   .rw[upd_ne _ _ e0]
    by_cases ej:x=j
    .subst ej;rw[upd_same,upd_same]
    .rw[upd_ne _ _ ej,upd_ne _ _ ej,upd_ne _ _ e0])
  exact⟨N'+N₂,m₂,T₂,ConcX.runNT_trans r1 r2,hg⟩
 .have Eo:=hX _ _ hx (.inr ez)
  have Dl:Keeps (fun b=> ¬Fs b\/b=c.pb\/b=c.wb\/b=c.done\/b=c.tb) w0 w':=Eo.1.1.trans am fun b hb =>.inl (hb.elim (fun z =>.inr (.inr (.inr (.inr z)))) fun z =>.inr (.inr (.inr (.inl z))))
  have:=bl w' ws k s' F' g' Bz hF' hA' K7 am ax ⟨ht,hs,Dl,fun pre r hw=>by
   obtain⟨r',f6⟩:=Eo.2 pre r hw
   exact⟨r',f6.1,(am.block _ (Array.getElem?_eq_some_iff.1 f6.2).1 fun z=>z.elim (fun e=>hp.2 e.symm) fun e=>R₀.dn.2.2.1 e.symm).trans f6.2⟩⟩
  have hB:B'=w'.heap.size:=by
   have:=Eo.1.2
   omega
  subst hB
  obtain⟨N₂,m₂,T₂,r2,hg⟩:=this (w'.setChan c.done 1 #[] false (k+1) (k+1) false).drawn ak T' aq q' (ai.trans hn) ep (by
   show Ring _ _ _ _ _ _ _ _ _ _ _
   rw[size_setChan]
   refine Kb (fun x =>?_) Rg
   show cutI (upd R.Inb 0 (some (yG c))) 0 j x=upd R.Inb j none x
   by_cases ej:x=j
   .subst ej;rw[upd_same];simp[cutI]
   .rw[upd_ne _ _ ej]
    by_cases e0:x=0
    .subst e0;rw[E.zero];simp[cutI]
    .rw[vh e0 ej,upd_ne _ _ e0])
  exact⟨N'+N₂,m₂,T₂,ConcX.runNT_trans r1 r2,hg⟩
def OpenC(x cap:Nat)(w:World):Prop :=∃k,w.heap[x]? = some (.chan cap #[] false k k false)
theorem xgZ(E:Env R){j:Nat}(hj:0<j)(A5:j<n)(R₀:Round c Fs R.K (upd R.Inb 0 (some (yG c))) R.Still)(hp:c.tb≠c.pb/\c.tb≠c.wb){g₃:Goroutine}(hjI:R.Inb j=some (seatW c (· = g₃)))(hMj:R.Mem j)
  (hSt : ∀w,R.K w->StillAt c w) (hS4:R.Still (.cell ⟨c.pb,4,none⟩)) (hS5:R.Still (.cell ⟨c.pb,5,none⟩)) (de : ∀k,¬R.Still (.cell ⟨c.ask,k,none⟩)/\ ¬R.Still (.cell ⟨c.done,k,none⟩))
  (oc:c.ask≠c.done) (bw : ∀i t x,i≠0->R.Inb i=some t->t.has x->x≠c.ask/\x≠c.done) (ho:OpenC c.ask 0 w/\OpenC c.done 1 w) (C6:CapIs c.grant 0 w) (ow:c.grant≠c.ask/\c.grant≠c.done/\Fs c.grant) (lu:c.pb<w.heap.size)
  {v:Int} {z':Value} {a₂ aSel:Goroutine} (hr:a.status = .running) (tj : ∀d,stepG Tryz.prog true a (w.at d) = .comm a₂ #[scase c.grant (.int .u64 v) z'] true .send (w.at d) #[])
  {busy closed:Bool} {N:Nat} (hW : ∀d k,∃F,(∀b,Fs b->F b)/\F.A=Fs.A/\WOk c rv tf s F (Go.Conc.served g₃ (commResult (seatCases c) .select 0 (.int .u64 v) true)) ((w.at d).setChan c.grant 0 #[] false (k+1) (k+1) false))
  (GH : ∀d k,HG R.K R.Still w.heap.size (upd R.Inb 0 (some (yG c))) c Fs (yG c) (fun a w=>a=aSel/\ThrAt c (.pointer none) busy closed w/\StillAt c w) N (Go.Conc.served a₂ undef) ((w.at d).setChan c.grant 0 #[] false (k+1) (k+1) false))
  (d9 : ∀ (d kg:Nat) (w' ws:World) (k:Nat) (s':WS) (F':Fo) (e:Tx.Ask) (L:List Tx.Ask) (g₂ g₃ g:Goroutine),s'.orc=s.orc->(∀b,Fs b->F' b)->F'.A=Fs.A->AskNow c rv tf s' F' e L g₂ g₃ g ws->RJt c.tb ws w'->(w'.heap[c.ask]? = some (.chan 0 #[] false k k false)/\ ∃kd,w'.heap[c.done]? = some (.chan 1 #[] false kd kd false))->Turned c Fs ((w.at d).setChan c.grant 0 #[] false (kg+1) (kg+1) false) busy closed w'->
   Runs Goal (R.asks c j g₃) n (Go.Conc.served aSel (commResult (mainCases c) .select 0 (accV e.k e.at_ e.a e.b) true)) (w'.setChan c.ask 0 #[] false (k+1) (k+1) false))
  (bl : ∀ (d kg:Nat) (w' ws:World) (k:Nat) (s':WS) (F':Fo) (g:Goroutine),s'.orc=s.orc->(∀b,Fs b->F' b)->F'.A=Fs.A->DoneNow c rv tf s' F' g ws->Keeps (fun b=>b=c.tb\/b=c.done) ws w'->w'.heap.size=ws.heap.size->Turned c Fs ((w.at d).setChan c.grant 0 #[] false (kg+1) (kg+1) false) busy closed w'->
   Runs Goal (R.gone j) n (Go.Conc.served aSel (commResult (mainCases c) .select 1 .nilIface true)) (w'.setChan c.done 1 #[] false (k+1) (k+1) false)):Runs Goal R n a w:=by
 intro d gs T sl q hn ha C
 have ae:j≠0:=by omega
 have hO:=E.ok
 obtain⟨⟨ka,pe⟩,⟨kd,ft⟩⟩:=ho
 have C₁:Ring Tryz.prog R.K R.Still w.heap.size R.Mem (upd R.Inb 0 (some (yG c))) 0 T gs (w.at d) q:=YJ (w:=w.at d) (yG c) E.main (xc3 oc) (fun x hx=>by
   rcases vk.1 hx with rfl|rfl
   .exact⟨0,ka,pe⟩
   .exact⟨1,kd,ft⟩) (fun i t x hi ht hx hs=>by
   have:=bw i t x hi ht hx
   rcases vk.1 hs with rfl|rfl
   .exact this.1 rfl
   .exact this.2 rfl) (fun x hx=>by
   rcases vk.1 hx with rfl|rfl
   .exact(Array.getElem?_eq_some_iff.1 pe).1
   .exact(Array.getElem?_eq_some_iff.1 ft).1) C
 have hKc : ∀w i s c' cap buf cl a b tm,upd R.Inb 0 (some (yG c)) i=some s->s.has c'->R.K w->R.K (w.setChan c' cap buf cl a b tm):=fun w i s c' cap buf cl a b tm hi hc hk=>by
  by_cases e:i=0
  .subst e
   rw[upd_same]at hi
   cases hi
   refine E.keep w _ (fun x k hx=>heap_setChan_ne _ _ _ _ _ _ _ fun e =>?_) hk
   rcases vk.1 hc with rfl|rfl
   .exact(de k).1 (e▸hx)
   .exact(de k).2 (e▸hx)
  .rw[upd_ne _ _ e]at hi
   exact hO.chan w i s c' cap buf cl a b tm hi hc hk
 have hMS : ∀l,M0t c.tb l ->¬R.Still l:=fun l h hs=>by
  obtain⟨a,rfl,_,_,h3,_⟩:=R₀.still l hs
  exact h3 h
 have hjI':upd R.Inb 0 (some (yG c)) j=some (seatW c (· = g₃)):=by rw[upd_ne _ _ ae];exact hjI
 obtain⟨kg,A3⟩ : ∃k,w.heap[c.grant]? = some (.chan 0 #[] false k k false):=by
  obtain⟨cap,k,e⟩:=C.chans j _ c.grant (fun z=>by omega) hjI ⟨0,_,rfl⟩
  obtain⟨buf,cl,x,y,tm,e'⟩:=C6
  have e:w.heap[c.grant]? = some (.chan cap #[] false k k false):=e
  rw[e]at e'
  cases e'
  exact⟨k,e⟩
 obtain⟨N₁,ak,d',aq,q',g₂,T',r1,ai,ir,ep,nf,D⟩:=xfo (M1:=M0t c.tb) (w:=w.at d) (sl:=sl) hO.at_ hKc hMS ae (by omega) (upd_same R.Inb 0 (some (yG c))) hjI' (kk:=0) (z :=.int .u64 0) rfl ha hr (fun d'=>tj d') (by simp) C₁ A3
 have lz:g₂=g₃:=nf
 subst lz
 obtain⟨F,hF,hA,hW'⟩:=hW d' kg
 have w8 : ∀x,x≠c.grant->((w.at d').setChan c.grant 0 #[] false (kg+1) (kg+1) false).heap[x]? = w.heap[x]? :=fun x hx=>heap_setChan_ne _ _ _ _ _ _ _ (Ne.symm hx)
 have d5:((w.at d').setChan c.grant 0 #[] false (kg+1) (kg+1) false).heap.size=w.heap.size:=size_setChan _ _ _ _ _ _ _ _
 obtain⟨N₂,m',T₂,r2,hg⟩:=xaC (Goal:=Goal) (n:=n) (sl:=aq) (w:=(w.at d').setChan c.grant 0 #[] false (kg+1) (kg+1) false) (w0:=(w.at d').setChan c.grant 0 #[] false (kg+1) (kg+1) false) E hj R₀ hp hjI ⟨rfl,rfl⟩ hMj hSt hS4 hS5 de hW' hF hA (ai.trans hn) (by rw[d5];exact D) ep ir (by rw[d5];exact GH d' kg) (Keeps.refl _ _) (fun pre r x=>⟨r,x⟩)
  ⟨_,_,_,_,_,by rw[w8 _ (Ne.symm ow.1)];exact pe⟩ ⟨_,_,_,_,_,by rw[w8 _ (Ne.symm ow.2.1)];exact ft⟩ (by rw[d5];exact lu) (d9 d' kg) (bl d' kg)
 exact⟨N₁+N₂,m',T₂,ConcX.runNT_trans r1 r2,hg⟩
end Go.Proofs.YtfagfflkgmcnpaaGreatDoor.Mx
namespace Go.Proofs.YtfagfflkgmcnpaaGreatDoor.Mx
open Go Go.Conc Lx Kx Tx
open Go.ConcN (sumTo upd sumTo_upd upd_ne upd_same)
variable{Goal:Machine->Trace->Prop}{R:Rg}{n:Nat}{a:Goroutine}{w w':World}{c:WC}{rv:List Value}{tf:Option (List C)}{s:WS}{F Fs:Fo}
def kJ(c:WC):Seat:=seatW c (fun _=>True)
theorem vl{c:WC}{h:Goroutine->Prop}{x:Nat}:(seatW c h).has x↔x=c.grant\/x=c.quit:=by
 constructor
 .rintro ⟨k,z,e⟩
  rcases k with _|_|k
  .simp[seatW,seatCases,rcase]at e;exact .inl e.1.symm
  .simp[seatW,seatCases,rcase]at e;exact .inr e.1.symm
  .simp[seatW,seatCases]at e
 .rintro (rfl|rfl)
  .exact⟨0,_,rfl⟩
  .exact⟨1,_,rfl⟩
theorem xik{c:WC}{h:Goroutine->Prop}(ae:c.grant≠c.quit):(seatW c h).Wf:=by
 refine⟨fun cc bx =>?_,fun k m x z z' h1 h2 =>?_⟩
 .simp[seatW,seatCases]at bx
  rcases bx with rfl|rfl<;>exact⟨_,_,rfl⟩
 .rcases k with _|_|k<;>rcases m with _|_|m<;>simp[seatW,seatCases,rcase]at h1 h2 |-
  .exact absurd (h1.1.trans h2.1.symm) ae
  .exact absurd (h2.1.trans h1.1.symm) ae
def Rg.more(R:Rg)(c:WC)(n:Nat):Rg:=⟨R.K,R.Still,fun g=>R.Mem g\/g=n,upd R.Inb n (some (kJ c))⟩
theorem Env.more(E:Env R)(hn:0<n)(h : ∀k,¬R.Still (.cell ⟨c.grant,k,none⟩)/\ ¬R.Still (.cell ⟨c.quit,k,none⟩)):Env (R.more c n):=
 ⟨.inl E.main,by show upd R.Inb n _ 0=none;rw[upd_ne _ _ (by omega)];exact E.zero,E.keep,E.low,E.cell,fun i s x k hi hx=>by
  by_cases e:i=n
  .subst e
   have hi:upd R.Inb i (some (kJ c)) i=some s:=hi
   rw[upd_same]at hi
   cases hi
   rcases vl.1 hx with rfl|rfl
   .exact(h k).1
   .exact(h k).2
  .have hi:upd R.Inb n (some (kJ c)) i=some s:=hi
   rw[upd_ne _ _ e]at hi
   exact E.chan i s x k hi hx⟩
theorem xg0(E:Env R)(dc:0<n)(ci:R.Inb n=none)(R₀:Round c Fs R.K (upd (upd R.Inb n (some (kJ c))) 0 (some (yG c))) R.Still)(hp:c.tb≠c.pb/\c.tb≠c.wb)
  (hSt : ∀w,R.K w->StillAt c w) (hS4:R.Still (.cell ⟨c.pb,4,none⟩)) (hS5:R.Still (.cell ⟨c.pb,5,none⟩)) (de : ∀k,(¬R.Still (.cell ⟨c.ask,k,none⟩)/\ ¬R.Still (.cell ⟨c.done,k,none⟩))/\ ¬R.Still (.cell ⟨c.grant,k,none⟩)/\ ¬R.Still (.cell ⟨c.quit,k,none⟩))
  (oc:c.ask≠c.done/\c.grant≠c.quit/\c.grant≠c.ask/\c.grant≠c.done/\c.quit≠c.ask/\c.quit≠c.done) (bw : ∀i t x,i≠0->R.Inb i=some t->t.has x->x≠c.ask/\x≠c.done/\x≠c.grant/\x≠c.quit) (ho:OpenC c.ask 0 w/\OpenC c.done 1 w/\OpenC c.grant 0 w/\OpenC c.quit 0 w) (lu:c.pb<w.heap.size)
  {a' child aSel:Goroutine} (hr:a.status = .running) (fu : ∀d,stepG Tryz.prog true a (w.at d) = .spawn a' child (w.at d) #[])
  {busy closed:Bool} {N:Nat} (hW : ∀d,∃F,(∀b,Fs b->F b)/\F.A=Fs.A/\WOk c rv tf s F child (w.at d))
  (GH : ∀d,HG R.K R.Still w.heap.size (upd (upd R.Inb n (some (kJ c))) 0 (some (yG c))) c Fs (yG c) (fun a w=>a=aSel/\ThrAt c (.pointer none) busy closed w/\StillAt c w) N a' (w.at d))
  (d9 : ∀ (d:Nat) (w' ws:World) (k:Nat) (s':WS) (F':Fo) (e:Tx.Ask) (L:List Tx.Ask) (g₂ g₃ g:Goroutine),s'.orc=s.orc->(∀b,Fs b->F' b)->F'.A=Fs.A->AskNow c rv tf s' F' e L g₂ g₃ g ws->RJt c.tb ws w'->(w'.heap[c.ask]? = some (.chan 0 #[] false k k false)/\ ∃kd,w'.heap[c.done]? = some (.chan 1 #[] false kd kd false))->Turned c Fs (w.at d) busy closed w'->
   Runs Goal ((R.more c n).asks c n g₃) (n+1) (Go.Conc.served aSel (commResult (mainCases c) .select 0 (accV e.k e.at_ e.a e.b) true)) (w'.setChan c.ask 0 #[] false (k+1) (k+1) false))
  (bl : ∀ (d:Nat) (w' ws:World) (k:Nat) (s':WS) (F':Fo) (g:Goroutine),s'.orc=s.orc->(∀b,Fs b->F' b)->F'.A=Fs.A->DoneNow c rv tf s' F' g ws->Keeps (fun b=>b=c.tb\/b=c.done) ws w'->w'.heap.size=ws.heap.size->Turned c Fs (w.at d) busy closed w'->
   Runs Goal ((R.more c n).gone n) (n+1) (Go.Conc.served aSel (commResult (mainCases c) .select 1 .nilIface true)) (w'.setChan c.done 1 #[] false (k+1) (k+1) false)):Runs Goal R n a w:=by
 intro d gs T sl q hn ha C
 have hO:=E.ok
 have ae:n≠0:=by omega
 obtain⟨⟨ka,pe⟩,⟨kd,ft⟩,⟨kg,A3⟩,⟨kq,Cz⟩⟩:=ho
 have C₁:Ring Tryz.prog R.K R.Still w.heap.size R.Mem (upd R.Inb 0 (some (yG c))) 0 T gs (w.at d) q:=YJ (w:=w.at d) (yG c) E.main (xc3 oc.1) (fun x hx=>by
   rcases vk.1 hx with rfl|rfl
   .exact⟨0,ka,pe⟩
   .exact⟨1,kd,ft⟩) (fun i t x hi ht hx hs=>by
   have:=bw i t x hi ht hx
   rcases vk.1 hs with rfl|rfl
   .exact this.1 rfl
   .exact this.2.1 rfl) (fun x hx=>by
   rcases vk.1 hx with rfl|rfl
   .exact(Array.getElem?_eq_some_iff.1 pe).1
   .exact(Array.getElem?_eq_some_iff.1 ft).1) C
 obtain⟨N₁,ak,d',aq,T',q',r1,ai,K0,ow,D⟩:=xfp (M1:=M0t c.tb) (w:=w.at d) (sl:=sl) hO.at_ E.main ha hr (fun d'=>fu d') (by simp) C₁ (by rw[hn,upd_ne _ _ ae];exact ci) (kJ c) (xik oc.2.1) (fun i t x hi hx hs=>by
   by_cases e:i=0
   .subst e
    rw[upd_same]at hi
    cases hi
    rcases vk.1 hx with rfl|rfl<;>rcases vl.1 hs with e|e
    .exact oc.2.2.1 e.symm
    .exact oc.2.2.2.2.1 e.symm
    .exact oc.2.2.2.1 e.symm
    .exact oc.2.2.2.2.2 e.symm
   .rw[upd_ne _ _ e]at hi
    have:=bw i t x e hi hx
    rcases vl.1 hs with e|e
    .exact this.2.2.1 e
    .exact this.2.2.2 e) (fun x hx=>by
   rcases vl.1 hx with rfl|rfl
   .exact⟨0,kg,A3⟩
   .exact⟨0,kq,Cz⟩) (fun x hx=>by
   rcases vl.1 hx with rfl|rfl
   .exact(Array.getElem?_eq_some_iff.1 A3).1
   .exact(Array.getElem?_eq_some_iff.1 Cz).1)
 rw[hn]at ai ow D
 have E3:upd (upd R.Inb 0 (some (yG c))) n (some (kJ c))=upd (upd R.Inb n (some (kJ c))) 0 (some (yG c)):=by
  funext x
  by_cases e0:x=0
  .subst e0;rw[upd_same,upd_ne _ _ (Ne.symm ae),upd_same]
  .by_cases en:x=n
   .subst en;rw[upd_same,upd_ne _ _ e0,upd_same]
   .rw[upd_ne _ _ en,upd_ne _ _ e0,upd_ne _ _ e0,upd_ne _ _ en]
 rw[E3]at D
 obtain⟨F,hF,hA,hW'⟩:=hW d'
 obtain⟨N₂,m',T₂,r2,hg⟩:=xaC (Goal:=Goal) (n:=n+1) (R:=R.more c n) (sl:=aq) (w:=w.at d') (w0:=w.at d') (E.more dc fun k=>(de k).2) dc R₀ hp (upd_same _ _ _) ⟨rfl,rfl⟩ (.inr rfl) hSt hS4 hS5 (fun k=>(de k).1) hW' hF hA ai D K0 ow (GH d') (Keeps.refl _ _) (fun pre r x=>⟨r,x⟩)
  ⟨_,_,_,_,_,pe⟩ ⟨_,_,_,_,_,ft⟩ lu (d9 d') (bl d')
 exact⟨N₁+N₂,m',T₂,ConcX.runNT_trans r1 r2,hg⟩
def wV(c:WC):Seat :={cases:= #[rcase c.done .nilIface],shape :=.recv false,home:=fun _=>True}
theorem qb{c:WC}{x:Nat}:(wV c).has x↔x=c.done:=by
 constructor
 .rintro ⟨k,z,e⟩
  rcases k with _|k
  .simp[wV,rcase]at e;exact e.1.symm
  .simp[wV]at e
 .rintro rfl
  exact⟨0,_,rfl⟩
theorem xil{c:WC}:(wV c).Wf:=by
 refine⟨fun cc bx =>?_,fun k m x z z' h1 h2 =>?_⟩
 .simp[wV]at bx
  subst bx;exact⟨_,_,rfl⟩
 .rcases k with _|k<;>rcases m with _|m<;>simp[wV,rcase]at h1 h2 |-
theorem _root_.Go.Proofs.YtfagfflkgmcnpaaGreatDoor.Tx.RHq.offw{c:WC}{Fs:Fo}{w w':World}(h:RHq c Fs w w'):Keeps (fun b=> ¬Fs b\/b=c.pb\/b=c.done) w w':=
 ⟨h.rh.keeps.os,h.rh.keeps.tape,h.rh.keeps.output,h.rh.keeps.size,fun b hb hn=>by
  by_cases e:b=c.wb
  .subst e;exact h.wb hb
  .exact h.rh.keeps.block b hb fun x=>x.elim (fun y=>hn (.inl y)) fun y=>y.elim (fun z=>hn (.inr (.inl z))) fun z=>z.elim e fun u=>hn (.inr (.inr u))⟩
theorem xg1(E:Env R){j:Nat}(hj:0<j)(A5:j<n)(R₀:Round c Fs R.K (upd R.Inb 0 (some (wV c))) R.Still)(hp:c.tb≠c.pb/\c.tb≠c.wb){g₃:Goroutine}(hjI:R.Inb j=some (seatW c (· = g₃)))(hMj:R.Mem j)
  (de : ∀k,¬R.Still (.cell ⟨c.done,k,none⟩)) (zg:c.done≠c.quit) (bw : ∀i t x,i≠0->R.Inb i=some t->t.has x->x≠c.done) (ho:OpenC c.done 1 w) (Fb:CapIs c.quit 0 w)
  {a' aRec:Goroutine} (hr:a.status = .running) (ms:mayWake Tryz.prog a=true) (ct:a'.status = .running) (gq : ∀ (d:Nat) (k:Nat),w.heap[c.quit]? = some (.chan 0 #[] false k k false)->stepG Tryz.prog true a (w.at d) = .go a' ((w.at d).setChan c.quit 0 #[] true k k false) (closeEvents c.quit))
  {busy closed:Bool} {N:Nat} (hT:ThrAt c (.pointer none) busy closed w)
  (GH : ∀d k,HG R.K R.Still w.heap.size (cutI (upd R.Inb 0 (some (wV c))) j j) c Fs (wV c) (fun a w=>a=aRec/\ThrAt c (.pointer none) busy closed w) N a' ((w.at d).setChan c.quit 0 #[] true k k false))
  (hQ : ∀d k w',RJt c.tb ((w.at d).setChan c.quit 0 #[] true k k false) w' ->∃F,(∀b,Fs b->F b)/\QOk c F (Go.Conc.served g₃ (commResult (seatCases c) .select 1 zq false)) w')
  (bl : ∀ (d kq:Nat) (w':World) (k:Nat),ThrAt c (.pointer none) busy closed w'->Keeps (fun b=> ¬Fs b\/b=c.pb\/b=c.done\/b=c.tb) ((w.at d).setChan c.quit 0 #[] true kq kq false) w'->
   Runs Goal (R.gone j) n (Go.Conc.served aRec (commResult #[rcase c.done .nilIface] (.recv false) 0 .nilIface true)) (w'.setChan c.done 1 #[] false (k+1) (k+1) false)):Runs Goal R n a w:=by
 intro d gs T sl q hn ha C
 have hO:=E.ok
 have ae:j≠0:=by omega
 obtain⟨kd,ft⟩:=ho
 have C₁:Ring Tryz.prog R.K R.Still w.heap.size R.Mem (upd R.Inb 0 (some (wV c))) 0 T gs (w.at d) q:=YJ (w:=w.at d) (wV c) E.main xil (fun x hx=>by
   rw[qb.1 hx]
   exact⟨1,kd,ft⟩) (fun i t x hi ht hx hs=>bw i t x hi ht hx (qb.1 hs)) (fun x hx=>by
   rw[qb.1 hx]
   exact(Array.getElem?_eq_some_iff.1 ft).1) C
 have hKc : ∀w i s c' cap buf cl a b tm,upd R.Inb 0 (some (wV c)) i=some s->s.has c'->R.K w->R.K (w.setChan c' cap buf cl a b tm):=fun w i s c' cap buf cl a b tm hi hc hk=>by
  by_cases e:i=0
  .subst e
   rw[upd_same]at hi
   cases hi
   refine E.keep w _ (fun x k hx=>heap_setChan_ne _ _ _ _ _ _ _ fun e =>?_) hk
   rw[qb.1 hc]at e
   exact de k (e▸hx)
  .rw[upd_ne _ _ e]at hi
   exact hO.chan w i s c' cap buf cl a b tm hi hc hk
 have hjI':upd R.Inb 0 (some (wV c)) j=some (seatW c (· = g₃)):=by rw[upd_ne _ _ ae];exact hjI
 obtain⟨kq,Cz⟩ : ∃k,w.heap[c.quit]? = some (.chan 0 #[] false k k false):=by
  obtain⟨cap,k,e⟩:=C.chans j _ c.quit (fun z=>by omega) hjI ⟨1,_,rfl⟩
  obtain⟨buf,cl,x,y,tm,e'⟩:=Fb
  have e:w.heap[c.quit]? = some (.chan cap #[] false k k false):=e
  rw[e]at e'
  cases e'
  exact⟨k,e⟩
 have hX : ∀d w₁ w',Keeps (fun b=> ¬Fs b\/b=c.pb\/b=c.done\/b=c.tb) ((w.at d).setChan c.quit 0 #[] true kq kq false) w₁->RHq c Fs w₁ w'\/RJt c.tb w₁ w'->Keeps (fun b=> ¬Fs b\/b=c.pb\/b=c.done\/b=c.tb) ((w.at d).setChan c.quit 0 #[] true kq kq false) w':=fun d w₁ w' x h=>by
  rcases h with h|h
  .exact x.trans h.offw fun b hb =>.inl (hb.imp id fun z=>z.imp id .inl)
  .exact x.trans h.1 fun b hb =>.inl (.inr (.inr (.inr hb)))
 have hJ : ∀d d',Keeps (fun b=> ¬Fs b\/b=c.pb\/b=c.done\/b=c.tb) ((w.at d).setChan c.quit 0 #[] true kq kq false) ((w.at d').setChan c.quit 0 #[] true kq kq false):=fun d d'=>⟨rfl,rfl,rfl,dJ _,fun _ _ _=>rfl⟩
 obtain⟨N₁,m',T',r1,⟨ak,w',ws,aq,q',a₂,k,B',rfl,ai,ep,⟨rfl,ht⟩,hx,am,ax,hB1,hB2,hB3,Rg⟩⟩:=xih (cap:=0) (w:=w.at d) (sl:=sl) (HomeH:=fun a w=>a=aRec/\ThrAt c (.pointer none) busy closed w) (X:=fun w'=>Keeps (fun b=> ¬Fs b\/b=c.pb\/b=c.done\/b=c.tb) ((w.at d).setChan c.quit 0 #[] true kq kq false) w') (Y:=fun w' =>∃d,RJt c.tb ((w.at d).setChan c.quit 0 #[] true kq kq false) w')
  R₀ hO.at_ hKc hj (upd_same R.Inb 0 (some (wV c))) ⟨rfl,rfl⟩ hjI' ⟨rfl,rfl,fun g h=>h⟩ hMj E.main (fun a w w' ⟨x,y⟩ h=>⟨x,y.rh R₀ hp h.rh⟩) (hX d) (dJ _) ha hr ms ct (by rw[hn];exact A5) Cz (fun d'=>gq d' kq Cz) C₁ (fun d' =>.inl ⟨N,rfl,YI (fun _ _ h=>h.rh) N _ _ (GH d' kq)⟩) (fun d'=>hJ d d') ⟨_,_,_,_,_,ft⟩
  (fun w₁ w' ⟨d,x⟩ h=>⟨d,x.trans h⟩) (fun d'=>⟨d',RJt.refl _⟩) (fun w' ⟨d,x⟩=>hQ d kq w' x)
 have Dl:Keeps (fun b=> ¬Fs b\/b=c.pb\/b=c.done\/b=c.tb) ((w.at d).setChan c.quit 0 #[] true kq kq false) w':=hx.trans am fun b hb =>.inl (hb.elim (fun z =>.inr (.inr (.inr z))) fun z =>.inr (.inr (.inl z)))
 have hB:B'=w'.heap.size:=by
  have:=Dl.size
  have e:((w.at d).setChan c.quit 0 #[] true kq kq false).heap.size=w.heap.size:=size_setChan _ _ _ _ _ _ _ _
  have e':(w.at d).heap.size=w.heap.size:=rfl
  omega
 subst hB
 obtain⟨N₂,m₂,T₂,r2,hg⟩:=bl d kq w' k ht Dl (w'.setChan c.done 1 #[] false (k+1) (k+1) false).drawn ak T' aq q' (ai.trans hn) ep (by
  show Ring _ _ _ _ _ _ _ _ _ _ _
  rw[size_setChan]
  refine Kb (fun x =>?_) Rg
  show cutI (cutI (upd R.Inb 0 (some (wV c))) j j) 0 j x=upd R.Inb j none x
  by_cases ej:x=j
  .subst ej;rw[upd_same];simp[cutI]
  .rw[upd_ne _ _ ej]
   by_cases e0:x=0
   .subst e0;rw[E.zero];simp[cutI]
   .rw[vh e0 ej,vh ej ej,upd_ne _ _ e0])
 exact⟨N₁+N₂,m₂,T₂,ConcX.runNT_trans r1 r2,hg⟩
end Go.Proofs.YtfagfflkgmcnpaaGreatDoor.Mx
namespace Go.Proofs.YtfagfflkgmcnpaaGreatDoor.Mx
open Go Go.Conc Lx Kx Tx
open Go.ConcN (sumTo upd sumTo_upd upd_ne upd_same)
variable{Goal:Machine->Trace->Prop}{R:Rg}{n:Nat}{a:Goroutine}{w w':World}{c:WC}{rv:List Value}{tf:Option (List C)}{s:WS}{F Fs:Fo}
theorem Env.asks(E:Env R){j:Nat}(hj:0<j){g₃:Goroutine}(h : ∀k,¬R.Still (.cell ⟨c.grant,k,none⟩)/\ ¬R.Still (.cell ⟨c.quit,k,none⟩)):Env (R.asks c j g₃):=
 ⟨E.main,by show upd R.Inb j _ 0=none;rw[upd_ne _ _ (by omega)];exact E.zero,E.keep,E.low,E.cell,fun i s x k hi hx=>by
  by_cases e:i=j
  .subst e
   have hi:upd R.Inb i (some (seatW c (· = g₃))) i=some s:=hi
   rw[upd_same]at hi
   cases hi
   rcases vl.1 hx with rfl|rfl
   .exact(h k).1
   .exact(h k).2
  .have hi:upd R.Inb j (some (seatW c (· = g₃))) i=some s:=hi
   rw[upd_ne _ _ e]at hi
   exact E.chan i s x k hi hx⟩
theorem Env.gone(E:Env R){j:Nat}(hj:0<j):Env (R.gone j):=
 ⟨⟨E.main,by omega⟩,by show upd R.Inb j none 0=none;rw[upd_ne _ _ (by omega)];exact E.zero,E.keep,E.low,E.cell,fun i s x k hi hx=>by
  have hi:upd R.Inb j none i=some s:=hi
  by_cases e:i=j
  .subst e;rw[upd_same]at hi;cases hi
  .rw[upd_ne _ _ e]at hi
   exact E.chan i s x k hi hx⟩
theorem Free.asks{tb j:Nat}(h:Free R tb){g₃:Goroutine}(ae:c.grant≠tb/\c.quit≠tb):Free (R.asks c j g₃) tb:=
 ⟨h.st,h.keep,fun i s x hi hx=>by
  by_cases e:i=j
  .subst e
   have hi:upd R.Inb i (some (seatW c (· = g₃))) i=some s:=hi
   rw[upd_same]at hi
   cases hi
   rcases vl.1 hx with rfl|rfl
   .exact ae.1
   .exact ae.2
  .have hi:upd R.Inb j (some (seatW c (· = g₃))) i=some s:=hi
   rw[upd_ne _ _ e]at hi
   exact h.chans i s x hi hx,h.low⟩
theorem Free.gone{tb j:Nat}(h:Free R tb):Free (R.gone j) tb:=
 ⟨h.st,h.keep,fun i s x hi hx=>by
  have hi:upd R.Inb j none i=some s:=hi
  by_cases e:i=j
  .subst e;rw[upd_same]at hi;cases hi
  .rw[upd_ne _ _ e]at hi
   exact h.chans i s x hi hx,h.low⟩
theorem ThrAt.chan{x cap p q:Nat}{buf:Array Value}{cl tm:Bool}{pend:Value}{busy closed:Bool}{d:Nat}(h:ThrAt c pend busy closed w)(hx:x≠c.tb):ThrAt c pend busy closed ((w.at d).setChan x cap buf cl p q tm):=by
 unfold ThrAt at h |-
 rw[heap_setChan_ne _ _ _ _ _ _ _ hx]
 exact h
theorem StillAt.chan{x cap p q:Nat}{buf:Array Value}{cl tm:Bool}{d:Nat}(h:StillAt c w)(hx:x≠c.pb):StillAt c ((w.at d).setChan x cap buf cl p q tm):=by
 obtain⟨n,told,h⟩:=h
 exact⟨n,told,by rw[heap_setChan_ne _ _ _ _ _ _ _ hx];exact h⟩
theorem ZG : ¬ Tryz.f59.name = "runtime.NumGoroutine" :=by
 have:(Tryz.f59.name == "runtime.NumGoroutine")=false:=by kernel_rfl
 simpa using this
theorem WI : ¬ Tryz.f59.body=none:=by
 have : Tryz.f59.body.isSome=true:=rfl
 intro h;rw[h]at this;cases this
theorem xim(E:Env R){j:Nat}(hj:0<j)(A5:j<n)(R₀:Round c Fs R.K (upd R.Inb 0 (some (yG c))) R.Still)(hp:c.tb≠c.pb/\c.tb≠c.wb){g₃:Goroutine}(hjI:R.Inb j=some (seatW c (· = g₃)))(hMj:R.Mem j)
  (hSt : ∀w,R.K w->StillAt c w) (hS3:R.Still (.cell ⟨c.pb,3,none⟩)) (hS4:R.Still (.cell ⟨c.pb,4,none⟩)) (hS5:R.Still (.cell ⟨c.pb,5,none⟩)) (de : ∀k,(¬R.Still (.cell ⟨c.ask,k,none⟩)/\ ¬R.Still (.cell ⟨c.done,k,none⟩))/\ ¬R.Still (.cell ⟨c.grant,k,none⟩)/\ ¬R.Still (.cell ⟨c.quit,k,none⟩))
  (oc:c.ask≠c.done) (bw : ∀i t x,i≠0->R.Inb i=some t->t.has x->x≠c.ask/\x≠c.done) (ho:OpenC c.ask 0 w/\OpenC c.done 1 w) (C6:CapIs c.grant 0 w) (ow:c.grant≠c.ask/\c.grant≠c.done/\Fs c.grant) (hFr:Free R c.tb) (r8:(c.grant≠c.tb/\c.quit≠c.tb)/\c.ask≠c.tb/\c.done≠c.tb/\c.grant≠c.pb)
  {px:Nat} {v:Int} {busy closed:Bool} (hT:ThrAt c (.pointer (some ⟨px,0,none⟩)) busy closed w) (hS:StillAt c w) (caller:Frame) (cs:List Frame)
  (hW : ∀d k,∃F,(∀b,Fs b->F b)/\F.A=Fs.A/\WOk c rv tf s F (Go.Conc.served g₃ (commResult (seatCases c) .select 0 (.int .u64 v) true)) ((w.at d).setChan c.grant 0 #[] false (k+1) (k+1) false))
  (d9 : ∀ (d kg:Nat) (w' ws:World) (k:Nat) (s':WS) (F':Fo) (e:Tx.Ask) (L:List Tx.Ask) (g₂ g₃ g:Goroutine),s'.orc=s.orc->(∀b,Fs b->F' b)->F'.A=Fs.A->AskNow c rv tf s' F' e L g₂ g₃ g ws->RJt c.tb ws w'->(w'.heap[c.ask]? = some (.chan 0 #[] false k k false)/\ ∃kd,w'.heap[c.done]? = some (.chan 1 #[] false kd kd false))->Turned c Fs ((w.at d).setChan c.grant 0 #[] false (kg+1) (kg+1) false) busy closed w'->
   ∀w₃ px,px=w'.heap.size->w₃.heap[px]? = some (.cells #[.int .u8 e.k,.int .i64 e.at_,.int .u64 e.a,.int .u64 e.b] 143 (0,0))->Keeps (fun b=>b=c.tb) (w'.setChan c.ask 0 #[] false (k+1) (k+1) false) w₃->ThrAt c (.pointer (some ⟨px,0,none⟩)) busy closed w₃->w₃.heap.size=w'.heap.size+1->Runs Goal (R.asks c j g₃) n (G (caller.finish (.bool true)) cs) w₃)
  (bl : ∀ (d kg:Nat) (w' ws:World) (k:Nat) (s':WS) (F':Fo) (g:Goroutine),s'.orc=s.orc->(∀b,Fs b->F' b)->F'.A=Fs.A->DoneNow c rv tf s' F' g ws->Keeps (fun b=>b=c.tb\/b=c.done) ws w'->w'.heap.size=ws.heap.size->Turned c Fs ((w.at d).setChan c.grant 0 #[] false (kg+1) (kg+1) false) busy closed w'->
   ∀w₃,Keeps (fun b=>b=c.tb) (w'.setChan c.done 1 #[] false (k+1) (k+1) false) w₃->ThrAt c (.pointer none) false closed w₃->w₃.heap.size=w'.heap.size->Runs Goal (R.gone j) n (G (caller.finish (.bool true)) cs) w₃) :
  Runs Goal R n (G (Frame.enter Tryz.prog 76 #[.pointer (some ⟨c.tb,0,none⟩),.int .u64 v] .normal) (caller::cs)) w:=by
 have hO:=E.ok
 have lu:c.pb<w.heap.size:=by obtain⟨n₂,told,h⟩:=hS;exact(Array.getElem?_eq_some_iff.1 h).1
 have dy:c.tb<w.heap.size:=(Array.getElem?_eq_some_iff.1 hT).1
 obtain⟨Nf,hk⟩:=Classical.axiomOfChoice fun x:Frame=>xc2 (Goal:=Goal) (sH:=yG c) (B:=w.heap.size) R₀ hp (fun w w' h hk=>hFr.keeps h.1 hk) hFr.st hS3 ⟨dy,lu⟩ ⟨rfl,rfl⟩ (.pointer (some ⟨px,0,none⟩)) busy closed x (caller::cs)
 obtain⟨af,hk⟩:=Classical.axiomOfChoice hk
 rw[enter_at _ Tryz.func76 (by rfl)]
 simp only[Tryz.f76]
 refine xe hO (fun _=>stepG_seq) rfl ?_
 refine xe hO (fun _=>stepG_region) rfl ?_
 simp only[List.size_toArray,List.length_cons,List.length_nil,Nat.reduceAdd,Nat.zero_add,List.range,List.range.loop]
 refine xL (v :=.bool false) hO rfl rfl ?_
 walk_nrm
 refine xe hO (fun _=>stepG_region_end) rfl ?_
 refine xe hO (fun _=>stepG_seq) rfl ?_
 refine xe hO (fun _=>stepG_seq) rfl ?_
 refine xe hO (fun _=>stepG_region) rfl ?_
 simp only[List.size_toArray,List.length_cons,List.length_nil,Nat.reduceAdd,Nat.zero_add,List.range,List.range.loop]
 refine xp hO rfl rfl ?_
 walk_nrm
 refine m_op (v :=.bool false) hO rfl rfl (by decide) (fun w₄ h₄=>⟨by simp[go_sem,execOp,Act.eval],by
  simp[go_sem,execOp,Act.eval]
  rw[show Sem.events Tryz.prog (binOp BinOp.eql 74 (.pointer (some ⟨c.tb,0,none⟩)) (.pointer none)) w₄ #[] = #[]from by kernel_rfl]
  simp⟩) ?_
 walk_nrm
 refine xL (v :=.bool false) hO rfl rfl ?_
 walk_nrm
 refine xp hO rfl rfl ?_
 walk_nrm
 refine xp hO rfl rfl ?_
 walk_nrm
 refine xp hO rfl rfl ?_
 walk_nrm
 refine m_op (v :=.pointer (some ⟨px,0,none⟩)) hO rfl rfl (by decide) (fun w₄ h₄ =>?_) ?_
 .obtain⟨hc,hz⟩:=xy (w:=w₄) (by rw[h₄];exact hT) 3
  simp only[thrC]at hc
  exact⟨by simp[go_sem,execOp,Act.eval,hc,hz],fun ev he=>by
   simp[go_sem,execOp,Act.eval,hc,hz]at he
   subst he
   exact xl (by rw[h₄];exact(Array.getElem?_eq_some_iff.1 hT).1) (fun e=>by cases e)⟩
 walk_nrm
 refine m_op (v :=.bool false) hO rfl rfl (by decide) (fun w₄ h₄=>⟨by simp[go_sem,execOp,Act.eval],by
  simp[go_sem,execOp,Act.eval]
  rw[show Sem.events Tryz.prog (binOp BinOp.eql 116 (.pointer (some ⟨px,0,none⟩)) (.pointer none)) w₄ #[] = #[]from by kernel_rfl]
  simp⟩) ?_
 walk_nrm
 refine xL (v :=.bool false) hO rfl rfl ?_
 walk_nrm
 refine xe hO (fun _=>stepG_region_end) rfl ?_
 refine xe hO (fun _=>stepG_cond (t:=false) rfl) rfl ?_
 simp only[Bool.false_eq_true,if_false]
 refine xe hO (fun _=>stepG_skip) rfl ?_
 refine xe hO (fun _=>stepG_seq) rfl ?_
 refine xe hO (fun _=>stepG_region) rfl ?_
 simp only[List.size_toArray,List.length_cons,List.length_nil,Nat.reduceAdd,Nat.zero_add,List.range,List.range.loop]
 refine xp hO rfl rfl ?_
 walk_nrm
 refine xp hO rfl rfl ?_
 walk_nrm
 refine xp hO rfl rfl ?_
 walk_nrm
 refine m_op (v :=.pointer (some ⟨c.pb,0,none⟩)) hO rfl rfl (by decide) (fun w₄ h₄ =>?_) ?_
 .obtain⟨hc,hz⟩:=xy (w:=w₄) (by rw[h₄];exact hT) 1
  simp only[thrC]at hc
  exact⟨by simp[go_sem,execOp,Act.eval,hc,hz],fun ev he=>by
   simp[go_sem,execOp,Act.eval,hc,hz]at he
   subst he
   exact xl (by rw[h₄];exact(Array.getElem?_eq_some_iff.1 hT).1) (fun e=>by cases e)⟩
 walk_nrm
 refine xp hO rfl rfl ?_
 walk_nrm
 refine xp hO rfl rfl ?_
 walk_nrm
 refine m_op (v :=.chan (some c.grant)) hO rfl rfl (by decide) (fun w₄ h₄ =>?_) ?_
 .obtain⟨n₂,told,gy⟩:=hS
  obtain⟨hc,hz⟩:=yB (c:=c) (w:=w₄) (by rw[h₄];exact gy) 4
  simp only[waitsC]at hc
  exact⟨by simp[go_sem,execOp,Act.eval,hc,hz],fun ev he=>by
   simp[go_sem,execOp,Act.eval,hc,hz]at he
   subst he
   exact xl (by rw[h₄];exact(Array.getElem?_eq_some_iff.1 gy).1) (fun e=>by cases e)⟩
 walk_nrm
 refine xL (v :=.int .u64 v) hO rfl rfl ?_
 walk_nrm
 apply xgZ (s:=s) (rv:=rv) (tf:=tf) (busy:=busy) (closed:=closed) E hj A5 R₀ hp hjI hMj hSt hS4 hS5 (fun k=>(de k).1) oc bw ho C6 ow lu rfl ?send hW ?gh ?ask ?done
 case send=>
  intro d
  rw[stepG_comm rfl rfl (by decide) (cases:= #[scase c.grant (.int .u64 v) (.tuple #[])]) (blocking:=true) (shape :=.send) (w':=w.at d) (by simp[go_sem,execOp,Act.eval,scase]),listed_none (by simp[go_sem,execOp,Act.eval])]
 case gh=>
  intro d k
  rw[served_fr,Frame.finish_at]
  walk_nrm
  apply yO (fun _=>stepG_region_end) rfl
  apply yO (fun _=>stepG_seq) rfl
  apply yO (fun _=>stepG_region) rfl
  simp only[List.size_toArray,List.length_cons,List.length_nil,Nat.reduceAdd,Nat.zero_add,List.range,List.range.loop]
  apply jA rfl rfl (by decide) (fun w₂ h₂=>⟨by simp[go_sem,execOp,Act.eval];rfl,by simp[go_sem,execOp,Act.eval]⟩)
  walk_nrm
  apply xc1 (f:= 59) (args:= #[.pointer (some ⟨c.tb,0,none⟩)]) rfl rfl (by decide) (fun w₄=>⟨by simp[go_sem,execOp,Act.eval,resolve,Deferred.ofValue,invoke,callFunc,Tryz.func59,ZG,WI],by simp[go_sem,execOp,Act.eval,resolve,Deferred.ofValue,invoke,callFunc,Tryz.func59,ZG,WI]⟩)
  exact(hk _).1 _ (hT.chan r8.1.1) (StillAt.chan hS r8.2.2.2)
 case ask=>
  intro d kg w' ws k s' F' e L g₂ g₃ g h1 h2 h3 h4 h5 h6 ht
  have hO:=(E.asks (c:=c) hj (g₃:=g₃) fun k=>(de k).2).ok
  refine(hk _).2.1 hO (hFr.asks r8.1) (ht.thr.chan (d:=w'.drawn) r8.2.1) fun w₃ px e1 e2 e3 e4 e5 =>?_
  rw[size_setChan]at e1 e5
  rw[Frame.finish_at]
  walk_nrm
  refine xe hO (fun _=>stepG_region_end) rfl ?_
  refine xe hO (fun _=>stepG_seq) rfl ?_
  refine xe hO (fun _=>stepG_region) rfl ?_
  simp only[List.size_toArray,List.length_cons,List.length_nil,Nat.reduceAdd,Nat.zero_add,List.range,List.range.loop]
  refine xL (v :=.bool true) hO rfl rfl ?_
  walk_nrm
  refine xe hO (fun _=>stepG_region_end) rfl ?_
  refine xe hO (fun _=>stepG_ret') rfl ?_
  refine xe hO (fun w₄=>stepG_leave rfl rfl Tryz.func76 (results_tmp rfl _ _ _) (events_results_tmp rfl _ _)) rfl ?_
  exact d9 d kg w' ws k s' F' e L g₂ g₃ g h1 h2 h3 h4 h5 h6 ht w₃ px e1 e2 e3 e4 e5
 case done=>
  intro d kg w' ws k s' F' g h0 h1 h2 h3 h4 h5 ht
  have hO:=(E.gone hj).ok
  refine(hk _).2.2 hO hFr.gone (ht.thr.chan (d:=w'.drawn) r8.2.2.1) fun w₃ e3 e4 e5 =>?_
  rw[size_setChan]at e5
  rw[Frame.finish_at]
  walk_nrm
  refine xe hO (fun _=>stepG_region_end) rfl ?_
  refine xe hO (fun _=>stepG_seq) rfl ?_
  refine xe hO (fun _=>stepG_region) rfl ?_
  simp only[List.size_toArray,List.length_cons,List.length_nil,Nat.reduceAdd,Nat.zero_add,List.range,List.range.loop]
  refine xL (v :=.bool true) hO rfl rfl ?_
  walk_nrm
  refine xe hO (fun _=>stepG_region_end) rfl ?_
  refine xe hO (fun _=>stepG_ret') rfl ?_
  refine xe hO (fun w₄=>stepG_leave rfl rfl Tryz.func76 (results_tmp rfl _ _ _) (events_results_tmp rfl _ _)) rfl ?_
  exact bl d kg w' ws k s' F' g h0 h1 h2 h3 h4 h5 ht w₃ e3 e4 e5
end Go.Proofs.YtfagfflkgmcnpaaGreatDoor.Mx
