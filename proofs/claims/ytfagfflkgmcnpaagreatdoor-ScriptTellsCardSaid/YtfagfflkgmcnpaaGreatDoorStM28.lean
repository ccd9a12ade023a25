/- Part. -/
import Derived.Test.YtfagfflkgmcnpaaGreatDoorStM27
import Derived.Conc.SmallLaws
set_option linter.all false
open Go.IntKind (i64 u64 u32 u8)
set_option maxRecDepth 1000000
namespace Go.Proofs.YtfagfflkgmcnpaaGreatDoor.Mx
open Go Go.Conc Lx Kx Tx
open Go.ConcN (sumTo upd sumTo_upd upd_ne upd_same)
variable{Goal:Machine->Trace->Prop}{R:Rg}{n:Nat}{a:Goroutine}{w w':World}{c:WC}
section
variable{b:Frame}{a:Act}{ops:Array Oper}{i:Nat}{rest:List Nat}{o:Oper}{k:List Item}{cs:List Frame}{v:Value}
structure Own1(R:Rg)(x:Nat):Prop where
 st : ∀k,¬R.Still (.cell ⟨x,k,none⟩)
 ch : ∀i s c,R.Inb i=some s->s.has c->c≠x
theorem kR(E:Env R){ob:Obj}{v:Value}(ho:ops[i]? = some o)(hw:Region.wanted o (yielded ops a.tmps)=true)(hk:b.kind ≠ .early)(h : ∀d,(execOp a.eval o).run Tryz.prog (w.at d) = .ok (.value v) ((w.at d).alloc ob)/\(execOp a.eval o).events Tryz.prog (w.at d) #[] = #[])
  (hn : ∀d,Own1 R w.heap.size->Runs Goal R n (G (b.at (a.put o.dst v) (.inRegion ops rest::k)) cs) ((w.at d).alloc ob)):Runs Goal R n (G (b.at a (.inRegion ops (i::rest)::k)) cs) w:=
 xij E.ok ho hw hk fun hl d am=>⟨v,(w.at d).alloc ob,(h d).1,E.keep _ _ (fun x k hx=>alloc_old (E.low _ x k am hx)) am,fun i s c hi hc=>alloc_old (w:=w.at d) (hl i s c hi hc),by rw[World.size_alloc];exact Nat.le_succ _,fun e he=>by rw[(h d).2]at he;simp at he,
  hn d ⟨fun k hx=>by have h0:w.heap.size<(w.at d).heap.size:=E.low _ _ k am hx;exact absurd h0 (Nat.lt_irrefl _),fun i s c hi hc e=>by have:=hl i s c hi hc;omega⟩⟩
theorem xfD(E:Env R){x:Nat}{T U:TypeId}{cs' rv:List Value}(hX:Own1 R x)(ho:ops[i]? = some o)(hw:Region.wanted o (yielded ops a.tmps)=true)(hk:b.kind ≠ .early)(hx:w.heap[x]? = some (.cells cs'.toArray T (0,0)))(hl:rv.length=cs'.length)(h1 : ∀v∈rv,Lx.One v)
  (hz : ∀w,(sizeOf U).run Tryz.prog w = .ok rv.length w/\(sizeOf U).events Tryz.prog w #[] = #[]) (ab : ∀w w',(Instr.storeAt U (.pointer (some ⟨x,0,none⟩)) (.agg rv.toArray)).run Tryz.prog w = .ok () w'->(execOp a.eval o).run Tryz.prog w = .ok .skip w') (bt : ∀w,(execOp a.eval o).events Tryz.prog w #[]=(Instr.storeAt U (.pointer (some ⟨x,0,none⟩)) (.agg rv.toArray)).events Tryz.prog w #[])
  (hn : ∀w',w'.heap[x]? = some (.cells rv.toArray T (0,0))->Keeps (fun b=>b=x) w w'->w'.heap.size=w.heap.size->Runs Goal R n (G (b.at (a.put o.dst undef) (.inRegion ops rest::k)) cs) w'):Runs Goal R n (G (b.at a (.inRegion ops (i::rest)::k)) cs) w:=
 wj E.ok ho hw hk fun Cy d am=>by
  obtain⟨w',h2,h3,h4,h5,h6⟩:=xfC (w:=w.at d) (U:=U) hx hl h1 (hz _).1 (hz _).2
  refine⟨w',ab _ _ h2,E.keep _ _ (fun y k hy=>h4.block y (E.low _ y k am hy) fun e=>hX.st k (e▸hy)) am,fun i s c hi hc=>h4.block c (Cy i s c hi hc) (hX.ch i s c hi hc),Nat.le_of_eq h5.symm,fun e he =>?_,hn w' h3 ⟨h4.os,h4.tape,h4.output,h4.size,h4.block⟩ h5⟩
  rw[bt]at he
  obtain⟨k',rfl⟩:=h6 e he
  exact xl (by rw[h5];exact(Array.getElem?_eq_some_iff.1 hx).1) fun _=>hX.st _
end
theorem WJ(hO:R.Ok){b:Frame}{a:Act}{cs:List Frame}{fn:Func}{todo:List Item}{c:Frame}{v:Value}(hn:b.kind = .normal)(hd:a.defers = [])(hf : Tryz.prog.funcs[b.fn]? = some fn)(hr : ∀w₁:World,w₁.heap=w.heap->(results fn a.tmps).run Tryz.prog w₁ = .ok v w₁/\ ∀e∈(results fn a.tmps).events Tryz.prog w₁ #[],EvHd R.Still w₁.heap.size e)
  (hh:Runs Goal R n (G (c.finish v) cs) w):Runs Goal R n (G {b.at a todo with mode :=.returning} (c::cs)) w:=
 Runs.go hO rfl fun _ d hk=>⟨_,w.at d,_,Kx.stepG_leaveE hn hd hf (hr (w.at d) rfl).1,hk,fun _ _ _ _ _=>rfl,dJ _,fun e he=>(hr (w.at d) rfl).2 e (Kx.mem_seen he),hh.at_⟩
theorem WK{T:TypeId}{k:Nat}(hT : ∃dir e i,Tryz.prog.underlying T=some (.chan dir e)/\ Tryz.prog.info? e=some i/\(i.bytes:Int)*k<=281474976710544)(hk:(k:Int)<=9223372036854775807)(w:World):(Instr.makeChan T (.int .i64 k)).run Tryz.prog w = .ok (.chan (some w.heap.size)) (w.alloc (.chan k #[] false 0 0 false))/\(Instr.makeChan T (.int .i64 k)).events Tryz.prog w #[] = #[]:=by
 obtain⟨dir,e,i,ht,hi,hb⟩:=hT
 exact⟨Go.Conc.run_makeChan ht hi .i64 k hk hb,Go.Conc.events_makeChan ht hi .i64 k hk hb _⟩
theorem xfE(w:World):(Instr.makeChan 113 (.int .i64 0)).run Tryz.prog w = .ok (.chan (some w.heap.size)) (w.alloc (.chan 0 #[] false 0 0 false))/\(Instr.makeChan 113 (.int .i64 0)).events Tryz.prog w #[] = #[]:=
 WK (k:=0) ⟨_,_,_,rfl,rfl,by simp⟩ (by decide) w
variable{tb:Nat}{self:Int}{port done pend:Value}{busy closed:Bool}{quit:Nat}
theorem busy_ok(E:Env R){c:WC}(hc:c.tb=tb)(hT:w.heap[c.tb]? = some (thrO self port done pend busy closed quit))(caller:Frame)(cs:List Frame)(hn:Runs Goal R n (G (caller.finish (.bool busy)) cs) w) :
  Runs Goal R n (G (Frame.enter Tryz.prog 31 #[.pointer (some ⟨c.tb,0,none⟩)] .normal) (caller::cs)) w:=by
 have hO:=E.ok
 rw[enter_at _ Tryz.func31 (by rfl)]
 simp only[Tryz.f31]
 refine xe hO (fun _=>stepG_seq) rfl ?_
 refine xe hO (fun _=>stepG_region) rfl ?_
 simp only[List.size_toArray,List.length_cons,List.length_nil,Nat.reduceAdd,Nat.zero_add,List.range,List.range.loop]
 refine xL (v :=.bool false) hO rfl rfl ?_
 walk_nrm
 refine xe hO (fun _=>stepG_region_end) rfl ?_
 refine xe hO (fun _=>stepG_seq) rfl ?_
 refine xe hO (fun _=>stepG_region) rfl ?_
 simp only[List.size_toArray,List.length_cons,List.length_nil,Nat.reduceAdd,Nat.zero_add,List.range,List.range.loop]
 refine xp hO rfl rfl ?_
 walk_nrm
 refine m_op (v :=.bool true) hO rfl rfl (by decide) (fun w₄ h₄=>⟨by simp[go_sem,execOp,Act.eval],by
  simp[go_sem,execOp,Act.eval]
  rw[show Sem.events Tryz.prog (binOp BinOp.neq 74 (.pointer (some ⟨c.tb,0,none⟩)) (.pointer none)) w₄ #[] = #[]from by kernel_rfl]
  simp⟩) ?_
 walk_nrm
 refine xL (v :=.bool true) hO rfl rfl ?_
 walk_nrm
 refine xp hO rfl rfl ?_
 walk_nrm
 refine xp hO rfl rfl ?_
 walk_nrm
 refine xp hO rfl rfl ?_
 walk_nrm
 refine m_op (v :=.bool busy) hO rfl rfl (by decide) (fun w₄ h₄ =>?_) ?_
 .obtain⟨hc,hz⟩:=xy (w:=w₄) (by rw[h₄];exact hT) 4
  simp only[thrC]at hc
  exact⟨by simp[go_sem,execOp,Act.eval,hc,hz],fun ev he=>by
   simp[go_sem,execOp,Act.eval,hc,hz]at he
   subst he
   exact xl (by rw[h₄];exact(Array.getElem?_eq_some_iff.1 hT).1) (fun e=>by cases e)⟩
 walk_nrm
 refine xL (v :=.bool busy) hO rfl rfl ?_
 walk_nrm
 refine xL (v :=.bool busy) hO rfl rfl ?_
 walk_nrm
 refine xe hO (fun _=>stepG_region_end) rfl ?_
 refine xe hO (fun _=>stepG_ret') rfl ?_
 refine xe hO (fun w₄=>stepG_leave rfl rfl Tryz.func31 (results_tmp rfl _ _ _) (events_results_tmp rfl _ _)) rfl ?_
 exact hn
theorem new_ok(E:Env R)(id:Int)(caller:Frame)(cs:List Frame)
  (hn : ∀w' q x,q=w.heap.size->x=w.heap.size+1->w'.heap[q]? = some (.chan 0 #[] false 0 0 false)->w'.heap[x]? = some (thrO id (.pointer none) (.chan none) (.pointer none) false false q)->Keeps (fun _=>False) w w'->w'.heap.size=w.heap.size+2->Own1 R q->Own1 R x->Runs Goal R n (G (caller.finish (.pointer (some ⟨x,0,none⟩))) cs) w') :
  Runs Goal R n (G (Frame.enter Tryz.prog 26 #[.int .i64 id] .normal) (caller::cs)) w:=by
 have hO:=E.ok
 rw[enter_at _ Tryz.func26 (by rfl)]
 simp only[Tryz.f26]
 refine xe hO (fun _=>stepG_seq) rfl ?_
 refine xe hO (fun _=>stepG_region) rfl ?_
 simp only[List.size_toArray,List.length_cons,List.length_nil,Nat.reduceAdd,Nat.zero_add,List.range,List.range.loop]
 refine xL (v :=.pointer none) hO rfl rfl ?_
 walk_nrm
 refine xe hO (fun _=>stepG_region_end) rfl ?_
 refine xe hO (fun _=>stepG_seq) rfl ?_
 refine xe hO (fun _=>stepG_region) rfl ?_
 simp only[List.size_toArray,List.length_cons,List.length_nil,Nat.reduceAdd,Nat.zero_add,List.range,List.range.loop]
 refine xL (v :=.int .i64 id) hO rfl rfl ?_
 walk_nrm
 refine kR E (v :=.chan (some w.heap.size)) (ob :=.chan 0 #[] false 0 0 false) rfl rfl (by decide) (fun d=>⟨by simp[go_sem,execOp,Act.eval,(xfE (w.at d)).1],by simp[go_sem,execOp,Act.eval,(xfE (w.at d)).2]⟩) fun d hq =>?_
 have ip:((w.at d).alloc (.chan 0 #[] false 0 0 false)).heap.size=w.heap.size+1:=World.size_alloc _ _
 have Av:((w.at d).alloc (.chan 0 #[] false 0 0 false)).heap[w.heap.size]? = some (.chan 0 #[] false 0 0 false):=heap_alloc_new _ _
 have eh:Keeps (fun _=>False) w ((w.at d).alloc (.chan 0 #[] false 0 0 false)):=⟨rfl,rfl,rfl,by rw[ip];exact Nat.le_succ _,fun b hb _=>alloc_old (w:=w.at d) hb⟩
 generalize(w.at d).alloc (.chan 0 #[] false 0 0 false)=W at ip Av eh |-
 generalize hQ:w.heap.size=q at ip Av hq |-
 walk_nrm
 refine m_op (v :=.agg (thrC id (.pointer none) (.chan none) (.pointer none) false false q)) hO rfl rfl (by decide) (fun w₄ h₄=>⟨by simp[go_sem,execOp,Act.eval,thrC],by simp[go_sem,execOp,Act.eval,thrC]⟩) ?_
 walk_nrm
 refine kR E (v :=.pointer (some ⟨W.heap.size,0,none⟩)) (ob:=thrO id (.pointer none) (.chan none) (.pointer none) false false q) rfl rfl (by decide) (fun d=>⟨by simp[execOp,Act.eval,Instr.box,newVar,newRow,thrC,thrO,Value.cells];rfl,by simp[execOp,Act.eval,Instr.box,newVar,newRow]⟩) fun d hx =>?_
 have nr:((W.at d).alloc (thrO id (.pointer none) (.chan none) (.pointer none) false false q)).heap.size=W.heap.size+1:=World.size_alloc _ _
 have Jb:((W.at d).alloc (thrO id (.pointer none) (.chan none) (.pointer none) false false q)).heap[W.heap.size]? = some (thrO id (.pointer none) (.chan none) (.pointer none) false false q):=heap_alloc_new _ _
 have tq:((W.at d).alloc (thrO id (.pointer none) (.chan none) (.pointer none) false false q)).heap[q]? = some (.chan 0 #[] false 0 0 false):=(alloc_old (w:=W.at d) (show q<W.heap.size by omega)).trans Av
 have cw:Keeps (fun _=>False) W ((W.at d).alloc (thrO id (.pointer none) (.chan none) (.pointer none) false false q)):=⟨rfl,rfl,rfl,by rw[nr];exact Nat.le_succ _,fun b hb _=>alloc_old (w:=W.at d) hb⟩
 have hn:=hn _ q W.heap.size hQ.symm (by omega) tq Jb (eh.trans cw fun b hb=>hb.elim) (by rw[nr,ip,hQ]) hq hx
 generalize(W.at d).alloc (thrO id (.pointer none) (.chan none) (.pointer none) false false q)=W₂ at hn |-
 walk_nrm
 refine xp hO rfl rfl ?_
 walk_nrm
 refine xe hO (fun _=>stepG_region_end) rfl ?_
 refine xe hO (fun _=>stepG_ret') rfl ?_
 refine xe hO (fun w₄=>stepG_leave rfl rfl Tryz.func26 (results_tmp rfl _ _ _) (events_results_tmp rfl _ _)) rfl ?_
 exact hn
theorem xbC(E:Env R){c:WC}(hT:w.heap[c.tb]? = some (thrO self port done (.pointer none) busy closed quit))(caller:Frame)(cs:List Frame)
  (hn : ∀w',Keeps (fun _=>False) w w'->Runs Goal R n (G (caller.finish (.tuple #[.agg #[.int .u8 0,.int .i64 0,.int .u64 0,.int .u64 0],.bool false])) cs) w') :
  Runs Goal R n (G (Frame.enter Tryz.prog 74 #[.pointer (some ⟨c.tb,0,none⟩)] .normal) (caller::cs)) w:=by
 have hO:=E.ok
 rw[enter_at _ Tryz.func74 (by rfl)]
 simp only[Tryz.f74]
 refine xe hO (fun _=>stepG_seq) rfl ?_
 refine xe hO (fun _=>stepG_region) rfl ?_
 simp only[List.size_toArray,List.length_cons,List.length_nil,Nat.reduceAdd,Nat.zero_add,List.range,List.range.loop]
 refine kR E (v :=.pointer (some ⟨w.heap.size,0,none⟩)) (ob :=.cells #[.int .u8 0,.int .i64 0,.int .u64 0,.int .u64 0] 143) rfl rfl (by decide) (fun d=>⟨by simp[go_sem,execOp,Act.eval],by simp[go_sem,execOp,Act.eval]⟩) fun d hO1 =>?_
 have hz:((w.at d).alloc (.cells #[.int .u8 0,.int .i64 0,.int .u64 0,.int .u64 0] 143)).heap[w.heap.size]? = some (.cells [.int .u8 0,.int .i64 0,.int .u64 0,.int .u64 0].toArray 143 (0,0)):=heap_alloc_new _ _
 have eh:Keeps (fun _=>False) w ((w.at d).alloc (.cells #[.int .u8 0,.int .i64 0,.int .u64 0,.int .u64 0] 143)):=⟨rfl,rfl,rfl,by rw[World.size_alloc];exact Nat.le_succ _,fun b hb _=>alloc_old (w:=w.at d) hb⟩
 have hT0:=hT
 replace hT:=(eh.block c.tb (Array.getElem?_eq_some_iff.1 hT).1 id).trans hT
 generalize(w.at d).alloc (.cells #[.int .u8 0,.int .i64 0,.int .u64 0,.int .u64 0] 143)=W at hz eh hT |-
 generalize hN:w.heap.size=N at hz hO1
 have hTN:c.tb≠N:=fun e=>by have:=(Array.getElem?_eq_some_iff.1 hT0).1;omega
 walk_nrm
 refine xL (v :=.bool false) hO rfl rfl ?_
 walk_nrm
 refine xe hO (fun _=>stepG_region_end) rfl ?_
 refine xe hO (fun _=>stepG_seq) rfl ?_
 refine xe hO (fun _=>stepG_seq) rfl ?_
 refine xe hO (fun _=>stepG_region) rfl ?_
 simp only[List.size_toArray,List.length_cons,List.length_nil,Nat.reduceAdd,Nat.zero_add,List.range,List.range.loop]
 refine xp hO rfl rfl ?_
 walk_nrm
 refine m_op (v :=.bool false) hO rfl rfl (by decide) (fun w₄ h₄=>⟨by simp[go_sem,execOp,Act.eval],by
  simp[go_sem,execOp,Act.eval]
  rw[show Sem.events Tryz.prog (binOp BinOp.eql 74 (.pointer (some ⟨c.tb,0,none⟩)) (.pointer none)) w₄ #[] = #[]from by kernel_rfl]
  simp⟩) ?_
 walk_nrm
 refine xL (v :=.bool false) hO rfl rfl ?_
 walk_nrm
 refine xp hO rfl rfl ?_
 walk_nrm
 refine xp hO rfl rfl ?_
 walk_nrm
 refine xp hO rfl rfl ?_
 walk_nrm
 refine m_op (v :=.pointer none) hO rfl rfl (by decide) (fun w₄ h₄ =>?_) ?_
 .obtain⟨hc,hz⟩:=xy (w:=w₄) (by rw[h₄];exact hT) 3
  simp only[thrC]at hc
  exact⟨by simp[go_sem,execOp,Act.eval,hc,hz],fun ev he=>by
   simp[go_sem,execOp,Act.eval,hc,hz]at he
   subst he
   exact xl (by rw[h₄];exact(Array.getElem?_eq_some_iff.1 hT).1) (fun e=>by cases e)⟩
 walk_nrm
 refine m_op (v :=.bool true) hO rfl rfl (by decide) (fun w₄ h₄=>⟨by simp[go_sem,execOp,Act.eval],by
  simp[go_sem,execOp,Act.eval]
  rw[show Sem.events Tryz.prog (binOp BinOp.eql 116 (.pointer none) (.pointer none)) w₄ #[] = #[]from by kernel_rfl]
  simp⟩) ?_
 walk_nrm
 refine xL (v :=.bool true) hO rfl rfl ?_
 walk_nrm
 refine xe hO (fun _=>stepG_region_end) rfl ?_
 refine xe hO (fun _=>stepG_cond (t:=true) rfl) rfl ?_
 simp only[if_true]
 refine xe hO (fun _=>stepG_seq) rfl ?_
 refine xe hO (fun _=>stepG_region) rfl ?_
 simp only[List.size_toArray,List.length_cons,List.length_nil,Nat.reduceAdd,Nat.zero_add,List.range,List.range.loop]
 refine xL (v :=.agg #[.int .u8 0,.int .i64 0,.int .u64 0,.int .u64 0]) hO rfl rfl ?_
 walk_nrm
 refine xfD E (x:=N) (T:= 143) (U:= 143) (rv :=[.int .u8 0,.int .i64 0,.int .u64 0,.int .u64 0]) hO1 rfl rfl (by decide) hz rfl (by simp[Lx.One,Value.cells]) (fun w=>⟨by kernel_rfl,by kernel_rfl⟩) (fun w w' h=>by simp[execOp,Act.eval,h]) (fun w=>by simp[execOp,Act.eval]) fun w₂ hx₂ cw nr =>?_
 have d7:Keeps (fun _=>False) w w₂:=eh.trans (S':=fun b=>b=N) cw fun b hb =>.inr (by rw[hb,hN];exact dJ _)
 have hn:=hn w₂ d7
 clear cw nr d7
 walk_nrm
 refine xL (v :=.bool false) hO rfl rfl ?_
 walk_nrm
 refine xe hO (fun _=>stepG_region_end) rfl ?_
 refine xe hO (fun _=>stepG_ret') rfl ?_
 refine WJ hO (v :=.tuple #[.agg #[.int .u8 0,.int .i64 0,.int .u64 0,.int .u64 0],.bool false]) rfl rfl Tryz.func74 (fun w₁ h₁ =>?_) hn
 have hx₂:w₁.heap[N]? = some (.cells #[.int .u8 0,.int .i64 0,.int .u64 0,.int .u64 0] 143 (0,0)):=by rw[h₁];exact hx₂
 have c0:=xk (off:=0) hx₂
 have z0:=xg (off:=0) hx₂
 have c1:=xk (off:=1) hx₂
 have z1:=xg (off:=1) hx₂
 have c2:=xk (off:=2) hx₂
 have z2:=xg (off:=2) hx₂
 have c3:=xk (off:=3) hx₂
 have z3:=xg (off:=3) hx₂
 simp only[List.getElem?_toArray,List.getElem?_cons_zero,List.getElem?_cons_succ]at c0 c1 c2 c3
 exact⟨by simp[results,Tryz.f74,go_sem,c0,c1,c2,c3,z0,z1,z2,z3],fun ev he=>by
  simp[results,Tryz.f74,go_sem,c0,c1,c2,c3,z0,z1,z2,z3]at he
  rcases he with rfl|rfl|rfl|rfl<;>exact xl (Array.getElem?_eq_some_iff.1 hx₂).1 (fun e=>by cases e)⟩
theorem xbD (E:Env R) {c:WC} {px:Nat} {k at_ x y:Int} (hT:w.heap[c.tb]? = some (thrO self port done (.pointer (some ⟨px,0,none⟩)) busy closed quit)) (hP:w.heap[px]? = some (.cells #[.int .u8 k,.int .i64 at_,.int .u64 x,.int .u64 y] 143 (0,0))) (caller:Frame) (cs:List Frame)
  (hn : ∀w',Keeps (fun _=>False) w w'->Runs Goal R n (G (caller.finish (.tuple #[.agg #[.int .u8 k,.int .i64 at_,.int .u64 x,.int .u64 y],.bool true])) cs) w') :
  Runs Goal R n (G (Frame.enter Tryz.prog 74 #[.pointer (some ⟨c.tb,0,none⟩)] .normal) (caller::cs)) w:=by
 have hO:=E.ok
 rw[enter_at _ Tryz.func74 (by rfl)]
 simp only[Tryz.f74]
 refine xe hO (fun _=>stepG_seq) rfl ?_
 refine xe hO (fun _=>stepG_region) rfl ?_
 simp only[List.size_toArray,List.length_cons,List.length_nil,Nat.reduceAdd,Nat.zero_add,List.range,List.range.loop]
 refine kR E (v :=.pointer (some ⟨w.heap.size,0,none⟩)) (ob :=.cells #[.int .u8 0,.int .i64 0,.int .u64 0,.int .u64 0] 143) rfl rfl (by decide) (fun d=>⟨by simp[go_sem,execOp,Act.eval],by simp[go_sem,execOp,Act.eval]⟩) fun d hO1 =>?_
 have hz:((w.at d).alloc (.cells #[.int .u8 0,.int .i64 0,.int .u64 0,.int .u64 0] 143)).heap[w.heap.size]? = some (.cells [.int .u8 0,.int .i64 0,.int .u64 0,.int .u64 0].toArray 143 (0,0)):=heap_alloc_new _ _
 have eh:Keeps (fun _=>False) w ((w.at d).alloc (.cells #[.int .u8 0,.int .i64 0,.int .u64 0,.int .u64 0] 143)):=⟨rfl,rfl,rfl,by rw[World.size_alloc];exact Nat.le_succ _,fun b hb _=>alloc_old (w:=w.at d) hb⟩
 have hT0:=hT
 replace hT:=(eh.block c.tb (Array.getElem?_eq_some_iff.1 hT).1 id).trans hT
 have hP0:=hP
 replace hP:=(eh.block px (Array.getElem?_eq_some_iff.1 hP).1 id).trans hP
 generalize(w.at d).alloc (.cells #[.int .u8 0,.int .i64 0,.int .u64 0,.int .u64 0] 143)=W at hz eh hT hP |-
 generalize hN:w.heap.size=N at hz hO1
 have hTN:c.tb≠N:=fun e=>by have:=(Array.getElem?_eq_some_iff.1 hT0).1;omega
 walk_nrm
 refine xL (v :=.bool false) hO rfl rfl ?_
 walk_nrm
 refine xe hO (fun _=>stepG_region_end) rfl ?_
 refine xe hO (fun _=>stepG_seq) rfl ?_
 refine xe hO (fun _=>stepG_seq) rfl ?_
 refine xe hO (fun _=>stepG_region) rfl ?_
 simp only[List.size_toArray,List.length_cons,List.length_nil,Nat.reduceAdd,Nat.zero_add,List.range,List.range.loop]
 refine xp hO rfl rfl ?_
 walk_nrm
 refine m_op (v :=.bool false) hO rfl rfl (by decide) (fun w₄ h₄=>⟨by simp[go_sem,execOp,Act.eval],by
  simp[go_sem,execOp,Act.eval]
  rw[show Sem.events Tryz.prog (binOp BinOp.eql 74 (.pointer (some ⟨c.tb,0,none⟩)) (.pointer none)) w₄ #[] = #[]from by kernel_rfl]
  simp⟩) ?_
 walk_nrm
 refine xL (v :=.bool false) hO rfl rfl ?_
 walk_nrm
 refine xp hO rfl rfl ?_
 walk_nrm
 refine xp hO rfl rfl ?_
 walk_nrm
 refine xp hO rfl rfl ?_
 walk_nrm
 refine m_op (v :=.pointer (some ⟨px,0,none⟩)) hO rfl rfl (by decide) (fun w₄ h₄ =>?_) ?_
 .obtain⟨hc,hz⟩:=xy (w:=w₄) (by rw[h₄];exact hT) 3
  simp only[thrC]at hc
  exact⟨by simp[go_sem,execOp,Act.eval,hc,hz],fun ev he=>by
   simp[go_sem,execOp,Act.eval,hc,hz]at he
   subst he
   exact xl (by rw[h₄];exact(Array.getElem?_eq_some_iff.1 hT).1) (fun e=>by cases e)⟩
 walk_nrm
 refine m_op (v :=.bool false) hO rfl rfl (by decide) (fun w₄ h₄=>⟨by simp[go_sem,execOp,Act.eval],by
  simp[go_sem,execOp,Act.eval]
  rw[show Sem.events Tryz.prog (binOp BinOp.eql 116 (.pointer (some ⟨px,0,none⟩)) (.pointer none)) w₄ #[] = #[]from by kernel_rfl]
  simp⟩) ?_
 walk_nrm
 refine xL (v :=.bool false) hO rfl rfl ?_
 walk_nrm
 refine xe hO (fun _=>stepG_region_end) rfl ?_
 refine xe hO (fun _=>stepG_cond (t:=false) rfl) rfl ?_
 simp only[Bool.false_eq_true,if_false]
 refine xe hO (fun _=>stepG_skip) rfl ?_
 refine xe hO (fun _=>stepG_seq) rfl ?_
 refine xe hO (fun _=>stepG_region) rfl ?_
 simp only[List.size_toArray,List.length_cons,List.length_nil,Nat.reduceAdd,Nat.zero_add,List.range,List.range.loop]
 refine xp hO rfl rfl ?_
 walk_nrm
 refine xp hO rfl rfl ?_
 walk_nrm
 refine xp hO rfl rfl ?_
 walk_nrm
 refine m_op (v :=.pointer (some ⟨px,0,none⟩)) hO rfl rfl (by decide) (fun w₄ h₄ =>?_) ?_
 .obtain⟨hc,hz⟩:=xy (w:=w₄) (by rw[h₄];exact hT) 3
  simp only[thrC]at hc
  exact⟨by simp[go_sem,execOp,Act.eval,hc,hz],fun ev he=>by
   simp[go_sem,execOp,Act.eval,hc,hz]at he
   subst he
   exact xl (by rw[h₄];exact(Array.getElem?_eq_some_iff.1 hT).1) (fun e=>by cases e)⟩
 walk_nrm
 refine xp hO rfl rfl ?_
 walk_nrm
 refine m_op (v :=.agg #[.int .u8 k,.int .i64 at_,.int .u64 x,.int .u64 y]) hO rfl rfl (by decide) (fun w₄ h₄ =>?_) ?_
 .have hx₂:w₄.heap[px]? = some (.cells #[.int .u8 k,.int .i64 at_,.int .u64 x,.int .u64 y] 143 (0,0)):=by rw[h₄];exact hP
  have c0:=xk (off:=0) hx₂
  have z0:=xg (off:=0) hx₂
  have c1:=xk (off:=1) hx₂
  have z1:=xg (off:=1) hx₂
  have c2:=xk (off:=2) hx₂
  have z2:=xg (off:=2) hx₂
  have c3:=xk (off:=3) hx₂
  have z3:=xg (off:=3) hx₂
  simp only[List.getElem?_toArray,List.getElem?_cons_zero,List.getElem?_cons_succ]at c0 c1 c2 c3
  exact⟨by simp[go_sem,execOp,Act.eval,c0,c1,c2,c3,z0,z1,z2,z3],fun ev he=>by
   simp[go_sem,execOp,Act.eval,c0,c1,c2,c3,z0,z1,z2,z3]at he
   rcases he with rfl|rfl|rfl|rfl<;>exact xl (Array.getElem?_eq_some_iff.1 hx₂).1 (fun e=>by cases e)⟩
 walk_nrm
 refine xfD E (x:=N) (T:= 143) (U:= 143) (rv :=[.int .u8 k,.int .i64 at_,.int .u64 x,.int .u64 y]) hO1 rfl rfl (by decide) hz rfl (by simp[Lx.One,Value.cells]) (fun w=>⟨by kernel_rfl,by kernel_rfl⟩) (fun w w' h=>by simp[execOp,Act.eval,h]) (fun w=>by simp[execOp,Act.eval]) fun w₂ hx₂ cw nr =>?_
 have d7:Keeps (fun _=>False) w w₂:=eh.trans (S':=fun b=>b=N) cw fun b hb =>.inr (by rw[hb,hN];exact dJ _)
 have hn:=hn w₂ d7
 clear cw nr d7
 walk_nrm
 refine xL (v :=.bool true) hO rfl rfl ?_
 walk_nrm
 refine xe hO (fun _=>stepG_region_end) rfl ?_
 refine xe hO (fun _=>stepG_ret') rfl ?_
 refine WJ hO (v :=.tuple #[.agg #[.int .u8 k,.int .i64 at_,.int .u64 x,.int .u64 y],.bool true]) rfl rfl Tryz.func74 (fun w₁ h₁ =>?_) hn
 have hx₂:w₁.heap[N]? = some (.cells #[.int .u8 k,.int .i64 at_,.int .u64 x,.int .u64 y] 143 (0,0)):=by rw[h₁];exact hx₂
 have c0:=xk (off:=0) hx₂
 have z0:=xg (off:=0) hx₂
 have c1:=xk (off:=1) hx₂
 have z1:=xg (off:=1) hx₂
 have c2:=xk (off:=2) hx₂
 have z2:=xg (off:=2) hx₂
 have c3:=xk (off:=3) hx₂
 have z3:=xg (off:=3) hx₂
 simp only[List.getElem?_toArray,List.getElem?_cons_zero,List.getElem?_cons_succ]at c0 c1 c2 c3
 exact⟨by simp[results,Tryz.f74,go_sem,c0,c1,c2,c3,z0,z1,z2,z3],fun ev he=>by
  simp[results,Tryz.f74,go_sem,c0,c1,c2,c3,z0,z1,z2,z3]at he
  rcases he with rfl|rfl|rfl|rfl<;>exact xl (Array.getElem?_eq_some_iff.1 hx₂).1 (fun e=>by cases e)⟩
theorem told_none(E:Env R){c:WC}{nst:Int}(hT:w.heap[c.tb]? = some (thrO self (.pointer (some ⟨c.pb,0,none⟩)) done pend busy closed quit))(gy:w.heap[c.pb]? = some (waitsO c nst (.pointer none)))(caller:Frame)(cs:List Frame)
  (hn : ∀w',Keeps (fun _=>False) w w'->Runs Goal R n (G (caller.finish (.tuple #[.agg #[.int .i64 0,.int .i64 0,.int .u8 0,.int .u64 0,.int .u64 0,.int .u64 0,.int .u64 0,.int .u64 0,.int .i64 0,.int .i64 0,.int .i64 0],.bool false])) cs) w') :
  Runs Goal R n (G (Frame.enter Tryz.prog 116 #[.pointer (some ⟨c.tb,0,none⟩)] .normal) (caller::cs)) w:=by
 have hO:=E.ok
 rw[enter_at _ Tryz.func116 (by rfl)]
 simp only[Tryz.f116]
 refine xe hO (fun _=>stepG_seq) rfl ?_
 refine xe hO (fun _=>stepG_region) rfl ?_
 simp only[List.size_toArray,List.length_cons,List.length_nil,Nat.reduceAdd,Nat.zero_add,List.range,List.range.loop]
 refine kR E (v :=.pointer (some ⟨w.heap.size,0,none⟩)) (ob :=.cells #[.int .i64 0,.int .i64 0,.int .u8 0,.int .u64 0,.int .u64 0,.int .u64 0,.int .u64 0,.int .u64 0,.int .i64 0,.int .i64 0,.int .i64 0] 54) rfl rfl (by decide) (fun d=>⟨by simp[go_sem,execOp,Act.eval],by simp[go_sem,execOp,Act.eval]⟩) fun d hO1 =>?_
 have hz:((w.at d).alloc (.cells #[.int .i64 0,.int .i64 0,.int .u8 0,.int .u64 0,.int .u64 0,.int .u64 0,.int .u64 0,.int .u64 0,.int .i64 0,.int .i64 0,.int .i64 0] 54)).heap[w.heap.size]? = some (.cells [.int .i64 0,.int .i64 0,.int .u8 0,.int .u64 0,.int .u64 0,.int .u64 0,.int .u64 0,.int .u64 0,.int .i64 0,.int .i64 0,.int .i64 0].toArray 54 (0,0)):=heap_alloc_new _ _
 have eh:Keeps (fun _=>False) w ((w.at d).alloc (.cells #[.int .i64 0,.int .i64 0,.int .u8 0,.int .u64 0,.int .u64 0,.int .u64 0,.int .u64 0,.int .u64 0,.int .i64 0,.int .i64 0,.int .i64 0] 54)):=⟨rfl,rfl,rfl,by rw[World.size_alloc];exact Nat.le_succ _,fun b hb _=>alloc_old (w:=w.at d) hb⟩
 have hT0:=hT
 replace hT:=(eh.block c.tb (Array.getElem?_eq_some_iff.1 hT).1 id).trans hT
 have Fd:=gy
 replace gy:=(eh.block c.pb (Array.getElem?_eq_some_iff.1 gy).1 id).trans gy
 generalize(w.at d).alloc (.cells #[.int .i64 0,.int .i64 0,.int .u8 0,.int .u64 0,.int .u64 0,.int .u64 0,.int .u64 0,.int .u64 0,.int .i64 0,.int .i64 0,.int .i64 0] 54)=W at hz eh hT gy |-
 generalize hN:w.heap.size=N at hz hO1
 walk_nrm
 refine xL (v :=.bool false) hO rfl rfl ?_
 walk_nrm
 refine xe hO (fun _=>stepG_region_end) rfl ?_
 refine xe hO (fun _=>stepG_seq) rfl ?_
 refine xe hO (fun _=>stepG_seq) rfl ?_
 refine xe hO (fun _=>stepG_region) rfl ?_
 simp only[List.size_toArray,List.length_cons,List.length_nil,Nat.reduceAdd,Nat.zero_add,List.range,List.range.loop]
 refine xp hO rfl rfl ?_
 walk_nrm
 refine m_op (v :=.bool false) hO rfl rfl (by decide) (fun w₄ h₄=>⟨by simp[go_sem,execOp,Act.eval],by
  simp[go_sem,execOp,Act.eval]
  rw[show Sem.events Tryz.prog (binOp BinOp.eql 74 (.pointer (some ⟨c.tb,0,none⟩)) (.pointer none)) w₄ #[] = #[]from by kernel_rfl]
  simp⟩) ?_
 walk_nrm
 refine xL (v :=.bool false) hO rfl rfl ?_
 walk_nrm
 refine xp hO rfl rfl ?_
 walk_nrm
 refine xp hO rfl rfl ?_
 walk_nrm
 refine xp hO rfl rfl ?_
 walk_nrm
 refine m_op (v :=.pointer (some ⟨c.pb,0,none⟩)) hO rfl rfl (by decide) (fun w₄ h₄ =>?_) ?_
 .obtain⟨hc,hz⟩:=xy (w:=w₄) (by rw[h₄];exact hT) 1
  simp only[thrC]at hc
  exact⟨by simp[go_sem,execOp,Act.eval,hc,hz],fun ev he=>by
   simp[go_sem,execOp,Act.eval,hc,hz]at he
   subst he
   exact xl (by rw[h₄];exact(Array.getElem?_eq_some_iff.1 hT).1) (fun e=>by cases e)⟩
 walk_nrm
 refine m_op (v :=.bool false) hO rfl rfl (by decide) (fun w₄ h₄=>⟨by simp[go_sem,execOp,Act.eval],by
  simp[go_sem,execOp,Act.eval]
  rw[show Sem.events Tryz.prog (binOp BinOp.eql 114 (.pointer (some ⟨c.pb,0,none⟩)) (.pointer none)) w₄ #[] = #[]from by kernel_rfl]
  simp⟩) ?_
 walk_nrm
 refine xL (v :=.bool false) hO rfl rfl ?_
 walk_nrm
 refine xL (v :=.bool false) hO rfl rfl ?_
 walk_nrm
 refine xp hO rfl rfl ?_
 walk_nrm
 refine xp hO rfl rfl ?_
 walk_nrm
 refine xp hO rfl rfl ?_
 walk_nrm
 refine m_op (v :=.pointer (some ⟨c.pb,0,none⟩)) hO rfl rfl (by decide) (fun w₄ h₄ =>?_) ?_
 .obtain⟨hc,hz⟩:=xy (w:=w₄) (by rw[h₄];exact hT) 1
  simp only[thrC]at hc
  exact⟨by simp[go_sem,execOp,Act.eval,hc,hz],fun ev he=>by
   simp[go_sem,execOp,Act.eval,hc,hz]at he
   subst he
   exact xl (by rw[h₄];exact(Array.getElem?_eq_some_iff.1 hT).1) (fun e=>by cases e)⟩
 walk_nrm
 refine xp hO rfl rfl ?_
 walk_nrm
 refine xp hO rfl rfl ?_
 walk_nrm
 refine m_op (v :=.pointer none) hO rfl rfl (by decide) (fun w₄ h₄ =>?_) ?_
 .obtain⟨hc,hz⟩:=yB (c:=c) (w:=w₄) (by rw[h₄];exact gy) 2
  simp only[waitsC]at hc
  exact⟨by simp[go_sem,execOp,Act.eval,hc,hz],fun ev he=>by
   simp[go_sem,execOp,Act.eval,hc,hz]at he
   subst he
   exact xl (by rw[h₄];exact(Array.getElem?_eq_some_iff.1 gy).1) (fun e=>by cases e)⟩
 walk_nrm
 refine m_op (v :=.bool true) hO rfl rfl (by decide) (fun w₄ h₄=>⟨by simp[go_sem,execOp,Act.eval],by
  simp[go_sem,execOp,Act.eval]
  rw[show Sem.events Tryz.prog (binOp BinOp.eql 98 (.pointer none) (.pointer none)) w₄ #[] = #[]from by kernel_rfl]
  simp⟩) ?_
 walk_nrm
 refine xL (v :=.bool true) hO rfl rfl ?_
 walk_nrm
 refine xe hO (fun _=>stepG_region_end) rfl ?_
 refine xe hO (fun _=>stepG_cond (t:=true) rfl) rfl ?_
 simp only[if_true]
 refine xe hO (fun _=>stepG_seq) rfl ?_
 refine xe hO (fun _=>stepG_region) rfl ?_
 simp only[List.size_toArray,List.length_cons,List.length_nil,Nat.reduceAdd,Nat.zero_add,List.range,List.range.loop]
 refine xL (v :=.agg #[.int .i64 0,.int .i64 0,.int .u8 0,.int .u64 0,.int .u64 0,.int .u64 0,.int .u64 0,.int .u64 0,.int .i64 0,.int .i64 0,.int .i64 0]) hO rfl rfl ?_
 walk_nrm
 refine xfD E (x:=N) (T:= 54) (U:= 54) (rv :=[.int .i64 0,.int .i64 0,.int .u8 0,.int .u64 0,.int .u64 0,.int .u64 0,.int .u64 0,.int .u64 0,.int .i64 0,.int .i64 0,.int .i64 0]) hO1 rfl rfl (by decide) hz rfl (by simp[Lx.One,Value.cells]) (fun w=>⟨by kernel_rfl,by kernel_rfl⟩) (fun w w' h=>by simp[execOp,Act.eval,h]) (fun w=>by simp[execOp,Act.eval]) fun w₂ hx₂ cw nr =>?_
 have d7:Keeps (fun _=>False) w w₂:=eh.trans (S':=fun b=>b=N) cw fun b hb =>.inr (by rw[hb,hN];exact dJ _)
 have hn:=hn w₂ d7
 clear cw nr d7
 walk_nrm
 refine xL (v :=.bool false) hO rfl rfl ?_
 walk_nrm
 refine xe hO (fun _=>stepG_region_end) rfl ?_
 refine xe hO (fun _=>stepG_ret') rfl ?_
 refine WJ hO (v :=.tuple #[.agg #[.int .i64 0,.int .i64 0,.int .u8 0,.int .u64 0,.int .u64 0,.int .u64 0,.int .u64 0,.int .u64 0,.int .i64 0,.int .i64 0,.int .i64 0],.bool false]) rfl rfl Tryz.func116 (fun w₁ h₁ =>?_) hn
 have hx₂:w₁.heap[N]? = some (.cells #[.int .i64 0,.int .i64 0,.int .u8 0,.int .u64 0,.int .u64 0,.int .u64 0,.int .u64 0,.int .u64 0,.int .i64 0,.int .i64 0,.int .i64 0] 54 (0,0)):=by rw[h₁];exact hx₂
 have c0:=xk (off:=0) hx₂
 have z0:=xg (off:=0) hx₂
 have c1:=xk (off:=1) hx₂
 have z1:=xg (off:=1) hx₂
 have c2:=xk (off:=2) hx₂
 have z2:=xg (off:=2) hx₂
 have c3:=xk (off:=3) hx₂
 have z3:=xg (off:=3) hx₂
 have c4:=xk (off:=4) hx₂
 have z4:=xg (off:=4) hx₂
 have c5:=xk (off:=5) hx₂
 have z5:=xg (off:=5) hx₂
 have c6:=xk (off:=6) hx₂
 have z6:=xg (off:=6) hx₂
 have c7:=xk (off:=7) hx₂
 have z7:=xg (off:=7) hx₂
 have c8:=xk (off:=8) hx₂
 have z8:=xg (off:=8) hx₂
 have c9:=xk (off:=9) hx₂
 have z9:=xg (off:=9) hx₂
 have c10:=xk (off:=10) hx₂
 have zo:=xg (off:=10) hx₂
 simp only[List.getElem?_toArray,List.getElem?_cons_zero,List.getElem?_cons_succ]at c0 c1 c2 c3 c4 c5 c6 c7 c8 c9 c10
 exact⟨by simp[results,Tryz.f116,go_sem,c0,c1,c2,c3,c4,c5,c6,c7,c8,c9,c10,z0,z1,z2,z3,z4,z5,z6,z7,z8,z9,zo],fun ev he=>by
  simp[results,Tryz.f116,go_sem,c0,c1,c2,c3,c4,c5,c6,c7,c8,c9,c10,z0,z1,z2,z3,z4,z5,z6,z7,z8,z9,zo]at he
  rcases he with rfl|rfl|rfl|rfl|rfl|rfl|rfl|rfl|rfl|rfl|rfl<;>exact xl (Array.getElem?_eq_some_iff.1 hx₂).1 (fun e=>by cases e)⟩
theorem xg2 (E:Env R) {c:WC} {nst:Int} {px:Nat} {v0 v1 v2 v3 v4 v5 v6 v7 v8 v9 pi:Value} (h1 : ∀v ∈ [v0,v1,v2,v3,v4,v5,v6,v7,v8,v9,pi],Lx.One v) (hT:w.heap[c.tb]? = some (thrO self (.pointer (some ⟨c.pb,0,none⟩)) done pend busy closed quit)) (gy:w.heap[c.pb]? = some (waitsO c nst (.pointer (some ⟨px,0,none⟩)))) (hP:w.heap[px]? = some (.cells #[v0,v1,v2,v3,v4,v5,v6,v7,v8,v9,pi] 54 (0,0))) (caller:Frame) (cs:List Frame)
  (hn : ∀w',Keeps (fun _=>False) w w'->Runs Goal R n (G (caller.finish (.tuple #[.agg #[v0,v1,v2,v3,v4,v5,v6,v7,v8,v9,pi],.bool true])) cs) w') :
  Runs Goal R n (G (Frame.enter Tryz.prog 116 #[.pointer (some ⟨c.tb,0,none⟩)] .normal) (caller::cs)) w:=by
 have hO:=E.ok
 rw[enter_at _ Tryz.func116 (by rfl)]
 simp only[Tryz.f116]
 refine xe hO (fun _=>stepG_seq) rfl ?_
 refine xe hO (fun _=>stepG_region) rfl ?_
 simp only[List.size_toArray,List.length_cons,List.length_nil,Nat.reduceAdd,Nat.zero_add,List.range,List.range.loop]
 refine kR E (v :=.pointer (some ⟨w.heap.size,0,none⟩)) (ob :=.cells #[.int .i64 0,.int .i64 0,.int .u8 0,.int .u64 0,.int .u64 0,.int .u64 0,.int .u64 0,.int .u64 0,.int .i64 0,.int .i64 0,.int .i64 0] 54) rfl rfl (by decide) (fun d=>⟨by simp[go_sem,execOp,Act.eval],by simp[go_sem,execOp,Act.eval]⟩) fun d hO1 =>?_
 have hz:((w.at d).alloc (.cells #[.int .i64 0,.int .i64 0,.int .u8 0,.int .u64 0,.int .u64 0,.int .u64 0,.int .u64 0,.int .u64 0,.int .i64 0,.int .i64 0,.int .i64 0] 54)).heap[w.heap.size]? = some (.cells [.int .i64 0,.int .i64 0,.int .u8 0,.int .u64 0,.int .u64 0,.int .u64 0,.int .u64 0,.int .u64 0,.int .i64 0,.int .i64 0,.int .i64 0].toArray 54 (0,0)):=heap_alloc_new _ _
 have eh:Keeps (fun _=>False) w ((w.at d).alloc (.cells #[.int .i64 0,.int .i64 0,.int .u8 0,.int .u64 0,.int .u64 0,.int .u64 0,.int .u64 0,.int .u64 0,.int .i64 0,.int .i64 0,.int .i64 0] 54)):=⟨rfl,rfl,rfl,by rw[World.size_alloc];exact Nat.le_succ _,fun b hb _=>alloc_old (w:=w.at d) hb⟩
 have hT0:=hT
 replace hT:=(eh.block c.tb (Array.getElem?_eq_some_iff.1 hT).1 id).trans hT
 have Fd:=gy
 replace gy:=(eh.block c.pb (Array.getElem?_eq_some_iff.1 gy).1 id).trans gy
 have hP0:=hP
 replace hP:=(eh.block px (Array.getElem?_eq_some_iff.1 hP).1 id).trans hP
 generalize(w.at d).alloc (.cells #[.int .i64 0,.int .i64 0,.int .u8 0,.int .u64 0,.int .u64 0,.int .u64 0,.int .u64 0,.int .u64 0,.int .i64 0,.int .i64 0,.int .i64 0] 54)=W at hz eh hT gy hP |-
 generalize hN:w.heap.size=N at hz hO1
 walk_nrm
 refine xL (v :=.bool false) hO rfl rfl ?_
 walk_nrm
 refine xe hO (fun _=>stepG_region_end) rfl ?_
 refine xe hO (fun _=>stepG_seq) rfl ?_
 refine xe hO (fun _=>stepG_seq) rfl ?_
 refine xe hO (fun _=>stepG_region) rfl ?_
 simp only[List.size_toArray,List.length_cons,List.length_nil,Nat.reduceAdd,Nat.zero_add,List.range,List.range.loop]
 refine xp hO rfl rfl ?_
 walk_nrm
 refine m_op (v :=.bool false) hO rfl rfl (by decide) (fun w₄ h₄=>⟨by simp[go_sem,execOp,Act.eval],by
  simp[go_sem,execOp,Act.eval]
  rw[show Sem.events Tryz.prog (binOp BinOp.eql 74 (.pointer (some ⟨c.tb,0,none⟩)) (.pointer none)) w₄ #[] = #[]from by kernel_rfl]
  simp⟩) ?_
 walk_nrm
 refine xL (v :=.bool false) hO rfl rfl ?_
 walk_nrm
 refine xp hO rfl rfl ?_
 walk_nrm
 refine xp hO rfl rfl ?_
 walk_nrm
 refine xp hO rfl rfl ?_
 walk_nrm
 refine m_op (v :=.pointer (some ⟨c.pb,0,none⟩)) hO rfl rfl (by decide) (fun w₄ h₄ =>?_) ?_
 .obtain⟨hc,hz⟩:=xy (w:=w₄) (by rw[h₄];exact hT) 1
  simp only[thrC]at hc
  exact⟨by simp[go_sem,execOp,Act.eval,hc,hz],fun ev he=>by
   simp[go_sem,execOp,Act.eval,hc,hz]at he
   subst he
   exact xl (by rw[h₄];exact(Array.getElem?_eq_some_iff.1 hT).1) (fun e=>by cases e)⟩
 walk_nrm
 refine m_op (v :=.bool false) hO rfl rfl (by decide) (fun w₄ h₄=>⟨by simp[go_sem,execOp,Act.eval],by
  simp[go_sem,execOp,Act.eval]
  rw[show Sem.events Tryz.prog (binOp BinOp.eql 114 (.pointer (some ⟨c.pb,0,none⟩)) (.pointer none)) w₄ #[] = #[]from by kernel_rfl]
  simp⟩) ?_
 walk_nrm
 refine xL (v :=.bool false) hO rfl rfl ?_
 walk_nrm
 refine xL (v :=.bool false) hO rfl rfl ?_
 walk_nrm
 refine xp hO rfl rfl ?_
 walk_nrm
 refine xp hO rfl rfl ?_
 walk_nrm
 refine xp hO rfl rfl ?_
 walk_nrm
 refine m_op (v :=.pointer (some ⟨c.pb,0,none⟩)) hO rfl rfl (by decide) (fun w₄ h₄ =>?_) ?_
 .obtain⟨hc,hz⟩:=xy (w:=w₄) (by rw[h₄];exact hT) 1
  simp only[thrC]at hc
  exact⟨by simp[go_sem,execOp,Act.eval,hc,hz],fun ev he=>by
   simp[go_sem,execOp,Act.eval,hc,hz]at he
   subst he
   exact xl (by rw[h₄];exact(Array.getElem?_eq_some_iff.1 hT).1) (fun e=>by cases e)⟩
 walk_nrm
 refine xp hO rfl rfl ?_
 walk_nrm
 refine xp hO rfl rfl ?_
 walk_nrm
 refine m_op (v :=.pointer (some ⟨px,0,none⟩)) hO rfl rfl (by decide) (fun w₄ h₄ =>?_) ?_
 .obtain⟨hc,hz⟩:=yB (c:=c) (w:=w₄) (by rw[h₄];exact gy) 2
  simp only[waitsC]at hc
  exact⟨by simp[go_sem,execOp,Act.eval,hc,hz],fun ev he=>by
   simp[go_sem,execOp,Act.eval,hc,hz]at he
   subst he
   exact xl (by rw[h₄];exact(Array.getElem?_eq_some_iff.1 gy).1) (fun e=>by cases e)⟩
 walk_nrm
 refine m_op (v :=.bool false) hO rfl rfl (by decide) (fun w₄ h₄=>⟨by simp[go_sem,execOp,Act.eval],by
  simp[go_sem,execOp,Act.eval]
  rw[show Sem.events Tryz.prog (binOp BinOp.eql 98 (.pointer (some ⟨px,0,none⟩)) (.pointer none)) w₄ #[] = #[]from by kernel_rfl]
  simp⟩) ?_
 walk_nrm
 refine xL (v :=.bool false) hO rfl rfl ?_
 walk_nrm
 refine xe hO (fun _=>stepG_region_end) rfl ?_
 refine xe hO (fun _=>stepG_cond (t:=false) rfl) rfl ?_
 simp only[Bool.false_eq_true,if_false]
 refine xe hO (fun _=>stepG_skip) rfl ?_
 refine xe hO (fun _=>stepG_seq) rfl ?_
 refine xe hO (fun _=>stepG_region) rfl ?_
 simp only[List.size_toArray,List.length_cons,List.length_nil,Nat.reduceAdd,Nat.zero_add,List.range,List.range.loop]
 refine xp hO rfl rfl ?_
 walk_nrm
 refine xp hO rfl rfl ?_
 walk_nrm
 refine xp hO rfl rfl ?_
 walk_nrm
 refine m_op (v :=.pointer (some ⟨c.pb,0,none⟩)) hO rfl rfl (by decide) (fun w₄ h₄ =>?_) ?_
 .obtain⟨hc,hz⟩:=xy (w:=w₄) (by rw[h₄];exact hT) 1
  simp only[thrC]at hc
  exact⟨by simp[go_sem,execOp,Act.eval,hc,hz],fun ev he=>by
   simp[go_sem,execOp,Act.eval,hc,hz]at he
   subst he
   exact xl (by rw[h₄];exact(Array.getElem?_eq_some_iff.1 hT).1) (fun e=>by cases e)⟩
 walk_nrm
 refine xp hO rfl rfl ?_
 walk_nrm
 refine xp hO rfl rfl ?_
 walk_nrm
 refine m_op (v :=.pointer (some ⟨px,0,none⟩)) hO rfl rfl (by decide) (fun w₄ h₄ =>?_) ?_
 .obtain⟨hc,hz⟩:=yB (c:=c) (w:=w₄) (by rw[h₄];exact gy) 2
  simp only[waitsC]at hc
  exact⟨by simp[go_sem,execOp,Act.eval,hc,hz],fun ev he=>by
   simp[go_sem,execOp,Act.eval,hc,hz]at he
   subst he
   exact xl (by rw[h₄];exact(Array.getElem?_eq_some_iff.1 gy).1) (fun e=>by cases e)⟩
 walk_nrm
 refine xp hO rfl rfl ?_
 walk_nrm
 refine m_op (v :=.agg #[v0,v1,v2,v3,v4,v5,v6,v7,v8,v9,pi]) hO rfl rfl (by decide) (fun w₄ h₄ =>?_) ?_
 .have hx₂:w₄.heap[px]? = some (.cells #[v0,v1,v2,v3,v4,v5,v6,v7,v8,v9,pi] 54 (0,0)):=by rw[h₄];exact hP
  have c0:=xk (off:=0) hx₂
  have z0:=xg (off:=0) hx₂
  have c1:=xk (off:=1) hx₂
  have z1:=xg (off:=1) hx₂
  have c2:=xk (off:=2) hx₂
  have z2:=xg (off:=2) hx₂
  have c3:=xk (off:=3) hx₂
  have z3:=xg (off:=3) hx₂
  have c4:=xk (off:=4) hx₂
  have z4:=xg (off:=4) hx₂
  have c5:=xk (off:=5) hx₂
  have z5:=xg (off:=5) hx₂
  have c6:=xk (off:=6) hx₂
  have z6:=xg (off:=6) hx₂
  have c7:=xk (off:=7) hx₂
  have z7:=xg (off:=7) hx₂
  have c8:=xk (off:=8) hx₂
  have z8:=xg (off:=8) hx₂
  have c9:=xk (off:=9) hx₂
  have z9:=xg (off:=9) hx₂
  have c10:=xk (off:=10) hx₂
  have zo:=xg (off:=10) hx₂
  simp only[List.getElem?_toArray,List.getElem?_cons_zero,List.getElem?_cons_succ]at c0 c1 c2 c3 c4 c5 c6 c7 c8 c9 c10
  exact⟨by simp[go_sem,execOp,Act.eval,c0,c1,c2,c3,c4,c5,c6,c7,c8,c9,c10,z0,z1,z2,z3,z4,z5,z6,z7,z8,z9,zo],fun ev he=>by
   simp[go_sem,execOp,Act.eval,c0,c1,c2,c3,c4,c5,c6,c7,c8,c9,c10,z0,z1,z2,z3,z4,z5,z6,z7,z8,z9,zo]at he
   rcases he with rfl|rfl|rfl|rfl|rfl|rfl|rfl|rfl|rfl|rfl|rfl<;>exact xl (Array.getElem?_eq_some_iff.1 hx₂).1 (fun e=>by cases e)⟩
 walk_nrm
 refine xfD E (x:=N) (T:= 54) (U:= 54) (rv :=[v0,v1,v2,v3,v4,v5,v6,v7,v8,v9,pi]) hO1 rfl rfl (by decide) hz rfl h1 (fun w=>⟨by kernel_rfl,by kernel_rfl⟩) (fun w w' h=>by simp[execOp,Act.eval,h]) (fun w=>by simp[execOp,Act.eval]) fun w₂ hx₂ cw nr =>?_
 have d7:Keeps (fun _=>False) w w₂:=eh.trans (S':=fun b=>b=N) cw fun b hb =>.inr (by rw[hb,hN];exact dJ _)
 have hn:=hn w₂ d7
 clear cw nr d7
 walk_nrm
 refine xL (v :=.bool true) hO rfl rfl ?_
 walk_nrm
 refine xe hO (fun _=>stepG_region_end) rfl ?_
 refine xe hO (fun _=>stepG_ret') rfl ?_
 refine WJ hO (v :=.tuple #[.agg #[v0,v1,v2,v3,v4,v5,v6,v7,v8,v9,pi],.bool true]) rfl rfl Tryz.func116 (fun w₁ h₁ =>?_) hn
 have hx₂:w₁.heap[N]? = some (.cells #[v0,v1,v2,v3,v4,v5,v6,v7,v8,v9,pi] 54 (0,0)):=by rw[h₁];exact hx₂
 have c0:=xk (off:=0) hx₂
 have z0:=xg (off:=0) hx₂
 have c1:=xk (off:=1) hx₂
 have z1:=xg (off:=1) hx₂
 have c2:=xk (off:=2) hx₂
 have z2:=xg (off:=2) hx₂
 have c3:=xk (off:=3) hx₂
 have z3:=xg (off:=3) hx₂
 have c4:=xk (off:=4) hx₂
 have z4:=xg (off:=4) hx₂
 have c5:=xk (off:=5) hx₂
 have z5:=xg (off:=5) hx₂
 have c6:=xk (off:=6) hx₂
 have z6:=xg (off:=6) hx₂
 have c7:=xk (off:=7) hx₂
 have z7:=xg (off:=7) hx₂
 have c8:=xk (off:=8) hx₂
 have z8:=xg (off:=8) hx₂
 have c9:=xk (off:=9) hx₂
 have z9:=xg (off:=9) hx₂
 have c10:=xk (off:=10) hx₂
 have zo:=xg (off:=10) hx₂
 simp only[List.getElem?_toArray,List.getElem?_cons_zero,List.getElem?_cons_succ]at c0 c1 c2 c3 c4 c5 c6 c7 c8 c9 c10
 exact⟨by simp[results,Tryz.f116,go_sem,c0,c1,c2,c3,c4,c5,c6,c7,c8,c9,c10,z0,z1,z2,z3,z4,z5,z6,z7,z8,z9,zo],fun ev he=>by
  simp[results,Tryz.f116,go_sem,c0,c1,c2,c3,c4,c5,c6,c7,c8,c9,c10,z0,z1,z2,z3,z4,z5,z6,z7,z8,z9,zo]at he
  rcases he with rfl|rfl|rfl|rfl|rfl|rfl|rfl|rfl|rfl|rfl|rfl<;>exact xl (Array.getElem?_eq_some_iff.1 hx₂).1 (fun e=>by cases e)⟩
end Go.Proofs.YtfagfflkgmcnpaaGreatDoor.Mx
namespace Go.Proofs.YtfagfflkgmcnpaaGreatDoor.Mx
open Go Go.Conc Lx Kx Tx
open Go.ConcN (sumTo upd sumTo_upd upd_ne upd_same)
variable{Goal:Machine->Trace->Prop}{R:Rg}{n:Nat}{a:Goroutine}{w w':World}{c:WC}{rv:List Value}{tf:Option (List C)}{s:WS}{F Fs:Fo}{self:Int}{port done pend:Value}{busy closed:Bool}{quit:Nat}
theorem Kc{x:Nat}{b:Bool}{w:World}(h:w.heap[x]? = some (thrO self port done pend busy closed quit)):(w.setCell ⟨x,5,none⟩ (.bool b)).heap[x]? = some (thrO self port done pend busy b quit)/\(∀y,y≠x->(w.setCell ⟨x,5,none⟩ (.bool b)).heap[y]? = w.heap[y]?)/\(w.setCell ⟨x,5,none⟩ (.bool b)).heap.size=w.heap.size:=by
 refine⟨?_,fun y hy =>?_,?_⟩
 .simp[World.setCell,Array.getElem?_modify,h,thrO,thrC]
 .show(w.heap.modify x _)[y]? = _
  rw[Array.getElem?_modify,dA fun h=>hy h.symm]
 .simp[World.setCell]
theorem xbE(E:Env R)(hT:w.heap[c.tb]? = some (thrO self port done pend busy true quit))(caller:Frame)(cs:List Frame)(hn:Runs Goal R n (G (caller.finish (.tuple #[])) cs) w) :
  Runs Goal R n (G (Frame.enter Tryz.prog 32 #[.pointer (some ⟨c.tb,0,none⟩)] .normal) (caller::cs)) w:=by
 have hO:=E.ok
 rw[enter_at _ Tryz.func32 (by rfl)]
 simp only[Tryz.f32]
 refine xe hO (fun _=>stepG_seq) rfl ?_
 refine xe hO (fun _=>stepG_seq) rfl ?_
 refine xe hO (fun _=>stepG_region) rfl ?_
 simp only[List.size_toArray,List.length_cons,List.length_nil,Nat.reduceAdd,Nat.zero_add,List.range,List.range.loop]
 refine xp hO rfl rfl ?_
 walk_nrm
 refine m_op (v :=.bool false) hO rfl rfl (by decide) (fun w₄ h₄=>⟨by simp[go_sem,execOp,Act.eval],by
  simp[go_sem,execOp,Act.eval]
  rw[show Sem.events Tryz.prog (binOp BinOp.eql 74 (.pointer (some ⟨c.tb,0,none⟩)) (.pointer none)) w₄ #[] = #[]from by kernel_rfl]
  simp⟩) ?_
 walk_nrm
 refine xL (v :=.bool false) hO rfl rfl ?_
 walk_nrm
 refine xp hO rfl rfl ?_
 walk_nrm
 refine xp hO rfl rfl ?_
 walk_nrm
 refine xp hO rfl rfl ?_
 walk_nrm
 refine m_op (v :=.bool true) hO rfl rfl (by decide) (fun w₄ h₄ =>?_) ?_
 .obtain⟨hc,hz⟩:=xy (w:=w₄) (by rw[h₄];exact hT) 5
  simp only[thrC]at hc
  exact⟨by simp[go_sem,execOp,Act.eval,hc,hz],fun ev he=>by
   simp[go_sem,execOp,Act.eval,hc,hz]at he
   subst he
   exact xl (by rw[h₄];exact(Array.getElem?_eq_some_iff.1 hT).1) (fun e=>by cases e)⟩
 walk_nrm
 refine xL (v :=.bool true) hO rfl rfl ?_
 walk_nrm
 refine xe hO (fun _=>stepG_region_end) rfl ?_
 refine xe hO (fun _=>stepG_cond (t:=true) rfl) rfl ?_
 simp only[if_true]
 refine xe hO (fun _=>stepG_ret') rfl ?_
 refine xe hO (fun w₄=>stepG_leave rfl rfl Tryz.func32 (results_none rfl _ _ _) (events_results_none rfl _ _)) rfl ?_
 exact hn
theorem xex(E:Env R)(hF:Free R c.tb)(hT:w.heap[c.tb]? = some (thrO self port done pend false false quit)){k:Nat}(hq:w.heap[quit]? = some (.chan 0 #[] false k k false))(Hl:quit≠c.tb)(hqS : ∀k,¬R.Still (.cell ⟨quit,k,none⟩))(hqI : ∀i s c,R.Inb i=some s->s.has c->c≠quit)(caller:Frame)(cs:List Frame)
  (hn : ∀w',Keeps (fun b=>b=c.tb\/b=quit) w w'->w'.heap.size=w.heap.size->w'.heap[c.tb]? = some (thrO self port done (.pointer none) false true quit)->w'.heap[quit]? = some (.chan 0 #[] true k k false)->Runs Goal R n (G (caller.finish (.tuple #[])) cs) w') :
  Runs Goal R n (G (Frame.enter Tryz.prog 32 #[.pointer (some ⟨c.tb,0,none⟩)] .normal) (caller::cs)) w:=by
 have hO:=E.ok
 have ru:Keeps (fun b=>b=c.tb) w w:=Keeps.refl _ w
 have rg:w.heap.size=w.heap.size:=rfl
 rw[enter_at _ Tryz.func32 (by rfl)]
 simp only[Tryz.f32]
 refine xe hO (fun _=>stepG_seq) rfl ?_
 refine xe hO (fun _=>stepG_seq) rfl ?_
 refine xe hO (fun _=>stepG_region) rfl ?_
 simp only[List.size_toArray,List.length_cons,List.length_nil,Nat.reduceAdd,Nat.zero_add,List.range,List.range.loop]
 refine xp hO rfl rfl ?_
 walk_nrm
 refine m_op (v :=.bool false) hO rfl rfl (by decide) (fun w₄ h₄=>⟨by simp[go_sem,execOp,Act.eval],by
  simp[go_sem,execOp,Act.eval]
  rw[show Sem.events Tryz.prog (binOp BinOp.eql 74 (.pointer (some ⟨c.tb,0,none⟩)) (.pointer none)) w₄ #[] = #[]from by kernel_rfl]
  simp⟩) ?_
 walk_nrm
 refine xL (v :=.bool false) hO rfl rfl ?_
 walk_nrm
 refine xp hO rfl rfl ?_
 walk_nrm
 refine xp hO rfl rfl ?_
 walk_nrm
 refine xp hO rfl rfl ?_
 walk_nrm
 refine m_op (v :=.bool false) hO rfl rfl (by decide) (fun w₄ h₄ =>?_) ?_
 .obtain⟨hc,hz⟩:=xy (w:=w₄) (by rw[h₄];exact hT) 5
  simp only[thrC]at hc
  exact⟨by simp[go_sem,execOp,Act.eval,hc,hz],fun ev he=>by
   simp[go_sem,execOp,Act.eval,hc,hz]at he
   subst he
   exact xl (by rw[h₄];exact(Array.getElem?_eq_some_iff.1 hT).1) (fun e=>by cases e)⟩
 walk_nrm
 refine xL (v :=.bool false) hO rfl rfl ?_
 walk_nrm
 refine xe hO (fun _=>stepG_region_end) rfl ?_
 refine xe hO (fun _=>stepG_cond (t:=false) rfl) rfl ?_
 simp only[Bool.false_eq_true,if_false]
 refine xe hO (fun _=>stepG_skip) rfl ?_
 refine xe hO (fun _=>stepG_seq) rfl ?_
 refine xe hO (fun _=>stepG_region) rfl ?_
 simp only[List.size_toArray,List.length_cons,List.length_nil,Nat.reduceAdd,Nat.zero_add,List.range,List.range.loop]
 refine xp hO rfl rfl ?_
 walk_nrm
 refine xp hO rfl rfl ?_
 walk_nrm
 refine xp hO rfl rfl ?_
 walk_nrm
 refine xp hO rfl rfl ?_
 walk_nrm
 refine wj hO rfl rfl (by decide) fun hl d hk =>?_
 obtain⟨hc,hz⟩:=xy (w:=w.at d) hT 5
 simp only[thrC]at hc
 obtain⟨p1,p2,p3⟩:=Kc (b:=true) (w:=w.at d) hT
 have hK:Keeps (fun b=>b=c.tb) (w.at d) ((w.at d).setCell ⟨c.tb,5,none⟩ (.bool true)):=⟨rfl,rfl,rfl,Nat.le_of_eq p3.symm,fun b _ hn=>p2 b hn⟩
 refine⟨(w.at d).setCell ⟨c.tb,5,none⟩ (.bool true),by simp[go_sem,execOp,Act.eval,hc,hz],hF.keeps hK hk,fun i s c' hi ah=>hF.seats (w:=w.at d) hl hK i s c' hi ah,Nat.le_of_eq p3.symm,fun ev he=>by
  simp[go_sem,execOp,Act.eval,hc,hz,storedEv,yP,yq]at he
  subst he
  exact xl (by rw[p3];exact(Array.getElem?_eq_some_iff.1 hT).1) fun _=>hF.st _,?_⟩
 replace hT:=p1
 have ib:Keeps (fun b=>b=c.tb) w ((w.at d).setCell ⟨c.tb,5,none⟩ (.bool true)):=ru.trans (S':=fun b=>b=c.tb) ⟨rfl,rfl,rfl,hK.size,hK.block⟩ fun b hb =>.inl hb
 have mt:((w.at d).setCell ⟨c.tb,5,none⟩ (.bool true)).heap.size=w.heap.size:=p3.trans rg
 clear hK p1 p2 p3 hc hz hk hl
 generalize(w.at d).setCell ⟨c.tb,5,none⟩ (.bool true)=W1 at hT ib mt |-
 walk_nrm
 refine xp hO rfl rfl ?_
 walk_nrm
 refine xp hO rfl rfl ?_
 walk_nrm
 refine wj hO rfl rfl (by decide) fun hl d hk =>?_
 obtain⟨hc,hz⟩:=xy (w:=W1.at d) hT 3
 simp only[thrC]at hc
 obtain⟨p1,p2,p3⟩:=Yc (v :=.pointer none) (w:=W1.at d) hT
 have hK:Keeps (fun b=>b=c.tb) (W1.at d) ((W1.at d).setCell ⟨c.tb,3,none⟩ (.pointer none)):=⟨rfl,rfl,rfl,Nat.le_of_eq p3.symm,fun b _ hn=>p2 b hn⟩
 refine⟨(W1.at d).setCell ⟨c.tb,3,none⟩ (.pointer none),by simp[go_sem,execOp,Act.eval,hc,hz],hF.keeps hK hk,fun i s c' hi ah=>hF.seats (w:=W1.at d) hl hK i s c' hi ah,Nat.le_of_eq p3.symm,fun ev he=>by
  simp[go_sem,execOp,Act.eval,hc,hz,storedEv,yP,yq]at he
  subst he
  exact xl (by rw[p3];exact(Array.getElem?_eq_some_iff.1 hT).1) fun _=>hF.st _,?_⟩
 replace hT:=p1
 have lh:Keeps (fun b=>b=c.tb) w ((W1.at d).setCell ⟨c.tb,3,none⟩ (.pointer none)):=ib.trans (S':=fun b=>b=c.tb) ⟨rfl,rfl,rfl,hK.size,hK.block⟩ fun b hb =>.inl hb
 have rc:((W1.at d).setCell ⟨c.tb,3,none⟩ (.pointer none)).heap.size=w.heap.size:=p3.trans mt
 clear hK p1 p2 p3 hc hz hk hl
 generalize(W1.at d).setCell ⟨c.tb,3,none⟩ (.pointer none)=W2 at hT lh rc |-
 walk_nrm
 refine xe hO (fun _=>stepG_region_end) rfl ?_
 refine xe hO (fun _=>stepG_seq) rfl ?_
 refine xe hO (fun _=>stepG_region) rfl ?_
 simp only[List.size_toArray,List.length_cons,List.length_nil,Nat.reduceAdd,Nat.zero_add,List.range,List.range.loop]
 refine xp hO rfl rfl ?_
 walk_nrm
 refine xp hO rfl rfl ?_
 walk_nrm
 refine xp hO rfl rfl ?_
 walk_nrm
 refine m_op (v :=.chan (some quit)) hO rfl rfl (by decide) (fun w₄ h₄ =>?_) ?_
 .obtain⟨hc,hz⟩:=xy (w:=w₄) (by rw[h₄];exact hT) 6
  simp only[thrC]at hc
  exact⟨by simp[go_sem,execOp,Act.eval,hc,hz],fun ev he=>by
   simp[go_sem,execOp,Act.eval,hc,hz]at he
   subst he
   exact xl (by rw[h₄];exact(Array.getElem?_eq_some_iff.1 hT).1) (fun e=>by cases e)⟩
 walk_nrm
 have tq:W2.heap[quit]? = some (.chan 0 #[] false k k false):=(lh.block quit (Array.getElem?_eq_some_iff.1 hq).1 Hl).trans hq
 refine Runs.go hO rfl fun hl d hk=>⟨_,(W2.at d).setChan quit 0 #[] true k k false,closeEvents quit,stepG_close rfl rfl (by decide) rfl rfl (w:=W2.at d) tq (by rfl),E.keep _ _ (fun x j hx=>heap_setChan_ne _ _ _ _ _ _ _ fun e=>hqS j (e▸hx)) hk,fun i s x hi hx=>heap_setChan_ne (W2.at d) _ _ _ _ _ _ (Ne.symm (hqI i s x hi hx)),Nat.le_of_eq (size_setChan _ _ _ _ _ _ _ _).symm,closeEvents_ok (by rw[size_setChan];exact(Array.getElem?_eq_some_iff.1 tq).1),?_⟩
 have hT3:((W2.at d).setChan quit 0 #[] true k k false).heap[c.tb]? = some (thrO self port done (.pointer none) false true quit):=(heap_setChan_ne (W2.at d) _ _ _ _ _ _ Hl).trans hT
 have Hm:((W2.at d).setChan quit 0 #[] true k k false).heap[quit]? = some (.chan 0 #[] true k k false):=heap_setChan_self (W2.at d) tq _ _ _ _ _ _
 have d7:Keeps (fun b=>b=c.tb\/b=quit) w ((W2.at d).setChan quit 0 #[] true k k false):=(lh.mono (S':=fun b=>b=c.tb\/b=quit) fun b hb =>.inl hb).trans (S':=fun b=>b=quit) ⟨rfl,rfl,rfl,Nat.le_of_eq (size_setChan _ _ _ _ _ _ _ _).symm,fun b _ hb=>heap_setChan_ne (W2.at d) _ _ _ _ _ _ (Ne.symm hb)⟩ fun b hb =>.inl (.inr hb)
 have Dn:((W2.at d).setChan quit 0 #[] true k k false).heap.size=w.heap.size:=(size_setChan _ _ _ _ _ _ _ _).trans rc
 have hn:=hn _ d7 Dn hT3 Hm
 clear hT d7 Dn Hm
 have hT:=hT3
 clear hT3
 generalize(W2.at d).setChan quit 0 #[] true k k false=W3 at hT hn |-
 walk_nrm
 refine xe hO (fun _=>stepG_region_end) rfl ?_
 refine xe hO (fun _=>stepG_seq) rfl ?_
 refine xe hO (fun _=>stepG_region) rfl ?_
 simp only[List.size_toArray,List.length_cons,List.length_nil,Nat.reduceAdd,Nat.zero_add,List.range,List.range.loop]
 refine xp hO rfl rfl ?_
 walk_nrm
 refine xp hO rfl rfl ?_
 walk_nrm
 refine xp hO rfl rfl ?_
 walk_nrm
 refine m_op (v :=.bool false) hO rfl rfl (by decide) (fun w₄ h₄ =>?_) ?_
 .obtain⟨hc,hz⟩:=xy (w:=w₄) (by rw[h₄];exact hT) 4
  simp only[thrC]at hc
  exact⟨by simp[go_sem,execOp,Act.eval,hc,hz],fun ev he=>by
   simp[go_sem,execOp,Act.eval,hc,hz]at he
   subst he
   exact xl (by rw[h₄];exact(Array.getElem?_eq_some_iff.1 hT).1) (fun e=>by cases e)⟩
 walk_nrm
 refine xe hO (fun _=>stepG_region_end) rfl ?_
 refine xe hO (fun _=>stepG_cond (t:=false) rfl) rfl ?_
 simp only[Bool.false_eq_true,if_false]
 refine xe hO (fun _=>stepG_skip) rfl ?_
 refine xe hO (fun _=>stepG_end) rfl ?_
 refine xe hO (fun w₄=>stepG_leave rfl rfl Tryz.func32 (results_none rfl _ _ _) (events_results_none rfl _ _)) rfl ?_
 exact hn
theorem xin{K:World->Prop}{Still:Loc->Prop}{B:Nat}{Inb:Nat->Option Seat}{g:Goroutine}{X:World->Prop}(hr:g.status = .running)(h : ∀w₂,RHt c Fs w w₂->X w₂/\ ∃es,stepG Tryz.prog true g w₂ = .comm g #[rcase c.done .nilIface] true (.recv false) w₂ es/\ ∀e∈es,EvH Still (M0t c.tb) B e):HG K Still B Inb c Fs (wV c) (fun a w=>a=g/\X w) 0 g w:=
 Goes.stop (n:=0) fun w₂ h₂=>by
  obtain⟨hX,es,hs,he⟩:=h w₂ h₂
  exact⟨hr,g,es,⟨rfl,hX⟩,he,by rw[hs];rfl⟩
theorem xio{c:WC}:commResult #[rcase c.done .nilIface] (.recv false) 0 .nilIface true = .nilIface:=by kernel_rfl
set_option maxHeartbeats 1000000 in
theorem xey(E:Env R)(hF:Free R c.tb){j:Nat}(hj:0<j)(A5:j<n)(R₀:Round c Fs R.K (upd R.Inb 0 (some (wV c))) R.Still)(hp:c.tb≠c.pb/\c.tb≠c.wb){g₃:Goroutine}(hjI:R.Inb j=some (seatW c (· = g₃)))(hMj:R.Mem j)
  (de : ∀k,¬R.Still (.cell ⟨c.done,k,none⟩)) (zg:c.done≠c.quit/\c.done≠c.tb/\c.quit≠c.tb) (bw : ∀i t x,i≠0->R.Inb i=some t->t.has x->x≠c.done) (ho:OpenC c.done 1 w) (Fb:CapIs c.quit 0 w)
  {px:Value} (hT:ThrAt c px true false w) (caller:Frame) (cs:List Frame)
  (hQ : ∀w',Keeps (fun b=>b=c.tb\/b=c.quit) w w'->w'.heap.size=w.heap.size ->∃F,(∀b,Fs b->F b)/\QOk c F (Go.Conc.served g₃ (commResult (seatCases c) .select 1 zq false)) w')
  (hn : ∀w₃,Keeps (fun b=> ¬Fs b\/b=c.pb\/b=c.done\/b=c.tb\/b=c.quit) w w₃->ThrAt c (.pointer none) false true w₃->(∃k,w₃.heap[c.done]? = some (.chan 1 #[] false k k false))->Runs Goal (R.gone j) n (G (caller.finish (.tuple #[])) cs) w₃) :
  Runs Goal R n (G (Frame.enter Tryz.prog 32 #[.pointer (some ⟨c.tb,0,none⟩)] .normal) (caller::cs)) w:=by
 have hO:=E.ok
 have ru:Keeps (fun b=>b=c.tb) w w:=Keeps.refl _ w
 have rg:w.heap.size=w.heap.size:=rfl
 unfold ThrAt at hT
 rw[enter_at _ Tryz.func32 (by rfl)]
 simp only[Tryz.f32]
 refine xe hO (fun _=>stepG_seq) rfl ?_
 refine xe hO (fun _=>stepG_seq) rfl ?_
 refine xe hO (fun _=>stepG_region) rfl ?_
 simp only[List.size_toArray,List.length_cons,List.length_nil,Nat.reduceAdd,Nat.zero_add,List.range,List.range.loop]
 refine xp hO rfl rfl ?_
 walk_nrm
 refine m_op (v :=.bool false) hO rfl rfl (by decide) (fun w₄ h₄=>⟨by simp[go_sem,execOp,Act.eval],by
  simp[go_sem,execOp,Act.eval]
  rw[show Sem.events Tryz.prog (binOp BinOp.eql 74 (.pointer (some ⟨c.tb,0,none⟩)) (.pointer none)) w₄ #[] = #[]from by kernel_rfl]
  simp⟩) ?_
 walk_nrm
 refine xL (v :=.bool false) hO rfl rfl ?_
 walk_nrm
 refine xp hO rfl rfl ?_
 walk_nrm
 refine xp hO rfl rfl ?_
 walk_nrm
 refine xp hO rfl rfl ?_
 walk_nrm
 refine m_op (v :=.bool false) hO rfl rfl (by decide) (fun w₄ h₄ =>?_) ?_
 .obtain⟨hc,hz⟩:=xy (w:=w₄) (by rw[h₄];exact hT) 5
  simp only[thrC]at hc
  exact⟨by simp[go_sem,execOp,Act.eval,hc,hz],fun ev he=>by
   simp[go_sem,execOp,Act.eval,hc,hz]at he
   subst he
   exact xl (by rw[h₄];exact(Array.getElem?_eq_some_iff.1 hT).1) (fun e=>by cases e)⟩
 walk_nrm
 refine xL (v :=.bool false) hO rfl rfl ?_
 walk_nrm
 refine xe hO (fun _=>stepG_region_end) rfl ?_
 refine xe hO (fun _=>stepG_cond (t:=false) rfl) rfl ?_
 simp only[Bool.false_eq_true,if_false]
 refine xe hO (fun _=>stepG_skip) rfl ?_
 refine xe hO (fun _=>stepG_seq) rfl ?_
 refine xe hO (fun _=>stepG_region) rfl ?_
 simp only[List.size_toArray,List.length_cons,List.length_nil,Nat.reduceAdd,Nat.zero_add,List.range,List.range.loop]
 refine xp hO rfl rfl ?_
 walk_nrm
 refine xp hO rfl rfl ?_
 walk_nrm
 refine xp hO rfl rfl ?_
 walk_nrm
 refine xp hO rfl rfl ?_
 walk_nrm
 refine wj hO rfl rfl (by decide) fun hl d hk =>?_
 obtain⟨hc,hz⟩:=xy (w:=w.at d) hT 5
 simp only[thrC]at hc
 obtain⟨p1,p2,p3⟩:=Kc (b:=true) (w:=w.at d) hT
 have hK:Keeps (fun b=>b=c.tb) (w.at d) ((w.at d).setCell ⟨c.tb,5,none⟩ (.bool true)):=⟨rfl,rfl,rfl,Nat.le_of_eq p3.symm,fun b _ hn=>p2 b hn⟩
 refine⟨(w.at d).setCell ⟨c.tb,5,none⟩ (.bool true),by simp[go_sem,execOp,Act.eval,hc,hz],hF.keeps hK hk,fun i s c' hi ah=>hF.seats (w:=w.at d) hl hK i s c' hi ah,Nat.le_of_eq p3.symm,fun ev he=>by
  simp[go_sem,execOp,Act.eval,hc,hz,storedEv,yP,yq]at he
  subst he
  exact xl (by rw[p3];exact(Array.getElem?_eq_some_iff.1 hT).1) fun _=>hF.st _,?_⟩
 replace hT:=p1
 have ib:Keeps (fun b=>b=c.tb) w ((w.at d).setCell ⟨c.tb,5,none⟩ (.bool true)):=ru.trans (S':=fun b=>b=c.tb) ⟨rfl,rfl,rfl,hK.size,hK.block⟩ fun b hb =>.inl hb
 have mt:((w.at d).setCell ⟨c.tb,5,none⟩ (.bool true)).heap.size=w.heap.size:=p3.trans rg
 clear hK p1 p2 p3 hc hz hk hl
 generalize(w.at d).setCell ⟨c.tb,5,none⟩ (.bool true)=W1 at hT ib mt |-
 walk_nrm
 refine xp hO rfl rfl ?_
 walk_nrm
 refine xp hO rfl rfl ?_
 walk_nrm
 refine wj hO rfl rfl (by decide) fun hl d hk =>?_
 obtain⟨hc,hz⟩:=xy (w:=W1.at d) hT 3
 simp only[thrC]at hc
 obtain⟨p1,p2,p3⟩:=Yc (v :=.pointer none) (w:=W1.at d) hT
 have hK:Keeps (fun b=>b=c.tb) (W1.at d) ((W1.at d).setCell ⟨c.tb,3,none⟩ (.pointer none)):=⟨rfl,rfl,rfl,Nat.le_of_eq p3.symm,fun b _ hn=>p2 b hn⟩
 refine⟨(W1.at d).setCell ⟨c.tb,3,none⟩ (.pointer none),by simp[go_sem,execOp,Act.eval,hc,hz],hF.keeps hK hk,fun i s c' hi ah=>hF.seats (w:=W1.at d) hl hK i s c' hi ah,Nat.le_of_eq p3.symm,fun ev he=>by
  simp[go_sem,execOp,Act.eval,hc,hz,storedEv,yP,yq]at he
  subst he
  exact xl (by rw[p3];exact(Array.getElem?_eq_some_iff.1 hT).1) fun _=>hF.st _,?_⟩
 replace hT:=p1
 have lh:Keeps (fun b=>b=c.tb) w ((W1.at d).setCell ⟨c.tb,3,none⟩ (.pointer none)):=ib.trans (S':=fun b=>b=c.tb) ⟨rfl,rfl,rfl,hK.size,hK.block⟩ fun b hb =>.inl hb
 have rc:((W1.at d).setCell ⟨c.tb,3,none⟩ (.pointer none)).heap.size=w.heap.size:=p3.trans mt
 clear hK p1 p2 p3 hc hz hk hl
 generalize(W1.at d).setCell ⟨c.tb,3,none⟩ (.pointer none)=W2 at hT lh rc |-
 walk_nrm
 refine xe hO (fun _=>stepG_region_end) rfl ?_
 refine xe hO (fun _=>stepG_seq) rfl ?_
 refine xe hO (fun _=>stepG_region) rfl ?_
 simp only[List.size_toArray,List.length_cons,List.length_nil,Nat.reduceAdd,Nat.zero_add,List.range,List.range.loop]
 refine xp hO rfl rfl ?_
 walk_nrm
 refine xp hO rfl rfl ?_
 walk_nrm
 refine xp hO rfl rfl ?_
 walk_nrm
 refine m_op (v :=.chan (some c.quit)) hO rfl rfl (by decide) (fun w₄ h₄ =>?_) ?_
 .obtain⟨hc,hz⟩:=xy (w:=w₄) (by rw[h₄];exact hT) 6
  simp only[thrC]at hc
  exact⟨by simp[go_sem,execOp,Act.eval,hc,hz],fun ev he=>by
   simp[go_sem,execOp,Act.eval,hc,hz]at he
   subst he
   exact xl (by rw[h₄];exact(Array.getElem?_eq_some_iff.1 hT).1) (fun e=>by cases e)⟩
 walk_nrm
 have cw:Keeps (fun b=>b=c.tb\/b=c.quit) w W2:=lh.mono fun b hb =>.inl hb
 have Cj:CapIs c.quit 0 W2:=by
  obtain⟨buf,cl,x,y,tm,e⟩:=Fb
  exact⟨buf,cl,x,y,tm,(lh.block _ (Array.getElem?_eq_some_iff.1 e).1 zg.2.2).trans e⟩
 have Ay:OpenC c.done 1 W2:=by
  obtain⟨k,e⟩:=ho
  exact⟨k,(lh.block _ (Array.getElem?_eq_some_iff.1 e).1 zg.2.1).trans e⟩
 have hT2:ThrAt c (.pointer none) true true W2:=hT
 have dy:c.tb<W2.heap.size:=(Array.getElem?_eq_some_iff.1 hT).1
 have fe : ∀ (d k:Nat),Keeps (fun b=>b=c.tb\/b=c.quit) w ((W2.at d).setChan c.quit 0 #[] true k k false)/\((W2.at d).setChan c.quit 0 #[] true k k false).heap.size=w.heap.size:=fun d k=>⟨cw.trans (S':=fun b=>b=c.quit) ⟨rfl,rfl,rfl,Nat.le_of_eq (size_setChan _ _ _ _ _ _ _ _).symm,fun b _ hb=>heap_setChan_ne (W2.at d) _ _ _ _ _ _ (Ne.symm hb)⟩ fun b hb =>.inl (.inr hb),(size_setChan _ _ _ _ _ _ _ _).trans rc⟩
 apply xg1 (Fs:=Fs) (busy:=true) (closed:=true) (w:=W2) E hj A5 R₀ hp hjI hMj de zg.1 bw Ay Cj rfl (by rfl) rfl (fun d k hq=>stepG_close rfl rfl (by decide) rfl rfl (w:=W2.at d) hq (by rfl)) hT2 ?gh ?q ?done
 case gh=>
  intro d k
  have hT:ThrAt c (.pointer none) true true ((W2.at d).setChan c.quit 0 #[] true k k false):=(heap_setChan_ne (W2.at d) _ _ _ _ _ _ zg.2.2).trans hT2
  generalize(W2.at d).setChan c.quit 0 #[] true k k false=W at hT |-
  walk_nrm
  apply yO (fun _=>stepG_region_end) rfl
  apply yO (fun _=>stepG_seq) rfl
  apply yO (fun _=>stepG_region) rfl
  simp only[List.size_toArray,List.length_cons,List.length_nil,Nat.reduceAdd,Nat.zero_add,List.range,List.range.loop]
  apply jA rfl rfl (by decide) (fun w₂ h₂=>⟨by simp[go_sem,execOp,Act.eval];rfl,by simp[go_sem,execOp,Act.eval]⟩)
  walk_nrm
  apply jA rfl rfl (by decide) (fun w₂ h₂=>⟨by simp[go_sem,execOp,Act.eval];rfl,by simp[go_sem,execOp,Act.eval]⟩)
  walk_nrm
  apply jA rfl rfl (by decide) (fun w₂ h₂=>⟨by simp[go_sem,execOp,Act.eval];rfl,by simp[go_sem,execOp,Act.eval]⟩)
  walk_nrm
  apply jA (v :=.bool true) rfl rfl (by decide) (fun w₂ h₂=>by
   obtain⟨hc,hz⟩:=xy (hT.rh R₀ hp h₂) 4
   simp only[thrC]at hc
   exact⟨by simp[go_sem,execOp,Act.eval,hc,hz],fun ev he=>by
    simp[go_sem,execOp,Act.eval,hc,hz]at he
    subst he
    exact Ka dy hF.st⟩)
  walk_nrm
  apply yO (fun _=>stepG_region_end) rfl
  apply yO (fun _=>stepG_cond (t:=true) rfl) rfl
  simp only[if_true]
  apply yO (fun _=>stepG_seq) rfl
  apply yO (fun _=>stepG_region) rfl
  simp only[List.size_toArray,List.length_cons,List.length_nil,Nat.reduceAdd,Nat.zero_add,List.range,List.range.loop]
  apply jA rfl rfl (by decide) (fun w₂ h₂=>⟨by simp[go_sem,execOp,Act.eval];rfl,by simp[go_sem,execOp,Act.eval]⟩)
  walk_nrm
  apply jA rfl rfl (by decide) (fun w₂ h₂=>⟨by simp[go_sem,execOp,Act.eval];rfl,by simp[go_sem,execOp,Act.eval]⟩)
  walk_nrm
  apply jA rfl rfl (by decide) (fun w₂ h₂=>⟨by simp[go_sem,execOp,Act.eval];rfl,by simp[go_sem,execOp,Act.eval]⟩)
  walk_nrm
  apply jA (v :=.chan (some c.done)) rfl rfl (by decide) (fun w₂ h₂=>by
   obtain⟨hc,hz⟩:=xy (hT.rh R₀ hp h₂) 2
   simp only[thrC]at hc
   exact⟨by simp[go_sem,execOp,Act.eval,hc,hz],fun ev he=>by
    simp[go_sem,execOp,Act.eval,hc,hz]at he
    subst he
    exact Ka dy hF.st⟩)
  walk_nrm
  refine xin rfl fun w₂ h₂=>⟨hT.rh R₀ hp h₂,_,stepG_comm rfl rfl (by decide) (by simp[go_sem,execOp,Act.eval,rcase]),fun e he =>?_⟩
  have:=Kx.mem_seen he
  simp[go_sem,execOp,Act.eval]at this
 case q=>
  intro d k w' hJ
  exact hQ w' ((fe d k).1.trans hJ.1 fun b hb =>.inl (.inl hb)) (hJ.2.trans (fe d k).2)
 case done=>
  intro d kq w' k ht Fy
  have hO:=(E.gone hj).ok
  have hF:Free (R.gone j) c.tb:=hF.gone
  have ft : ∃k',(w'.setChan c.done 1 #[] false (k+1) (k+1) false).heap[c.done]? = some (.chan 1 #[] false k' k' false):=by
   obtain⟨k0,e0⟩:=Ay
   have ao:c.done<w'.heap.size:=Nat.lt_of_lt_of_le (show c.done<((W2.at d).setChan c.quit 0 #[] true kq kq false).heap.size by rw[size_setChan];exact(Array.getElem?_eq_some_iff.1 e0).1) Fy.size
   exact⟨k+1,heap_setChan_self w' (Array.getElem?_eq_getElem ao) _ _ _ _ _ _⟩
  have d7:Keeps (fun b=> ¬Fs b\/b=c.pb\/b=c.done\/b=c.tb\/b=c.quit) w (w'.setChan c.done 1 #[] false (k+1) (k+1) false):=(((fe d kq).1.mono (S':=fun b=> ¬Fs b\/b=c.pb\/b=c.done\/b=c.tb\/b=c.quit) fun b hb=>by rcases hb with rfl|rfl<;>simp).trans Fy fun b hb =>.inl (by rcases hb with h|h|h|h<;>simp[h])).trans (S':=fun b=>b=c.done) (wd w') fun b hb =>.inl (by simp[hb])
  have hT:(w'.setChan c.done 1 #[] false (k+1) (k+1) false).heap[c.tb]? = some (thrO c.self (.pointer (some ⟨c.pb,0,none⟩)) (.chan (some c.done)) (.pointer none) true true c.quit):=(heap_setChan_ne w' _ _ _ _ _ _ zg.2.1).trans ht
  clear hT2 dy fe cw Cj ru ib lh rg mt rc ht Fy
  generalize w'.setChan c.done 1 #[] false (k+1) (k+1) false=w at ft d7 hT |-
  have ru:Keeps (fun b=>b=c.tb) w w:=Keeps.refl _ w
  have rg:w.heap.size=w.heap.size:=rfl
  rw[served_fr,Frame.finish_at,xio]
  walk_nrm
  refine xe hO (fun _=>stepG_region_end) rfl ?_
  refine xe hO (fun _=>stepG_region) rfl ?_
  simp only[List.size_toArray,List.length_cons,List.length_nil,Nat.reduceAdd,Nat.zero_add,List.range,List.range.loop]
  refine xp hO rfl rfl ?_
  walk_nrm
  refine xp hO rfl rfl ?_
  walk_nrm
  refine xp hO rfl rfl ?_
  walk_nrm
  refine wj hO rfl rfl (by decide) fun hl d hk =>?_
  obtain⟨hc,hz⟩:=xy (w:=w.at d) hT 4
  simp only[thrC]at hc
  obtain⟨p1,p2,p3⟩:=VZ (b:=false) (w:=w.at d) hT
  have hK:Keeps (fun b=>b=c.tb) (w.at d) ((w.at d).setCell ⟨c.tb,4,none⟩ (.bool false)):=⟨rfl,rfl,rfl,Nat.le_of_eq p3.symm,fun b _ hn=>p2 b hn⟩
  refine⟨(w.at d).setCell ⟨c.tb,4,none⟩ (.bool false),by simp[go_sem,execOp,Act.eval,hc,hz],hF.keeps hK hk,fun i s c' hi ah=>hF.seats (w:=w.at d) hl hK i s c' hi ah,Nat.le_of_eq p3.symm,fun ev he=>by
   simp[go_sem,execOp,Act.eval,hc,hz,storedEv,yP,yq]at he
   subst he
   exact xl (by rw[p3];exact(Array.getElem?_eq_some_iff.1 hT).1) fun _=>hF.st _,?_⟩
  replace hT:=p1
  have ib:Keeps (fun b=>b=c.tb) w ((w.at d).setCell ⟨c.tb,4,none⟩ (.bool false)):=ru.trans (S':=fun b=>b=c.tb) ⟨rfl,rfl,rfl,hK.size,hK.block⟩ fun b hb =>.inl hb
  have mt:((w.at d).setCell ⟨c.tb,4,none⟩ (.bool false)).heap.size=w.heap.size:=p3.trans rg
  clear hK p1 p2 p3 hc hz hk hl
  generalize(w.at d).setCell ⟨c.tb,4,none⟩ (.bool false)=W1 at hT ib mt |-
  walk_nrm
  refine xe hO (fun _=>stepG_region_end) rfl ?_
  refine xe hO (fun _=>stepG_end) rfl ?_
  refine xe hO (fun w₄=>stepG_leave rfl rfl Tryz.func32 (results_none rfl _ _ _) (events_results_none rfl _ _)) rfl ?_
  exact hn _ (d7.trans ib fun b hb =>.inl (by simp[hb])) hT (by
   obtain⟨k',e⟩:=ft
   exact⟨k',(ib.block _ (Array.getElem?_eq_some_iff.1 e).1 zg.2.1).trans e⟩)
end Go.Proofs.YtfagfflkgmcnpaaGreatDoor.Mx
namespace Go.Proofs.YtfagfflkgmcnpaaGreatDoor.Mx
open Go Go.Conc Lx Kx Tx
def RAny(Goal:Machine->Trace->Prop)(n:Nat)(b:Frame)(k:List Item)(cs:List Frame)(ops:Array Oper)(md:Region.Mode):Nat->Array Bool->Rg->Act->World->Prop
 | 0,listed,R,a,w=>Region.ready md ops listed = []/\Runs Goal R n (G (b.at a (.inRegion ops []::k)) cs) w
 | m+1,listed,R,a,w=>(Region.ready md ops listed = []->Runs Goal R n (G (b.at a (.inRegion ops []::k)) cs) w)/\
   ∀i∈Region.ready md ops listed,∀rest,(Region.ready md ops (listed.setIfInBounds i true) = []->rest = [])->(∀R' a' w',RAny Goal n b k cs ops md m (listed.setIfInBounds i true) R' a' w'->Runs Goal R' n (G (b.at a' (.inRegion ops rest::k)) cs) w')->Runs Goal R n (G (b.at a (.inRegion ops (i::rest)::k)) cs) w
variable{Goal:Machine->Trace->Prop}{n:Nat}{b:Frame}{k:List Item}{cs:List Frame}{ops:Array Oper}{md:Region.Mode}{R:Rg}{a:Act}{w:World}
theorem lin_nil{fuel t:Nat}{listed:Array Bool}(h:Region.ready md ops listed = []):Region.linearise.go md ops fuel t listed [] = []:=by
 cases fuel with
 | zero=>simp[Region.linearise.go]
 | succ fuel=>
  simp only[Region.linearise.go]
  change (match(Region.ready md ops listed)[t%(Region.ready md ops listed).length]? with
   | some i=>Region.linearise.go md ops fuel (t / (Region.ready md ops listed).length) (listed.setIfInBounds i true) [i]
   | none =>[].reverse) = []
  rw[h]
  rfl
theorem xez : ∀ (fuel t:Nat) (listed:Array Bool) (R:Rg) (a:Act) (w:World),RAny Goal n b k cs ops md fuel listed R a w->Runs Goal R n (G (b.at a (.inRegion ops (Region.linearise.go md ops fuel t listed [])::k)) cs) w:=by
 intro fuel
 induction fuel with
 | zero=>intro t listed R a w h;simpa[Region.linearise.go]using h.2
 | succ fuel ih=>
  intro t listed R a w h
  obtain⟨h₀,h₁⟩:=h
  simp only[Region.linearise.go]
  change Runs Goal R n (G (b.at a (.inRegion ops (match(Region.ready md ops listed)[t%(Region.ready md ops listed).length]? with
   | some i=>Region.linearise.go md ops fuel (t / (Region.ready md ops listed).length) (listed.setIfInBounds i true) [i]
   | none =>[].reverse)::k)) cs) w
  cases hi:(Region.ready md ops listed)[t%(Region.ready md ops listed).length]? with
  | none=>
   have w7:Region.ready md ops listed = []:=by
    cases hr:Region.ready md ops listed with
    | nil=>rfl
    | cons x xs=>
     rw[hr]at hi
     have ao:t%(x::xs).length<(x::xs).length:=Nat.mod_lt _ (by simp)
     simp at hi
     simp at ao
     omega
   simpa using h₀ w7
  | some i=>
   simp only[]
   rw[linearise_go_acc,List.reverse_singleton,List.singleton_append]
   exact h₁ i (List.mem_of_getElem? hi) _ (fun he=>lin_nil he) fun R' a' w' x=>ih _ _ R' a' w' x
theorem xc4(hO:R.Ok)(hm : Tryz.prog.follows .mixedOrders=true){id:Nat}(h:RAny Goal n b k cs ops .any ops.size (Array.replicate ops.size false) R a w):Runs Goal R n (G (b.at a (.code (.region id ops true)::k)) cs) w:=
 Runs.go hO rfl fun _ d hk=>⟨_,_,_,stepG_region_draw,hO.at_ (w.at d) (d+1) hk,fun _ _ _ _ _=>rfl,dJ _,by simp,by
  show Runs Goal R n _ (w.at (d+1))
  refine Runs.at_ ?_
  simp only[Region.schedule,hm,Bool.true_or,if_true]
  exact xez ops.size _ _ R a w h⟩
theorem xbF{S:Type}(L:S->Array Bool)(μ:S->Nat)(Inv:S->Rg->Act->World->Prop)(h0 : ∀s,μ s=0->Region.ready md ops (L s) = [])
  (lk : ∀s R a w,Inv s R a w->Region.ready md ops (L s) = []->Runs Goal R n (G (b.at a (.inRegion ops []::k)) cs) w)
  (bo : ∀s R a w,Inv s R a w ->∀i∈Region.ready md ops (L s),∃s',L s'=(L s).setIfInBounds i true/\μ s'+1=μ s/\ ∀rest,(Region.ready md ops (L s') = []->rest = [])->(∀R' a' w',Inv s' R' a' w'->Runs Goal R' n (G (b.at a' (.inRegion ops rest::k)) cs) w')->Runs Goal R n (G (b.at a (.inRegion ops (i::rest)::k)) cs) w) :
  ∀ (m:Nat) (s:S) (R:Rg) (a:Act) (w:World),μ s=m->Inv s R a w->RAny Goal n b k cs ops md m (L s) R a w
 | 0,s,R,a,w,hm,hI=>⟨h0 s hm,lk s R a w hI (h0 s hm)⟩
 | m+1,s,R,a,w,hm,hI=>⟨lk s R a w hI,fun i hi rest hr hc=>by
   obtain⟨s',e1,e2,h⟩:=bo s R a w hI i hi
   exact h rest (fun h=>hr (e1▸h)) fun R' a' w' hI'=>hc R' a' w' (e1▸xbF L μ Inv h0 lk bo m s' R' a' w' (by omega) hI')⟩
def TV(a:Act)(i:Nat)(v:Value):Prop:=a.tmps[i]? = some v
theorem TV.eval{i:Nat}{v:Value}(h:TV a i v):a.eval (.tmp i)=v:=by simp[TV]at h;simp[Act.eval,h]
theorem TV.put_ne{i j:Nat}{v u:Value}(h:TV a i v)(ae:j≠i):TV (a.put (some j) u) i v:=by
 unfold TV at h |-
 simp only[Act.put]
 rw[Array.getElem?_setIfInBounds_ne ae]
 exact h
theorem TV.put_same{i:Nat}{u:Value}(h:i<a.tmps.size):TV (a.put (some i) u) i u:=by
 unfold TV
 simp only[Act.put]
 rw[Array.getElem?_setIfInBounds_self_of_lt h]
theorem put_size{i:Option Nat}{u:Value}:(a.put i u).tmps.size=a.tmps.size:=by
 cases i<;>simp[Act.put]
end Go.Proofs.YtfagfflkgmcnpaaGreatDoor.Mx
namespace Go.Proofs.YtfagfflkgmcnpaaGreatDoor.Mx
open Go Go.Conc Lx Kx Tx
variable{Goal:Machine->Trace->Prop}{R:Rg}{n:Nat}{a:Act}{w:World}{c:WC}{cl:Value}{pend:Value}{busy closed:Bool}{b:Frame}{k:List Item}{cs:List Frame}
noncomputable def st6:Array Oper:=match Tryz.f46.body with
 | some (.seq _ (.seq _ (.seq _ (.seq _ (.seq _ (.seq (.region _ ops _) _))))))=>ops
 | _=> #[]
theorem st6_o0 : ∃o,st6[0]? = some o/\o.dst=some 45/\o.guard=none/\o.op = .move (.tmp 1):=⟨_,rfl,rfl,rfl,rfl⟩
theorem st6_o1 : ∃o,st6[1]? = some o/\o.dst=some 46/\o.guard=none/\o.op = .move (.tmp 0):=⟨_,rfl,rfl,rfl,rfl⟩
theorem st6_o2 : ∃o,st6[2]? = some o/\o.dst=some 47/\o.guard=none/\o.op = .nilCheck (.tmp 46):=⟨_,rfl,rfl,rfl,rfl⟩
theorem st6_o3 : ∃o,st6[3]? = some o/\o.dst=some 48/\o.guard=none/\o.op = .fieldAddr 118 (.tmp 47) 1:=⟨_,rfl,rfl,rfl,rfl⟩
theorem st6_o4 : ∃o,st6[4]? = some o/\o.dst=some 49/\o.guard=none/\o.op = .load 114 (.tmp 48):=⟨_,rfl,rfl,rfl,rfl⟩
theorem st6_o5 : ∃o,st6[5]? = some o/\o.dst=some 50/\o.guard=none/\o.op = .move (.tmp 0):=⟨_,rfl,rfl,rfl,rfl⟩
theorem st6_o6 : ∃o,st6[6]? = some o/\o.dst=some 51/\o.guard=none/\o.op = .nilCheck (.tmp 50):=⟨_,rfl,rfl,rfl,rfl⟩
theorem st6_o7 : ∃o,st6[7]? = some o/\o.dst=some 52/\o.guard=none/\o.op = .fieldAddr 118 (.tmp 51) 2:=⟨_,rfl,rfl,rfl,rfl⟩
theorem st6_o8 : ∃o,st6[8]? = some o/\o.dst=some 53/\o.guard=none/\o.op = .load 115 (.tmp 52):=⟨_,rfl,rfl,rfl,rfl⟩
structure S6 where
 a:Bool
 b:Fin 5
 c:Fin 5
 g:Bool
def S6.L(s:S6):Array Bool:= #[s.a,decide (1<=s.b.val),decide (2<=s.b.val),decide (3<=s.b.val),decide (4<=s.b.val),decide (1<=s.c.val),decide (2<=s.c.val),decide (3<=s.c.val),decide (4<=s.c.val),s.g]
def S6.μ(s:S6):Nat:=(bif s.a then 0 else 1)+(4-s.b.val)+(4-s.c.val)+(bif s.g then 0 else 1)
def S6.rdy(s:S6):List Nat:=(bif s.a then []else [0])++(if s.b.val<4 then [s.b.val+1]else [])++(if s.c.val<4 then [s.c.val+5]else [])++(bif s.a&&decide (s.b.val=4)&&decide (s.c.val=4) && !s.g then [9]else [])
def fins5:List (Fin 5) :=[0,1,2,3,4]
theorem wF(x:Fin 5):x∈fins5:=by revert x;decide
noncomputable def xip:Bool :=[true,false].all fun a=>fins5.all fun b=>fins5.all fun c =>[true,false].all fun g=>decide (Region.ready .any st6 (S6.L ⟨a,b,c,g⟩)=S6.rdy ⟨a,b,c,g⟩)
theorem st6_chk:xip=true:=by kernel_rfl
theorem ZH(s:S6):Region.ready .any st6 s.L=s.rdy:=by
 have h:=st6_chk
 unfold xip at h
 obtain⟨a,b,c,g⟩:=s
 have h1:=List.all_eq_true.1 h a (by cases a<;>simp)
 have h2:=List.all_eq_true.1 h1 b (wF b)
 have h3:=List.all_eq_true.1 h2 c (wF c)
 have h4:=List.all_eq_true.1 h3 g (by cases g<;>simp)
 exact dG h4
structure I6(c:WC)(cl:Value)(R0:Rg)(w0:World)(a0:Act)(s:S6)(R:Rg)(a:Act)(w:World):Prop where
 hR:R=R0
 hw : ∃d,w=w0.at d
 hg:s.g=false
 sz:a.tmps.size=56
 df:a.defers = []
 old : ∀i,i<45->a.tmps[i]? = a0.tmps[i]?
 t0:TV a 0 (.pointer (some ⟨c.tb,0,none⟩))
 t1:TV a 1 cl
 mi:s.a=true->TV a 45 cl
 td:1<=s.b.val->TV a 46 (.pointer (some ⟨c.tb,0,none⟩))
 tc:2<=s.b.val->TV a 47 (.pointer (some ⟨c.tb,0,none⟩))
 s9:3<=s.b.val->TV a 48 (.pointer (some ⟨c.tb,1,none⟩))
 mh:4<=s.b.val->TV a 49 (.pointer (some ⟨c.pb,0,none⟩))
 s8:1<=s.c.val->TV a 50 (.pointer (some ⟨c.tb,0,none⟩))
 s7:2<=s.c.val->TV a 51 (.pointer (some ⟨c.tb,0,none⟩))
 s6:3<=s.c.val->TV a 52 (.pointer (some ⟨c.tb,2,none⟩))
 mf:4<=s.c.val->TV a 53 (.chan (some c.done))
set_option maxHeartbeats 2000000 in
theorem xiq(hO:R.Ok)(hm : Tryz.prog.follows .mixedOrders=true)(hk:b.kind ≠ .early)(hT:ThrAt c pend busy closed w)(ai:a.tmps.size=56)(bf:a.defers = [])(h0:TV a 0 (.pointer (some ⟨c.tb,0,none⟩)))(h1:TV a 1 cl){id:Nat}
  (fu : ∀a',a'.tmps.size=56->a'.defers = []->(∀i,i<45->a'.tmps[i]? = a.tmps[i]?)->TV a' 45 cl->TV a' 49 (.pointer (some ⟨c.pb,0,none⟩))->TV a' 53 (.chan (some c.done))->Runs Goal R n (G (b.at a' (.inRegion st6 [9]::k)) cs) w) :
  Runs Goal R n (G (b.at a (.code (.region id st6 true)::k)) cs) w:=by
 have hs:st6.size=10:=by kernel_rfl
 refine xc4 hO hm ?_
 rw[hs]
 refine xbF (Goal:=Goal) (n:=n) (b:=b) (k:=k) (cs:=cs) (ops:=st6) (md :=.any) S6.L S6.μ (I6 c cl R w a) (fun s h =>?_) (fun s R' a' w' hI he =>?_) (fun s R' a' w' hI i hi =>?_) 10 ⟨false,0,0,false⟩ R a w rfl ⟨rfl,⟨w.drawn,rfl⟩,rfl,ai,bf,fun _ _=>rfl,h0,h1,fun h=>by simp at h,fun h=>by simp at h,fun h=>by simp at h,fun h=>by simp at h,fun h=>by simp at h,fun h=>by simp at h,fun h=>by simp at h,fun h=>by simp at h,fun h=>by simp at h⟩
 .rw[ZH]
  obtain⟨x,y,z,g⟩:=s
  revert h
  revert x y z g
  decide
 .rw[ZH]at he
  have hg:=hI.hg
  obtain⟨x,y,z,g⟩:=s
  simp only at hg
  subst hg
  have key : ∀ (x:Bool) (y z:Fin 5),S6.rdy ⟨x,y,z,false⟩ ≠ []:=by decide
  exact absurd he (key x y z)
 .rw[ZH]at hi
  obtain⟨rfl,⟨d,rfl⟩,hg,ax,ie,old,t0,t1,mi,td,tc,s9,mh,s8,s7,s6,mf⟩:=hI
  obtain⟨x,y,z,g⟩:=s
  simp only at hg
  subst hg
  have hT':ThrAt c pend busy closed (w.at d):=hT
  clear hT
  simp only[S6.rdy,List.mem_append]at hi
  rcases hi with((hi|hi)|hi)|hi
  .cases x with
   | true=>simp at hi
   | false=>
    simp only[cond_false,List.mem_singleton]at hi
    subst hi
    obtain⟨o,ho,hd,bj,ab⟩:=st6_o0
    refine⟨⟨true,y,z,false⟩,by rfl,by first|(simp[S6.μ];omega)|(simp[S6.μ];done),fun rest _ hc =>?_⟩
    refine m_op (v:=cl) hO ho (by simp[Region.wanted,bj]) hk (fun w₄ h₄=>⟨by simp[go_sem,execOp,ab,show a'.tmps[1]? = some _ from t1],by simp[go_sem,execOp,ab,show a'.tmps[1]? = some _ from t1]⟩) ?_
    rw[hd]
    exact hc _ _ _ ⟨rfl,⟨d,rfl⟩,rfl,by rw[put_size];exact ax,ie,fun j hj=>by rw[<- old j hj];simp only[Act.put];rw[Array.getElem?_setIfInBounds_ne (by omega)],t0.put_ne (by decide),t1.put_ne (by decide),fun _=>TV.put_same (by omega),fun h=>(td h).put_ne (by decide),fun h=>(tc h).put_ne (by decide),fun h=>(s9 h).put_ne (by decide),fun h=>(mh h).put_ne (by decide),fun h=>(s8 h).put_ne (by decide),fun h=>(s7 h).put_ne (by decide),fun h=>(s6 h).put_ne (by decide),fun h=>(mf h).put_ne (by decide)⟩
  .match y,hi with
   | 0,hi=>
    change i∈(if(0:Fin 5).val<4 then [(0:Fin 5).val+1]else [])at hi
    rw[dB (by decide)]at hi
    obtain rfl:i=1:=List.mem_singleton.1 hi
    obtain⟨o,ho,hd,bj,ab⟩:=st6_o1
    refine⟨⟨x,1,z,false⟩,by rfl,by first|(simp[S6.μ];omega)|(simp[S6.μ];done),fun rest _ hc =>?_⟩
    refine m_op (v :=.pointer (some ⟨c.tb,0,none⟩)) hO ho (by simp[Region.wanted,bj]) hk (fun w₄ h₄=>⟨by simp[go_sem,execOp,ab,show a'.tmps[0]? = some _ from t0],by simp[go_sem,execOp,ab,show a'.tmps[0]? = some _ from t0]⟩) ?_
    rw[hd]
    exact hc _ _ _ ⟨rfl,⟨d,rfl⟩,rfl,by rw[put_size];exact ax,ie,fun j hj=>by rw[<- old j hj];simp only[Act.put];rw[Array.getElem?_setIfInBounds_ne (by omega)],t0.put_ne (by decide),t1.put_ne (by decide),fun h=>(mi h).put_ne (by decide),fun _=>TV.put_same (by omega),fun h=>(tc (absurd (show 2<=(1:Fin 5).val from h) (by decide))).put_ne (by decide),fun h=>(s9 (absurd (show 3<=(1:Fin 5).val from h) (by decide))).put_ne (by decide),fun h=>(mh (absurd (show 4<=(1:Fin 5).val from h) (by decide))).put_ne (by decide),fun h=>(s8 h).put_ne (by decide),fun h=>(s7 h).put_ne (by decide),fun h=>(s6 h).put_ne (by decide),fun h=>(mf h).put_ne (by decide)⟩
   | 1,hi=>
    change i∈(if(1:Fin 5).val<4 then [(1:Fin 5).val+1]else [])at hi
    rw[dB (by decide)]at hi
    obtain rfl:i=2:=List.mem_singleton.1 hi
    obtain⟨o,ho,hd,bj,ab⟩:=st6_o2
    refine⟨⟨x,2,z,false⟩,by rfl,by first|(simp[S6.μ];omega)|(simp[S6.μ];done),fun rest _ hc =>?_⟩
    refine m_op (v :=.pointer (some ⟨c.tb,0,none⟩)) hO ho (by simp[Region.wanted,bj]) hk (fun w₄ h₄=>⟨by simp[go_sem,execOp,ab,show a'.tmps[46]? = some _ from td (show 1<=(1:Fin 5).val by decide)],by simp[go_sem,execOp,ab,show a'.tmps[46]? = some _ from td (show 1<=(1:Fin 5).val by decide)]⟩) ?_
    rw[hd]
    exact hc _ _ _ ⟨rfl,⟨d,rfl⟩,rfl,by rw[put_size];exact ax,ie,fun j hj=>by rw[<- old j hj];simp only[Act.put];rw[Array.getElem?_setIfInBounds_ne (by omega)],t0.put_ne (by decide),t1.put_ne (by decide),fun h=>(mi h).put_ne (by decide),fun h=>(td (show 1<=(1:Fin 5).val by decide)).put_ne (by decide),fun _=>TV.put_same (by omega),fun h=>(s9 (absurd (show 3<=(2:Fin 5).val from h) (by decide))).put_ne (by decide),fun h=>(mh (absurd (show 4<=(2:Fin 5).val from h) (by decide))).put_ne (by decide),fun h=>(s8 h).put_ne (by decide),fun h=>(s7 h).put_ne (by decide),fun h=>(s6 h).put_ne (by decide),fun h=>(mf h).put_ne (by decide)⟩
   | 2,hi=>
    change i∈(if(2:Fin 5).val<4 then [(2:Fin 5).val+1]else [])at hi
    rw[dB (by decide)]at hi
    obtain rfl:i=3:=List.mem_singleton.1 hi
    obtain⟨o,ho,hd,bj,ab⟩:=st6_o3
    refine⟨⟨x,3,z,false⟩,by rfl,by first|(simp[S6.μ];omega)|(simp[S6.μ];done),fun rest _ hc =>?_⟩
    refine m_op (v :=.pointer (some ⟨c.tb,1,none⟩)) hO ho (by simp[Region.wanted,bj]) hk (fun w₄ h₄=>⟨by simp[go_sem,execOp,ab,show a'.tmps[47]? = some _ from tc (show 2<=(2:Fin 5).val by decide)],by simp[go_sem,execOp,ab,show a'.tmps[47]? = some _ from tc (show 2<=(2:Fin 5).val by decide)]⟩) ?_
    rw[hd]
    exact hc _ _ _ ⟨rfl,⟨d,rfl⟩,rfl,by rw[put_size];exact ax,ie,fun j hj=>by rw[<- old j hj];simp only[Act.put];rw[Array.getElem?_setIfInBounds_ne (by omega)],t0.put_ne (by decide),t1.put_ne (by decide),fun h=>(mi h).put_ne (by decide),fun h=>(td (show 1<=(2:Fin 5).val by decide)).put_ne (by decide),fun h=>(tc (show 2<=(2:Fin 5).val by decide)).put_ne (by decide),fun _=>TV.put_same (by omega),fun h=>(mh (absurd (show 4<=(3:Fin 5).val from h) (by decide))).put_ne (by decide),fun h=>(s8 h).put_ne (by decide),fun h=>(s7 h).put_ne (by decide),fun h=>(s6 h).put_ne (by decide),fun h=>(mf h).put_ne (by decide)⟩
   | 3,hi=>
    change i∈(if(3:Fin 5).val<4 then [(3:Fin 5).val+1]else [])at hi
    rw[dB (by decide)]at hi
    obtain rfl:i=4:=List.mem_singleton.1 hi
    obtain⟨o,ho,hd,bj,ab⟩:=st6_o4
    refine⟨⟨x,4,z,false⟩,by rfl,by first|(simp[S6.μ];omega)|(simp[S6.μ];done),fun rest _ hc =>?_⟩
    refine m_op (v :=.pointer (some ⟨c.pb,0,none⟩)) hO ho (by simp[Region.wanted,bj]) hk (fun w₄ h₄ =>?_) ?_
    .obtain⟨hc₂,hz⟩:=xy (w:=w₄) (by rw[h₄];exact hT') 1
     simp only[thrC]at hc₂
     exact⟨by simp[go_sem,execOp,ab,show a'.tmps[48]? = some _ from s9 (show 3<=(3:Fin 5).val by decide),hc₂,hz],fun ev he=>by
      simp[go_sem,execOp,ab,show a'.tmps[48]? = some _ from s9 (show 3<=(3:Fin 5).val by decide),hc₂,hz]at he
      subst he
      exact xl (by rw[h₄];exact(Array.getElem?_eq_some_iff.1 hT').1) (fun e=>by cases e)⟩
    rw[hd]
    exact hc _ _ _ ⟨rfl,⟨d,rfl⟩,rfl,by rw[put_size];exact ax,ie,fun j hj=>by rw[<- old j hj];simp only[Act.put];rw[Array.getElem?_setIfInBounds_ne (by omega)],t0.put_ne (by decide),t1.put_ne (by decide),fun h=>(mi h).put_ne (by decide),fun h=>(td (show 1<=(3:Fin 5).val by decide)).put_ne (by decide),fun h=>(tc (show 2<=(3:Fin 5).val by decide)).put_ne (by decide),fun h=>(s9 (show 3<=(3:Fin 5).val by decide)).put_ne (by decide),fun _=>TV.put_same (by omega),fun h=>(s8 h).put_ne (by decide),fun h=>(s7 h).put_ne (by decide),fun h=>(s6 h).put_ne (by decide),fun h=>(mf h).put_ne (by decide)⟩
   | 4,hi=>
    change i∈(if(4:Fin 5).val<4 then [(4:Fin 5).val+1]else [])at hi
    rw[dA (by decide)]at hi
    cases hi
  .match z,hi with
   | 0,hi=>
    change i∈(if(0:Fin 5).val<4 then [(0:Fin 5).val+5]else [])at hi
    rw[dB (by decide)]at hi
    obtain rfl:i=5:=List.mem_singleton.1 hi
    obtain⟨o,ho,hd,bj,ab⟩:=st6_o5
    refine⟨⟨x,y,1,false⟩,by rfl,by first|(simp[S6.μ];omega)|(simp[S6.μ];done),fun rest _ hc =>?_⟩
    refine m_op (v :=.pointer (some ⟨c.tb,0,none⟩)) hO ho (by simp[Region.wanted,bj]) hk (fun w₄ h₄=>⟨by simp[go_sem,execOp,ab,show a'.tmps[0]? = some _ from t0],by simp[go_sem,execOp,ab,show a'.tmps[0]? = some _ from t0]⟩) ?_
    rw[hd]
    exact hc _ _ _ ⟨rfl,⟨d,rfl⟩,rfl,by rw[put_size];exact ax,ie,fun j hj=>by rw[<- old j hj];simp only[Act.put];rw[Array.getElem?_setIfInBounds_ne (by omega)],t0.put_ne (by decide),t1.put_ne (by decide),fun h=>(mi h).put_ne (by decide),fun h=>(td h).put_ne (by decide),fun h=>(tc h).put_ne (by decide),fun h=>(s9 h).put_ne (by decide),fun h=>(mh h).put_ne (by decide),fun _=>TV.put_same (by omega),fun h=>(s7 (absurd (show 2<=(1:Fin 5).val from h) (by decide))).put_ne (by decide),fun h=>(s6 (absurd (show 3<=(1:Fin 5).val from h) (by decide))).put_ne (by decide),fun h=>(mf (absurd (show 4<=(1:Fin 5).val from h) (by decide))).put_ne (by decide)⟩
   | 1,hi=>
    change i∈(if(1:Fin 5).val<4 then [(1:Fin 5).val+5]else [])at hi
    rw[dB (by decide)]at hi
    obtain rfl:i=6:=List.mem_singleton.1 hi
    obtain⟨o,ho,hd,bj,ab⟩:=st6_o6
    refine⟨⟨x,y,2,false⟩,by rfl,by first|(simp[S6.μ];omega)|(simp[S6.μ];done),fun rest _ hc =>?_⟩
    refine m_op (v :=.pointer (some ⟨c.tb,0,none⟩)) hO ho (by simp[Region.wanted,bj]) hk (fun w₄ h₄=>⟨by simp[go_sem,execOp,ab,show a'.tmps[50]? = some _ from s8 (show 1<=(1:Fin 5).val by decide)],by simp[go_sem,execOp,ab,show a'.tmps[50]? = some _ from s8 (show 1<=(1:Fin 5).val by decide)]⟩) ?_
    rw[hd]
    exact hc _ _ _ ⟨rfl,⟨d,rfl⟩,rfl,by rw[put_size];exact ax,ie,fun j hj=>by rw[<- old j hj];simp only[Act.put];rw[Array.getElem?_setIfInBounds_ne (by omega)],t0.put_ne (by decide),t1.put_ne (by decide),fun h=>(mi h).put_ne (by decide),fun h=>(td h).put_ne (by decide),fun h=>(tc h).put_ne (by decide),fun h=>(s9 h).put_ne (by decide),fun h=>(mh h).put_ne (by decide),fun h=>(s8 (show 1<=(1:Fin 5).val by decide)).put_ne (by decide),fun _=>TV.put_same (by omega),fun h=>(s6 (absurd (show 3<=(2:Fin 5).val from h) (by decide))).put_ne (by decide),fun h=>(mf (absurd (show 4<=(2:Fin 5).val from h) (by decide))).put_ne (by decide)⟩
   | 2,hi=>
    change i∈(if(2:Fin 5).val<4 then [(2:Fin 5).val+5]else [])at hi
    rw[dB (by decide)]at hi
    obtain rfl:i=7:=List.mem_singleton.1 hi
    obtain⟨o,ho,hd,bj,ab⟩:=st6_o7
    refine⟨⟨x,y,3,false⟩,by rfl,by first|(simp[S6.μ];omega)|(simp[S6.μ];done),fun rest _ hc =>?_⟩
    refine m_op (v :=.pointer (some ⟨c.tb,2,none⟩)) hO ho (by simp[Region.wanted,bj]) hk (fun w₄ h₄=>⟨by simp[go_sem,execOp,ab,show a'.tmps[51]? = some _ from s7 (show 2<=(2:Fin 5).val by decide)],by simp[go_sem,execOp,ab,show a'.tmps[51]? = some _ from s7 (show 2<=(2:Fin 5).val by decide)]⟩) ?_
    rw[hd]
    exact hc _ _ _ ⟨rfl,⟨d,rfl⟩,rfl,by rw[put_size];exact ax,ie,fun j hj=>by rw[<- old j hj];simp only[Act.put];rw[Array.getElem?_setIfInBounds_ne (by omega)],t0.put_ne (by decide),t1.put_ne (by decide),fun h=>(mi h).put_ne (by decide),fun h=>(td h).put_ne (by decide),fun h=>(tc h).put_ne (by decide),fun h=>(s9 h).put_ne (by decide),fun h=>(mh h).put_ne (by decide),fun h=>(s8 (show 1<=(2:Fin 5).val by decide)).put_ne (by decide),fun h=>(s7 (show 2<=(2:Fin 5).val by decide)).put_ne (by decide),fun _=>TV.put_same (by omega),fun h=>(mf (absurd (show 4<=(3:Fin 5).val from h) (by decide))).put_ne (by decide)⟩
   | 3,hi=>
    change i∈(if(3:Fin 5).val<4 then [(3:Fin 5).val+5]else [])at hi
    rw[dB (by decide)]at hi
    obtain rfl:i=8:=List.mem_singleton.1 hi
    obtain⟨o,ho,hd,bj,ab⟩:=st6_o8
    refine⟨⟨x,y,4,false⟩,by rfl,by first|(simp[S6.μ];omega)|(simp[S6.μ];done),fun rest _ hc =>?_⟩
    refine m_op (v :=.chan (some c.done)) hO ho (by simp[Region.wanted,bj]) hk (fun w₄ h₄ =>?_) ?_
    .obtain⟨hc₂,hz⟩:=xy (w:=w₄) (by rw[h₄];exact hT') 2
     simp only[thrC]at hc₂
     exact⟨by simp[go_sem,execOp,ab,show a'.tmps[52]? = some _ from s6 (show 3<=(3:Fin 5).val by decide),hc₂,hz],fun ev he=>by
      simp[go_sem,execOp,ab,show a'.tmps[52]? = some _ from s6 (show 3<=(3:Fin 5).val by decide),hc₂,hz]at he
      subst he
      exact xl (by rw[h₄];exact(Array.getElem?_eq_some_iff.1 hT').1) (fun e=>by cases e)⟩
    rw[hd]
    exact hc _ _ _ ⟨rfl,⟨d,rfl⟩,rfl,by rw[put_size];exact ax,ie,fun j hj=>by rw[<- old j hj];simp only[Act.put];rw[Array.getElem?_setIfInBounds_ne (by omega)],t0.put_ne (by decide),t1.put_ne (by decide),fun h=>(mi h).put_ne (by decide),fun h=>(td h).put_ne (by decide),fun h=>(tc h).put_ne (by decide),fun h=>(s9 h).put_ne (by decide),fun h=>(mh h).put_ne (by decide),fun h=>(s8 (show 1<=(3:Fin 5).val by decide)).put_ne (by decide),fun h=>(s7 (show 2<=(3:Fin 5).val by decide)).put_ne (by decide),fun h=>(s6 (show 3<=(3:Fin 5).val by decide)).put_ne (by decide),fun _=>TV.put_same (by omega)⟩
   | 4,hi=>
    change i∈(if(4:Fin 5).val<4 then [(4:Fin 5).val+5]else [])at hi
    rw[dA (by decide)]at hi
    cases hi
  .have hh:x=true/\y.val=4/\z.val=4/\i=9:=by
    cases x with
    | false=>simp at hi
    | true=>
     simp only[Bool.true_and,Bool.not_false,Bool.and_true]at hi
     by_cases e1:y.val=4
     .by_cases e2:z.val=4
      .simp[e1,e2]at hi;exact⟨rfl,e1,e2,hi⟩
      .simp[e2]at hi
     .simp[e1]at hi
   obtain⟨rfl,hy,hz,rfl⟩:=hh
   refine⟨⟨true,y,z,true⟩,by rfl,by simp[S6.μ,hy,hz],fun rest hr _ =>?_⟩
   have:=hr (by rw[ZH];simp[S6.rdy,hy,hz])
   subst this
   exact Runs.at_ (fu a' ax ie old (mi rfl) (mh (by simp[hy])) (mf (by simp[hz])))
end Go.Proofs.YtfagfflkgmcnpaaGreatDoor.Mx
namespace Go.Proofs.YtfagfflkgmcnpaaGreatDoor.Mx
open Go Go.Conc Lx Kx Tx
variable{Goal:Machine->Trace->Prop}{R:Rg}{n:Nat}{a:Act}{w:World}{c:WC}{cl:Value}{pend:Value}{busy closed:Bool}{b:Frame}{k:List Item}{cs:List Frame}
noncomputable def st3:Array Oper:=match Tryz.f46.body with
 | some (.seq _ (.seq _ (.seq (.region _ ops _) _)))=>ops
 | _=> #[]
theorem st3_o0 : ∃o,st3[0]? = some o/\o.dst=some 23/\o.guard=none/\o.op = .move (.tmp 0):=⟨_,rfl,rfl,rfl,rfl⟩
theorem st3_o1 : ∃o,st3[1]? = some o/\o.dst=some 24/\o.guard=none/\o.op = .move (.tmp 0):=⟨_,rfl,rfl,rfl,rfl⟩
theorem st3_o2 : ∃o,st3[2]? = some o/\o.dst=some 25/\o.guard=none/\o.op = .nilCheck (.tmp 24):=⟨_,rfl,rfl,rfl,rfl⟩
theorem st3_o3 : ∃o,st3[3]? = some o/\o.dst=some 26/\o.guard=none/\o.op = .fieldAddr 118 (.tmp 25) 0:=⟨_,rfl,rfl,rfl,rfl⟩
theorem st3_o4 : ∃o,st3[4]? = some o/\o.dst=some 27/\o.guard=none/\o.op = .load 3 (.tmp 26):=⟨_,rfl,rfl,rfl,rfl⟩
theorem st3_o5 : ∃o,st3[5]? = some o/\o.dst=some 28/\o.guard=none/\o.op = .makeChan 129 (.const (.int .i64 0)):=⟨_,rfl,rfl,rfl,rfl⟩
theorem st3_o6 : ∃o,st3[6]? = some o/\o.dst=some 29/\o.guard=none/\o.op = .makeChan 130 (.const (.int .i64 0)):=⟨_,rfl,rfl,rfl,rfl⟩
theorem st3_o7 : ∃o,st3[7]? = some o/\o.dst=some 30/\o.guard=none/\o.op = .move (.tmp 0):=⟨_,rfl,rfl,rfl,rfl⟩
theorem st3_o8 : ∃o,st3[8]? = some o/\o.dst=some 31/\o.guard=none/\o.op = .nilCheck (.tmp 30):=⟨_,rfl,rfl,rfl,rfl⟩
theorem st3_o9 : ∃o,st3[9]? = some o/\o.dst=some 32/\o.guard=none/\o.op = .fieldAddr 118 (.tmp 31) 6:=⟨_,rfl,rfl,rfl,rfl⟩
theorem st3_o10 : ∃o,st3[10]? = some o/\o.dst=some 33/\o.guard=none/\o.op = .load 113 (.tmp 32):=⟨_,rfl,rfl,rfl,rfl⟩
theorem st3_o11 : ∃o,st3[11]? = some o/\o.dst=some 34/\o.guard=none/\o.op = .build 132 #[(0,.tmp 27),(3,.tmp 28),(4,.tmp 29),(5,.tmp 33)]:=⟨_,rfl,rfl,rfl,rfl⟩
theorem st3_o12 : ∃o,st3[12]? = some o/\o.dst=some 35/\o.guard=none/\o.op = .box 132 (.tmp 34):=⟨_,rfl,rfl,rfl,rfl⟩
theorem st3_o13 : ∃o,st3[13]? = some o/\o.dst=some 36/\o.guard=none/\o.op = .nilCheck (.tmp 23):=⟨_,rfl,rfl,rfl,rfl⟩
theorem st3_o14 : ∃o,st3[14]? = some o/\o.dst=some 37/\o.guard=none/\o.op = .fieldAddr 118 (.tmp 36) 1:=⟨_,rfl,rfl,rfl,rfl⟩
theorem st3_o15 : ∃o,st3[15]? = some o/\o.dst=none/\o.guard=none/\o.op = .store 114 (.tmp 37) (.tmp 35):=⟨_,rfl,rfl,rfl,rfl⟩
structure S3 where
 a:Bool
 b:Fin 5
 c:Bool
 d:Bool
 e:Fin 5
 f:Fin 3
 h:Fin 4
def S3.L(s:S3):Array Bool:= #[s.a,decide (1<=s.b.val),decide (2<=s.b.val),decide (3<=s.b.val),decide (4<=s.b.val),s.c,s.d,decide (1<=s.e.val),decide (2<=s.e.val),decide (3<=s.e.val),decide (4<=s.e.val),decide (1<=s.f.val),decide (2<=s.f.val),decide (1<=s.h.val),decide (2<=s.h.val),decide (3<=s.h.val)]
def S3.μ(s:S3):Nat:=(bif s.a then 0 else 1)+(4-s.b.val)+(bif s.c then 0 else 1)+(bif s.d then 0 else 1)+(4-s.e.val)+(2-s.f.val)+(3-s.h.val)
def S3.ok(s:S3):Bool:=(s.f.val==0||(s.b.val==4&&s.c&&s.d&&s.e.val==4))&&(s.h.val==0||(s.a&&s.f.val==2))
def S3.rdy(s:S3):List Nat:=(bif s.a then []else [0])++(if s.b.val<4 then [s.b.val+1]else [])++(bif s.c then []else [5])++(bif s.d then []else [6])++(if s.e.val<4 then [s.e.val+7]else []) ++
 (if s.f.val=0/\s.b.val=4/\s.c=true/\s.d=true/\s.e.val=4 then [11]else [])++(if s.f.val=1 then [12]else [])++(if s.h.val=0/\s.a=true/\s.f.val=2 then [13]else [])++(if s.h.val=1 then [14]else [])++(if s.h.val=2 then [15]else [])
def fins4:List (Fin 4) :=[0,1,2,3]
theorem YK(x:Fin 4):x∈fins4:=by revert x;decide
def fins3:List (Fin 3) :=[0,1,2]
theorem YL(x:Fin 3):x∈fins3:=by revert x;decide
def bools:List Bool :=[true,false]
theorem vV(x:Bool):x∈bools:=by cases x<;>simp[bools]
noncomputable def xir:Bool:=bools.all fun a=>fins5.all fun b=>bools.all fun c=>bools.all fun d=>fins5.all fun e=>fins3.all fun f=>fins4.all fun h=> !(S3.ok ⟨a,b,c,d,e,f,h⟩)||decide (Region.ready .any st3 (S3.L ⟨a,b,c,d,e,f,h⟩)=S3.rdy ⟨a,b,c,d,e,f,h⟩)
theorem st3_chk:xir=true:=by kernel_rfl
theorem yo(s:S3)(ay:s.ok=true):Region.ready .any st3 s.L=s.rdy:=by
 have H:=st3_chk
 unfold xir at H
 obtain⟨a,b,c,d,e,f,h⟩:=s
 have H:=List.all_eq_true.1 H a (vV a)
 have H:=List.all_eq_true.1 H b (wF b)
 have H:=List.all_eq_true.1 H c (vV c)
 have H:=List.all_eq_true.1 H d (vV d)
 have H:=List.all_eq_true.1 H e (wF e)
 have H:=List.all_eq_true.1 H f (YL f)
 have H:=List.all_eq_true.1 H h (YK h)
 rw[ay]at H
 exact dG (by simpa using H)
end Go.Proofs.YtfagfflkgmcnpaaGreatDoor.Mx
namespace Go.Proofs.YtfagfflkgmcnpaaGreatDoor.Mx
open Go Go.Conc Lx Kx Tx
variable{Goal:Machine->Trace->Prop}{R:Rg}{n:Nat}{w:World}{c:WC}
def Rg.born(R:Rg)(c:WC):Rg:=⟨fun w=>R.K w/\StillAt c w,fun l=>R.Still l\/ ∃k,3<=k/\l = .cell ⟨c.pb,k,none⟩,R.Mem,R.Inb⟩
theorem Env.born(E:Env R)(h : ∀i s x,R.Inb i=some s->s.has x->x≠c.pb):Env (R.born c):=by
 refine⟨E.main,E.zero,fun w w' hs ⟨x,n,told,y⟩=>⟨E.keep w w' (fun b k hb=>hs b k (.inl hb)) x,n,told,?_⟩,fun w b k ⟨x,n,told,y⟩ hb =>?_,fun l hl =>?_,fun i s x k hi hx hl =>?_⟩
 .rw[hs c.pb 3 (.inr ⟨3,dJ _,rfl⟩)];exact y
 .rcases hb with hb|⟨j,_,e⟩
  .exact E.low w b k x hb
  .cases e;exact(Array.getElem?_eq_some_iff.1 y).1
 .rcases hl with hl|⟨k,_,rfl⟩
  .exact E.cell l hl
  .exact⟨_,_,rfl⟩
 .rcases hl with hl|⟨j,_,e⟩
  .exact E.chan i s x k hi hx hl
  .cases e;exact h i s _ hi hx rfl
section
variable{b:Frame}{a:Act}{ops:Array Oper}{i:Nat}{rest:List Nat}{o:Oper}{k:List Item}{cs:List Frame}{v:Value}
theorem m_born(E:Env R)(lu:c.pb=w.heap.size){nst:Int}{told:Value}(ho:ops[i]? = some o)(hw:Region.wanted o (yielded ops a.tmps)=true)(hk:b.kind ≠ .early)(h : ∀d,(execOp a.eval o).run Tryz.prog (w.at d) = .ok (.value v) ((w.at d).alloc (waitsO c nst told))/\(execOp a.eval o).events Tryz.prog (w.at d) #[] = #[])
  (hn : ∀d,Own1 R c.pb->Env (R.born c)->Runs Goal (R.born c) n (G (b.at (a.put o.dst v) (.inRegion ops rest::k)) cs) ((w.at d).alloc (waitsO c nst told))):Runs Goal R n (G (b.at a (.inRegion ops (i::rest)::k)) cs) w:=by
 have hO:Rg.Ok ⟨R.K,(R.born c).Still,R.Mem,R.Inb⟩:=⟨E.ok.at_,E.ok.chan,E.main⟩
 refine Runs.ring (R':=⟨R.K,(R.born c).Still,R.Mem,R.Inb⟩) (fun d T gs q C=>xew (fun l hl =>.inl hl) (fun l hl=>hl.imp id fun⟨k,_,e⟩=>⟨_,e,by rw[lu];exact dJ _⟩) C) ?_
 refine Runs.go hO rfl fun hl d hK=>⟨_,(w.at d).alloc (waitsO c nst told),_,stepG_value ho hw hk (h d).1,E.keep _ _ (fun x k hx=>alloc_old (E.low _ x k hK hx)) hK,fun i s x hi hx=>alloc_old (w:=w.at d) (hl i s x hi hx),by rw[World.size_alloc];exact Nat.le_succ _,fun e he=>by have:=Kx.mem_seen he;rw[(h d).2]at this;simp at this,?_⟩
 have hX:Own1 R c.pb:=⟨fun k hx=>by have h0:c.pb<(w.at d).heap.size:=E.low _ _ k hK hx;rw[lu]at h0;exact absurd h0 (Nat.lt_irrefl _),fun i s x hi hx e=>by have:=hl i s x hi hx;omega⟩
 have hS:StillAt c ((w.at d).alloc (waitsO c nst told)):=⟨nst,told,by rw[lu];exact heap_alloc_new (w.at d) _⟩
 refine Runs.ring (R':=R.born c) (fun d' T gs q C =>?_) (hn d hX (E.born hX.ch))
 have C':Ring Tryz.prog R.K (R.born c).Still _ R.Mem R.Inb 0 T gs _ q:=C
 exact xgX (K':=(R.born c).K) (fun w (h:R.K w/\StillAt c w)=>h.1) ⟨C'.keep,hS⟩ C'
end
end Go.Proofs.YtfagfflkgmcnpaaGreatDoor.Mx
namespace Go.Proofs.YtfagfflkgmcnpaaGreatDoor.Mx
open Go Go.Conc Lx Kx Tx
variable{Goal:Machine->Trace->Prop}{R:Rg}{n:Nat}{a:Act}{w:World}{c:WC}{port done pend:Value}{busy closed:Bool}{b:Frame}{k:List Item}{cs:List Frame}
def S3.next(s:S3):Nat->S3
 | 0 =>{s with a:=true}|1 =>{s with b:=1}|2 =>{s with b:=2}|3 =>{s with b:=3}|4 =>{s with b:=4}|5 =>{s with c:=true}|6 =>{s with d:=true}
 | 7 =>{s with e:=1}|8 =>{s with e:=2}|9 =>{s with e:=3}|10 =>{s with e:=4}|11 =>{s with f:=1}|12 =>{s with f:=2}|13 =>{s with h:=1}|14 =>{s with h:=2}|_ =>{s with h:=3}
def xfF:Bool:=bools.all fun a=>fins5.all fun b=>bools.all fun c=>bools.all fun d=>fins5.all fun e=>fins3.all fun f=>fins4.all fun h=> !(S3.ok ⟨a,b,c,d,e,f,h⟩)||(S3.rdy ⟨a,b,c,d,e,f,h⟩).all fun i=>(S3.next ⟨a,b,c,d,e,f,h⟩ i).ok&&decide ((S3.next ⟨a,b,c,d,e,f,h⟩ i).L=(S3.L ⟨a,b,c,d,e,f,h⟩).setIfInBounds i true)&&decide ((S3.next ⟨a,b,c,d,e,f,h⟩ i).μ+1=S3.μ ⟨a,b,c,d,e,f,h⟩)
theorem xis:xfF=true:=by kernel_rfl
theorem xit(s:S3)(i:Nat)(ay:s.ok=true)(hi:i∈s.rdy):(s.next i).ok=true/\(s.next i).L=s.L.setIfInBounds i true/\(s.next i).μ+1=s.μ:=by
 have H:=xis
 unfold xfF at H
 obtain⟨a,b,c,d,e,f,h⟩:=s
 have H:=List.all_eq_true.1 H a (vV a)
 have H:=List.all_eq_true.1 H b (wF b)
 have H:=List.all_eq_true.1 H c (vV c)
 have H:=List.all_eq_true.1 H d (vV d)
 have H:=List.all_eq_true.1 H e (wF e)
 have H:=List.all_eq_true.1 H f (YL f)
 have H:=List.all_eq_true.1 H h (YK h)
 rw[ay]at H
 simp only[Bool.not_true,Bool.false_or]at H
 have H:=List.all_eq_true.1 H i hi
 simp only[dM,decide_eq_true_eq]at H
 exact⟨H.1.1,H.1.2,H.2⟩
def xfG:Bool:=bools.all fun a=>fins5.all fun b=>bools.all fun c=>bools.all fun d=>fins5.all fun e=>fins3.all fun f=>fins4.all fun h=> !(S3.ok ⟨a,b,c,d,e,f,h⟩) || !(S3.rdy ⟨a,b,c,d,e,f,h⟩).isEmpty||(a&&decide (b=4)&&c&&d&&decide (e=4)&&decide (f=2)&&decide (h=3))
theorem xiu:xfG=true:=by kernel_rfl
theorem st3_end(s:S3)(ay:s.ok=true)(hi:s.rdy = []):s=⟨true,4,true,true,4,2,3⟩:=by
 have H:=xiu
 unfold xfG at H
 obtain⟨a,b,c,d,e,f,h⟩:=s
 have H:=List.all_eq_true.1 H a (vV a)
 have H:=List.all_eq_true.1 H b (wF b)
 have H:=List.all_eq_true.1 H c (vV c)
 have H:=List.all_eq_true.1 H d (vV d)
 have H:=List.all_eq_true.1 H e (wF e)
 have H:=List.all_eq_true.1 H f (YL f)
 have H:=List.all_eq_true.1 H h (YK h)
 rw[ay,hi]at H
 simp only[Bool.not_true,Bool.false_or,List.isEmpty_nil,dM,decide_eq_true_eq]at H
 obtain⟨⟨⟨⟨⟨⟨h1,h2⟩,h3⟩,h4⟩,h5⟩,h6⟩,h7⟩:=H
 subst h1 h2 h3 h4 h5 h6 h7
 rfl
theorem xiv(s:S3)(h:s.μ=0):s.rdy = []:=by
 obtain⟨a,b,c,d,e,f,h'⟩:=s
 simp only[S3.μ]at h
 cases a<;>cases c<;>cases d<;>simp at h |-
 have:=b.isLt;have:=e.isLt;have:=f.isLt;have:=h'.isLt
 have hb:b.val=4:=by omega
 have he:e.val=4:=by omega
 have hf:f.val=2:=by omega
 have hh:h'.val=3:=by omega
 simp[S3.rdy,hb,he,hf,hh]
theorem xc5(s:S3)(h:s.μ=0):s.ok=true:=by
 obtain⟨a,b,c,d,e,f,h'⟩:=s
 simp only[S3.μ]at h
 cases a<;>cases c<;>cases d<;>simp at h |-
 have:=b.isLt;have:=e.isLt;have:=f.isLt;have:=h'.isLt
 have hb:b.val=4:=by omega
 have he:e.val=4:=by omega
 have hf:f.val=2:=by omega
 have hh:h'.val=3:=by omega
 simp[S3.ok,hb,he,hf,hh]
theorem Yd(s:S3)(h:s.μ=0):Region.ready .any st3 s.L = []:=by rw[yo s (xc5 s h),xiv s h]
structure S3X where
 s:S3
 qa:Nat
 qg:Nat
 pb:Nat
def mkW(c:WC)(qa qg pb:Nat):WC :={c with ask:=qa,grant:=qg,pb:=pb}
def ptrN(x:Nat):Value :=.pointer (some ⟨x,0,none⟩)
structure I3(c:WC)(port done pend:Value)(busy closed:Bool)(R0:Rg)(w0:World)(a0:Act)(x:S3X)(R:Rg)(a:Act)(w:World):Prop where
 ok:x.s.ok=true
 env:Env R
 r0:x.s.f.val<2->R=R0
 r1:x.s.f.val=2->R=R0.born (mkW c x.qa x.qg x.pb)
 sz:a.tmps.size=56
 df:a.defers = []
 old : ∀i,i<23->a.tmps[i]? = a0.tmps[i]?
 keeps:Keeps (fun b=>b=c.tb) w0 w
 size:w.heap.size=w0.heap.size+(bif x.s.c then 1 else 0)+(bif x.s.d then 1 else 0)+(if x.s.f.val=2 then 1 else 0)
 ca:x.s.c=true->w.heap[x.qa]? = some (.chan 0 #[] false 0 0 false)/\w0.heap.size<=x.qa/\Own1 R0 x.qa
 cg:x.s.d=true->w.heap[x.qg]? = some (.chan 0 #[] false 0 0 false)/\w0.heap.size<=x.qg/\Own1 R0 x.qg
 cn:x.s.c=true->x.s.d=true->x.qa≠x.qg
 pw:x.s.f.val=2->w.heap[x.pb]? = some (waitsO (mkW c x.qa x.qg x.pb) 0 (.pointer none))/\w0.heap.size<=x.pb/\Own1 R0 x.pb/\x.pb≠x.qa/\x.pb≠x.qg
 thr:w.heap[c.tb]? = some (thrO c.self (if x.s.h.val=3 then ptrN x.pb else port) done pend busy closed c.quit)
 t0:TV a 0 (.pointer (some ⟨c.tb,0,none⟩))
 k8:x.s.a=true->TV a 23 (.pointer (some ⟨c.tb,0,none⟩))
 j9:1<=x.s.b.val->TV a 24 (.pointer (some ⟨c.tb,0,none⟩))
 j8:2<=x.s.b.val->TV a 25 (.pointer (some ⟨c.tb,0,none⟩))
 i9:3<=x.s.b.val->TV a 26 (.pointer (some ⟨c.tb,0,none⟩))
 i7:4<=x.s.b.val->TV a 27 (.int .i64 c.self)
 i6:x.s.c=true->TV a 28 (.chan (some x.qa))
 iz:x.s.d=true->TV a 29 (.chan (some x.qg))
 iy:1<=x.s.e.val->TV a 30 (.pointer (some ⟨c.tb,0,none⟩))
 iw:2<=x.s.e.val->TV a 31 (.pointer (some ⟨c.tb,0,none⟩))
 iv:3<=x.s.e.val->TV a 32 (.pointer (some ⟨c.tb,6,none⟩))
 iu:4<=x.s.e.val->TV a 33 (.chan (some c.quit))
 mn:1<=x.s.f.val->TV a 34 (.agg (waitsC (mkW c x.qa x.qg x.pb) 0 (.pointer none)))
 mj:2<=x.s.f.val->TV a 35 (.pointer (some ⟨x.pb,0,none⟩))
 ln:1<=x.s.h.val->TV a 36 (.pointer (some ⟨c.tb,0,none⟩))
 lm:2<=x.s.h.val->TV a 37 (.pointer (some ⟨c.tb,1,none⟩))
theorem xiw{x:Nat}{self:Int}{port done pend v:Value}{busy closed:Bool}{quit:Nat}{w:World}(h:w.heap[x]? = some (thrO self port done pend busy closed quit)):(w.setCell ⟨x,1,none⟩ v).heap[x]? = some (thrO self v done pend busy closed quit)/\(∀y,y≠x->(w.setCell ⟨x,1,none⟩ v).heap[y]? = w.heap[y]?)/\(w.setCell ⟨x,1,none⟩ v).heap.size=w.heap.size:=by
 refine⟨?_,fun y hy =>?_,?_⟩
 .simp[World.setCell,Array.getElem?_modify,h,thrO,thrC]
 .show(w.heap.modify x _)[y]? = _
  rw[Array.getElem?_modify,dA fun h=>hy h.symm]
 .simp[World.setCell]
theorem xix(w:World):(Instr.makeChan 129 (.int .i64 0)).run Tryz.prog w = .ok (.chan (some w.heap.size)) (w.alloc (.chan 0 #[] false 0 0 false))/\(Instr.makeChan 129 (.int .i64 0)).events Tryz.prog w #[] = #[]:=
 WK (k:=0) ⟨_,_,_,rfl,rfl,by simp⟩ (by decide) w
theorem xc6(w:World):(Instr.makeChan 130 (.int .i64 0)).run Tryz.prog w = .ok (.chan (some w.heap.size)) (w.alloc (.chan 0 #[] false 0 0 false))/\(Instr.makeChan 130 (.int .i64 0)).events Tryz.prog w #[] = #[]:=
 WK (k:=0) ⟨_,_,_,rfl,rfl,by simp⟩ (by decide) w
theorem Free.born{tb:Nat}(E:Env R)(h:Free R tb)(ae:tb≠c.pb)(de : ∀i s x,R.Inb i=some s->s.has x->x≠c.pb):Free (R.born c) tb:=
 ⟨fun k hk=>hk.elim (h.st k) fun⟨j,_,e⟩=>by cases e;exact ae rfl,(E.born de).keep,h.chans,(E.born de).low⟩
set_option maxHeartbeats 4000000 in
theorem xiy(E:Env R)(hF:Free R c.tb)(hm : Tryz.prog.follows .mixedOrders=true)(hk:b.kind ≠ .early)(hT:w.heap[c.tb]? = some (thrO c.self port done pend busy closed c.quit))(ai:a.tmps.size=56)(bf:a.defers = [])(h0:TV a 0 (.pointer (some ⟨c.tb,0,none⟩))){id:Nat}
  (lk : ∀a' w' qa qg pb,Env (R.born (mkW c qa qg pb))->a'.tmps.size=56->a'.defers = []->(∀i,i<23->a'.tmps[i]? = a.tmps[i]?)->Keeps (fun b=>b=c.tb) w w'->w'.heap.size=w.heap.size+3->(w'.heap[qa]? = some (.chan 0 #[] false 0 0 false)/\w.heap.size<=qa/\Own1 R qa)->(w'.heap[qg]? = some (.chan 0 #[] false 0 0 false)/\w.heap.size<=qg/\Own1 R qg)->qa≠qg->
   (w'.heap[pb]? = some (waitsO (mkW c qa qg pb) 0 (.pointer none))/\w.heap.size<=pb/\Own1 R pb/\pb≠qa/\pb≠qg)->w'.heap[c.tb]? = some (thrO c.self (ptrN pb) done pend busy closed c.quit)->Runs Goal (R.born (mkW c qa qg pb)) n (G (b.at a' (.inRegion st3 []::k)) cs) w') :
  Runs Goal R n (G (b.at a (.code (.region id st3 true)::k)) cs) w:=by
 have hs:st3.size=16:=by kernel_rfl
 refine xc4 E.ok hm ?_
 rw[hs]
 refine xbF (Goal:=Goal) (n:=n) (b:=b) (k:=k) (cs:=cs) (ops:=st3) (md :=.any) (fun x:S3X=>x.s.L) (fun x:S3X=>x.s.μ) (fun x R' a' w'=>I3 c port done pend busy closed R w a x R' a' w'/\Region.ready .any st3 x.s.L=x.s.rdy) (fun x h =>?_) (fun x R' a' w' hI he =>?_) (fun x R' a' w' hI i hi =>?_) 16 ⟨⟨false,0,false,false,0,0,0⟩,0,0,0⟩ R a w rfl ⟨⟨rfl,E,fun _=>rfl,fun h=>absurd h (by decide),ai,bf,fun _ _=>rfl,Keeps.refl _ w,rfl,fun h=>(by cases h),fun h=>(by cases h),fun h=>(by cases h),fun h=>absurd h (by decide),hT,h0,fun h=>(by cases h),fun h=>absurd h (by decide),fun h=>absurd h (by decide),fun h=>absurd h (by decide),fun h=>absurd h (by decide),fun h=>(by cases h),fun h=>(by cases h),fun h=>absurd h (by decide),fun h=>absurd h (by decide),fun h=>absurd h (by decide),fun h=>absurd h (by decide),fun h=>absurd h (by decide),fun h=>absurd h (by decide),fun h=>absurd h (by decide),fun h=>absurd h (by decide)⟩,yo _ rfl⟩
 .exact Yd x.s h
 .obtain⟨hI,hr⟩:=hI
  rw[hr]at he
  have hs:=st3_end x.s hI.ok he
  obtain⟨s,qa,qg,pb⟩:=x
  simp only at hs
  subst hs
  obtain⟨ay,env,r0,r1,sz,df,old,keeps,size,ca,cg,cn,pw,thr,t0,k8,j9,j8,i9,i7,i6,iz,iy,iw,iv,iu,mn,mj,ln,lm⟩:=hI
  have r1:=r1 rfl
  subst r1
  exact lk a' w' qa qg pb env sz df old keeps (by rw[size];rfl) (ca rfl) (cg rfl) (cn rfl rfl) (pw rfl) thr
 .obtain⟨hI,hr⟩:=hI
  rw[hr]at hi
  clear hr
  obtain⟨s,qa,qg,pb⟩:=x
  obtain⟨ay,env,r0,r1,sz,df,old,keeps,size,ca,cg,cn,pw,thr,t0,k8,j9,j8,i9,i7,i6,iz,iy,iw,iv,iu,mn,mj,ln,lm⟩:=hI
  have hO:=env.ok
  obtain⟨sa,sb,sc,sd,se,sf,sh⟩:=s
  have bn:=xit _ _ ay hi
  simp only[S3.rdy,List.mem_append]at hi
  rcases hi with((((((((hi|hi)|hi)|hi)|hi)|hi)|hi)|hi)|hi)|hi
  .cases sa with
   | true=>simp at hi
   | false=>
    simp only[cond_false,List.mem_singleton]at hi
    subst hi
    obtain⟨o,ho,hd,bj,ab⟩:=st3_o0
    refine⟨⟨⟨true,sb,sc,sd,se,sf,sh⟩,qa,qg,pb⟩,bn.2.1,bn.2.2,fun rest _ hc =>?_⟩
    refine m_op (v :=.pointer (some ⟨c.tb,0,none⟩)) hO ho (by simp[Region.wanted,bj]) hk (fun w₄ h₄=>⟨by simp[go_sem,execOp,ab,show a'.tmps[0]? = some _ from t0],by simp[go_sem,execOp,ab,show a'.tmps[0]? = some _ from t0]⟩) ?_
    rw[hd]
    exact hc _ _ _ ⟨⟨bn.1,env,r0,r1,by rw[put_size];exact sz,df,fun j hj=>by rw[<- old j hj];simp only[Act.put];rw[Array.getElem?_setIfInBounds_ne (by omega)],keeps,size,ca,cg,cn,pw,thr,t0.put_ne (by decide),fun _=>TV.put_same (by omega),fun h=>(j9 h).put_ne (by decide),fun h=>(j8 h).put_ne (by decide),fun h=>(i9 h).put_ne (by decide),fun h=>(i7 h).put_ne (by decide),fun h=>(i6 h).put_ne (by decide),fun h=>(iz h).put_ne (by decide),fun h=>(iy h).put_ne (by decide),fun h=>(iw h).put_ne (by decide),fun h=>(iv h).put_ne (by decide),fun h=>(iu h).put_ne (by decide),fun h=>(mn h).put_ne (by decide),fun h=>(mj h).put_ne (by decide),fun h=>(ln h).put_ne (by decide),fun h=>(lm h).put_ne (by decide)⟩,yo _ bn.1⟩
  .match sb,hi with
   | 0,hi=>
    change i∈(if(0:Fin 5).val<4 then [(0:Fin 5).val+1]else [])at hi
    rw[dB (by decide)]at hi
    obtain rfl:i=1:=List.mem_singleton.1 hi
    obtain⟨o,ho,hd,bj,ab⟩:=st3_o1
    refine⟨⟨⟨sa,1,sc,sd,se,sf,sh⟩,qa,qg,pb⟩,bn.2.1,bn.2.2,fun rest _ hc =>?_⟩
    refine m_op (v :=.pointer (some ⟨c.tb,0,none⟩)) hO ho (by simp[Region.wanted,bj]) hk (fun w₄ h₄=>⟨by simp[go_sem,execOp,ab,show a'.tmps[0]? = some _ from t0],by simp[go_sem,execOp,ab,show a'.tmps[0]? = some _ from t0]⟩) ?_
    rw[hd]
    exact hc _ _ _ ⟨⟨bn.1,env,r0,r1,by rw[put_size];exact sz,df,fun j hj=>by rw[<- old j hj];simp only[Act.put];rw[Array.getElem?_setIfInBounds_ne (by omega)],keeps,size,ca,cg,cn,pw,thr,t0.put_ne (by decide),fun h=>(k8 h).put_ne (by decide),fun _=>TV.put_same (by omega),fun h=>(j8 (absurd (show 2<=(1:Fin 5).val from h) (by decide))).put_ne (by decide),fun h=>(i9 (absurd (show 3<=(1:Fin 5).val from h) (by decide))).put_ne (by decide),fun h=>(i7 (absurd (show 4<=(1:Fin 5).val from h) (by decide))).put_ne (by decide),fun h=>(i6 h).put_ne (by decide),fun h=>(iz h).put_ne (by decide),fun h=>(iy h).put_ne (by decide),fun h=>(iw h).put_ne (by decide),fun h=>(iv h).put_ne (by decide),fun h=>(iu h).put_ne (by decide),fun h=>(mn h).put_ne (by decide),fun h=>(mj h).put_ne (by decide),fun h=>(ln h).put_ne (by decide),fun h=>(lm h).put_ne (by decide)⟩,yo _ bn.1⟩
   | 1,hi=>
    change i∈(if(1:Fin 5).val<4 then [(1:Fin 5).val+1]else [])at hi
    rw[dB (by decide)]at hi
    obtain rfl:i=2:=List.mem_singleton.1 hi
    obtain⟨o,ho,hd,bj,ab⟩:=st3_o2
    refine⟨⟨⟨sa,2,sc,sd,se,sf,sh⟩,qa,qg,pb⟩,bn.2.1,bn.2.2,fun rest _ hc =>?_⟩
    refine m_op (v :=.pointer (some ⟨c.tb,0,none⟩)) hO ho (by simp[Region.wanted,bj]) hk (fun w₄ h₄=>⟨by simp[go_sem,execOp,ab,show a'.tmps[24]? = some _ from j9 (show 1<=(1:Fin 5).val by decide)],by simp[go_sem,execOp,ab,show a'.tmps[24]? = some _ from j9 (show 1<=(1:Fin 5).val by decide)]⟩) ?_
    rw[hd]
    exact hc _ _ _ ⟨⟨bn.1,env,r0,r1,by rw[put_size];exact sz,df,fun j hj=>by rw[<- old j hj];simp only[Act.put];rw[Array.getElem?_setIfInBounds_ne (by omega)],keeps,size,ca,cg,cn,pw,thr,t0.put_ne (by decide),fun h=>(k8 h).put_ne (by decide),fun h=>(j9 (show 1<=(1:Fin 5).val by decide)).put_ne (by decide),fun _=>TV.put_same (by omega),fun h=>(i9 (absurd (show 3<=(2:Fin 5).val from h) (by decide))).put_ne (by decide),fun h=>(i7 (absurd (show 4<=(2:Fin 5).val from h) (by decide))).put_ne (by decide),fun h=>(i6 h).put_ne (by decide),fun h=>(iz h).put_ne (by decide),fun h=>(iy h).put_ne (by decide),fun h=>(iw h).put_ne (by decide),fun h=>(iv h).put_ne (by decide),fun h=>(iu h).put_ne (by decide),fun h=>(mn h).put_ne (by decide),fun h=>(mj h).put_ne (by decide),fun h=>(ln h).put_ne (by decide),fun h=>(lm h).put_ne (by decide)⟩,yo _ bn.1⟩
   | 2,hi=>
    change i∈(if(2:Fin 5).val<4 then [(2:Fin 5).val+1]else [])at hi
    rw[dB (by decide)]at hi
    obtain rfl:i=3:=List.mem_singleton.1 hi
    obtain⟨o,ho,hd,bj,ab⟩:=st3_o3
    refine⟨⟨⟨sa,3,sc,sd,se,sf,sh⟩,qa,qg,pb⟩,bn.2.1,bn.2.2,fun rest _ hc =>?_⟩
    refine m_op (v :=.pointer (some ⟨c.tb,0,none⟩)) hO ho (by simp[Region.wanted,bj]) hk (fun w₄ h₄=>⟨by simp[go_sem,execOp,ab,show a'.tmps[25]? = some _ from j8 (show 2<=(2:Fin 5).val by decide)],by simp[go_sem,execOp,ab,show a'.tmps[25]? = some _ from j8 (show 2<=(2:Fin 5).val by decide)]⟩) ?_
    rw[hd]
    exact hc _ _ _ ⟨⟨bn.1,env,r0,r1,by rw[put_size];exact sz,df,fun j hj=>by rw[<- old j hj];simp only[Act.put];rw[Array.getElem?_setIfInBounds_ne (by omega)],keeps,size,ca,cg,cn,pw,thr,t0.put_ne (by decide),fun h=>(k8 h).put_ne (by decide),fun h=>(j9 (show 1<=(2:Fin 5).val by decide)).put_ne (by decide),fun h=>(j8 (show 2<=(2:Fin 5).val by decide)).put_ne (by decide),fun _=>TV.put_same (by omega),fun h=>(i7 (absurd (show 4<=(3:Fin 5).val from h) (by decide))).put_ne (by decide),fun h=>(i6 h).put_ne (by decide),fun h=>(iz h).put_ne (by decide),fun h=>(iy h).put_ne (by decide),fun h=>(iw h).put_ne (by decide),fun h=>(iv h).put_ne (by decide),fun h=>(iu h).put_ne (by decide),fun h=>(mn h).put_ne (by decide),fun h=>(mj h).put_ne (by decide),fun h=>(ln h).put_ne (by decide),fun h=>(lm h).put_ne (by decide)⟩,yo _ bn.1⟩
   | 3,hi=>
    change i∈(if(3:Fin 5).val<4 then [(3:Fin 5).val+1]else [])at hi
    rw[dB (by decide)]at hi
    obtain rfl:i=4:=List.mem_singleton.1 hi
    obtain⟨o,ho,hd,bj,ab⟩:=st3_o4
    refine⟨⟨⟨sa,4,sc,sd,se,sf,sh⟩,qa,qg,pb⟩,bn.2.1,bn.2.2,fun rest _ hc =>?_⟩
    refine m_op (v :=.int .i64 c.self) hO ho (by simp[Region.wanted,bj]) hk (fun w₄ h₄ =>?_) ?_
    .obtain⟨hc₂,hz⟩:=xy (w:=w₄) (by rw[h₄];exact thr) 0
     simp only[thrC]at hc₂
     exact⟨by simp[go_sem,execOp,ab,show a'.tmps[26]? = some _ from i9 (show 3<=(3:Fin 5).val by decide),hc₂,hz],fun ev he=>by
      simp[go_sem,execOp,ab,show a'.tmps[26]? = some _ from i9 (show 3<=(3:Fin 5).val by decide),hc₂,hz]at he
      subst he
      exact xl (by rw[h₄];exact(Array.getElem?_eq_some_iff.1 thr).1) (fun e=>by cases e)⟩
    rw[hd]
    exact hc _ _ _ ⟨⟨bn.1,env,r0,r1,by rw[put_size];exact sz,df,fun j hj=>by rw[<- old j hj];simp only[Act.put];rw[Array.getElem?_setIfInBounds_ne (by omega)],keeps,size,ca,cg,cn,pw,thr,t0.put_ne (by decide),fun h=>(k8 h).put_ne (by decide),fun h=>(j9 (show 1<=(3:Fin 5).val by decide)).put_ne (by decide),fun h=>(j8 (show 2<=(3:Fin 5).val by decide)).put_ne (by decide),fun h=>(i9 (show 3<=(3:Fin 5).val by decide)).put_ne (by decide),fun _=>TV.put_same (by omega),fun h=>(i6 h).put_ne (by decide),fun h=>(iz h).put_ne (by decide),fun h=>(iy h).put_ne (by decide),fun h=>(iw h).put_ne (by decide),fun h=>(iv h).put_ne (by decide),fun h=>(iu h).put_ne (by decide),fun h=>(mn h).put_ne (by decide),fun h=>(mj h).put_ne (by decide),fun h=>(ln h).put_ne (by decide),fun h=>(lm h).put_ne (by decide)⟩,yo _ bn.1⟩
   | 4,hi=>
    change i∈(if(4:Fin 5).val<4 then [(4:Fin 5).val+1]else [])at hi
    rw[dA (by decide)]at hi
    cases hi
  .cases sc with
   | true=>simp at hi
   | false=>
    simp only[cond_false,List.mem_singleton]at hi
    subst hi
    have hf:sf.val=0:=by simp[S3.ok]at ay;have:=ay.1;omega
    obtain⟨o,ho,hd,bj,ab⟩:=st3_o5
    refine⟨⟨⟨sa,sb,true,sd,se,sf,sh⟩,w'.heap.size,qg,pb⟩,bn.2.1,bn.2.2,fun rest _ hc =>?_⟩
    have hR:=r0 (show sf.val<2 by omega)
    subst hR
    refine kR env (v :=.chan (some w'.heap.size)) (ob :=.chan 0 #[] false 0 0 false) ho (by simp[Region.wanted,bj]) hk (fun d=>⟨by simp[go_sem,execOp,ab,(xix (w'.at d)).1],by simp[go_sem,execOp,ab,(xix (w'.at d)).2]⟩) fun d' hx =>?_
    rw[hd]
    exact hc _ _ _ ⟨⟨bn.1,env,fun _=>rfl,fun h=>absurd (show sf.val=2 from h) (by omega),by rw[put_size];exact sz,df,fun j hj=>by rw[<- old j hj];simp only[Act.put];rw[Array.getElem?_setIfInBounds_ne (by omega)],keeps.trans (S':=fun b=>False) ⟨rfl,rfl,rfl,by rw[World.size_alloc];exact Nat.le_succ _,fun b hb _=>alloc_old (w:=w'.at d') hb⟩ (fun b hb=>hb.elim),by show((w'.at d').alloc _).heap.size=_;rw[World.size_alloc];show w'.heap.size+1=_;rw[size];simp[hf];omega,fun _=>⟨heap_alloc_new _ _,(show w.heap.size<=w'.heap.size from keeps.size),hx⟩,fun h=>⟨(alloc_old (w:=w'.at d') (Array.getElem?_eq_some_iff.1 (cg h).1).1).trans (cg h).1,(cg h).2⟩,fun _ h e=>absurd (show w'.heap.size=qg from e) (Ne.symm (Nat.ne_of_lt (Array.getElem?_eq_some_iff.1 (cg h).1).1)),fun h=>absurd (show sf.val=2 from h) (by omega),(alloc_old (w:=w'.at d') (Array.getElem?_eq_some_iff.1 thr).1).trans thr,t0.put_ne (by decide),fun h=>(k8 h).put_ne (by decide),fun h=>(j9 h).put_ne (by decide),fun h=>(j8 h).put_ne (by decide),fun h=>(i9 h).put_ne (by decide),fun h=>(i7 h).put_ne (by decide),fun _=>TV.put_same (by omega),fun h=>(iz h).put_ne (by decide),fun h=>(iy h).put_ne (by decide),fun h=>(iw h).put_ne (by decide),fun h=>(iv h).put_ne (by decide),fun h=>(iu h).put_ne (by decide),fun h=>absurd (show 1<=sf.val from h) (by omega),fun h=>absurd (show 2<=sf.val from h) (by omega),fun h=>(ln h).put_ne (by decide),fun h=>(lm h).put_ne (by decide)⟩,yo _ bn.1⟩
  .cases sd with
   | true=>simp at hi
   | false=>
    simp only[cond_false,List.mem_singleton]at hi
    subst hi
    have hf:sf.val=0:=by simp[S3.ok]at ay;have:=ay.1;omega
    obtain⟨o,ho,hd,bj,ab⟩:=st3_o6
    refine⟨⟨⟨sa,sb,sc,true,se,sf,sh⟩,qa,w'.heap.size,pb⟩,bn.2.1,bn.2.2,fun rest _ hc =>?_⟩
    have hR:=r0 (show sf.val<2 by omega)
    subst hR
    refine kR env (v :=.chan (some w'.heap.size)) (ob :=.chan 0 #[] false 0 0 false) ho (by simp[Region.wanted,bj]) hk (fun d=>⟨by simp[go_sem,execOp,ab,(xc6 (w'.at d)).1],by simp[go_sem,execOp,ab,(xc6 (w'.at d)).2]⟩) fun d' hx =>?_
    rw[hd]
    exact hc _ _ _ ⟨⟨bn.1,env,fun _=>rfl,fun h=>absurd (show sf.val=2 from h) (by omega),by rw[put_size];exact sz,df,fun j hj=>by rw[<- old j hj];simp only[Act.put];rw[Array.getElem?_setIfInBounds_ne (by omega)],keeps.trans (S':=fun b=>False) ⟨rfl,rfl,rfl,by rw[World.size_alloc];exact Nat.le_succ _,fun b hb _=>alloc_old (w:=w'.at d') hb⟩ (fun b hb=>hb.elim),by show((w'.at d').alloc _).heap.size=_;rw[World.size_alloc];show w'.heap.size+1=_;rw[size];simp[hf],fun h=>⟨(alloc_old (w:=w'.at d') (Array.getElem?_eq_some_iff.1 (ca h).1).1).trans (ca h).1,(ca h).2⟩,fun _=>⟨heap_alloc_new _ _,(show w.heap.size<=w'.heap.size from keeps.size),hx⟩,fun h _ e=>absurd (show qa=w'.heap.size from e) (Nat.ne_of_lt (Array.getElem?_eq_some_iff.1 (ca h).1).1),fun h=>absurd (show sf.val=2 from h) (by omega),(alloc_old (w:=w'.at d') (Array.getElem?_eq_some_iff.1 thr).1).trans thr,t0.put_ne (by decide),fun h=>(k8 h).put_ne (by decide),fun h=>(j9 h).put_ne (by decide),fun h=>(j8 h).put_ne (by decide),fun h=>(i9 h).put_ne (by decide),fun h=>(i7 h).put_ne (by decide),fun h=>(i6 h).put_ne (by decide),fun _=>TV.put_same (by omega),fun h=>(iy h).put_ne (by decide),fun h=>(iw h).put_ne (by decide),fun h=>(iv h).put_ne (by decide),fun h=>(iu h).put_ne (by decide),fun h=>absurd (show 1<=sf.val from h) (by omega),fun h=>absurd (show 2<=sf.val from h) (by omega),fun h=>(ln h).put_ne (by decide),fun h=>(lm h).put_ne (by decide)⟩,yo _ bn.1⟩
  .match se,hi with
   | 0,hi=>
    change i∈(if(0:Fin 5).val<4 then [(0:Fin 5).val+7]else [])at hi
    rw[dB (by decide)]at hi
    obtain rfl:i=7:=List.mem_singleton.1 hi
    obtain⟨o,ho,hd,bj,ab⟩:=st3_o7
    refine⟨⟨⟨sa,sb,sc,sd,1,sf,sh⟩,qa,qg,pb⟩,bn.2.1,bn.2.2,fun rest _ hc =>?_⟩
    refine m_op (v :=.pointer (some ⟨c.tb,0,none⟩)) hO ho (by simp[Region.wanted,bj]) hk (fun w₄ h₄=>⟨by simp[go_sem,execOp,ab,show a'.tmps[0]? = some _ from t0],by simp[go_sem,execOp,ab,show a'.tmps[0]? = some _ from t0]⟩) ?_
    rw[hd]
    exact hc _ _ _ ⟨⟨bn.1,env,r0,r1,by rw[put_size];exact sz,df,fun j hj=>by rw[<- old j hj];simp only[Act.put];rw[Array.getElem?_setIfInBounds_ne (by omega)],keeps,size,ca,cg,cn,pw,thr,t0.put_ne (by decide),fun h=>(k8 h).put_ne (by decide),fun h=>(j9 h).put_ne (by decide),fun h=>(j8 h).put_ne (by decide),fun h=>(i9 h).put_ne (by decide),fun h=>(i7 h).put_ne (by decide),fun h=>(i6 h).put_ne (by decide),fun h=>(iz h).put_ne (by decide),fun _=>TV.put_same (by omega),fun h=>(iw (absurd (show 2<=(1:Fin 5).val from h) (by decide))).put_ne (by decide),fun h=>(iv (absurd (show 3<=(1:Fin 5).val from h) (by decide))).put_ne (by decide),fun h=>(iu (absurd (show 4<=(1:Fin 5).val from h) (by decide))).put_ne (by decide),fun h=>(mn h).put_ne (by decide),fun h=>(mj h).put_ne (by decide),fun h=>(ln h).put_ne (by decide),fun h=>(lm h).put_ne (by decide)⟩,yo _ bn.1⟩
   | 1,hi=>
    change i∈(if(1:Fin 5).val<4 then [(1:Fin 5).val+7]else [])at hi
    rw[dB (by decide)]at hi
    obtain rfl:i=8:=List.mem_singleton.1 hi
    obtain⟨o,ho,hd,bj,ab⟩:=st3_o8
    refine⟨⟨⟨sa,sb,sc,sd,2,sf,sh⟩,qa,qg,pb⟩,bn.2.1,bn.2.2,fun rest _ hc =>?_⟩
    refine m_op (v :=.pointer (some ⟨c.tb,0,none⟩)) hO ho (by simp[Region.wanted,bj]) hk (fun w₄ h₄=>⟨by simp[go_sem,execOp,ab,show a'.tmps[30]? = some _ from iy (show 1<=(1:Fin 5).val by decide)],by simp[go_sem,execOp,ab,show a'.tmps[30]? = some _ from iy (show 1<=(1:Fin 5).val by decide)]⟩) ?_
    rw[hd]
    exact hc _ _ _ ⟨⟨bn.1,env,r0,r1,by rw[put_size];exact sz,df,fun j hj=>by rw[<- old j hj];simp only[Act.put];rw[Array.getElem?_setIfInBounds_ne (by omega)],keeps,size,ca,cg,cn,pw,thr,t0.put_ne (by decide),fun h=>(k8 h).put_ne (by decide),fun h=>(j9 h).put_ne (by decide),fun h=>(j8 h).put_ne (by decide),fun h=>(i9 h).put_ne (by decide),fun h=>(i7 h).put_ne (by decide),fun h=>(i6 h).put_ne (by decide),fun h=>(iz h).put_ne (by decide),fun h=>(iy (show 1<=(1:Fin 5).val by decide)).put_ne (by decide),fun _=>TV.put_same (by omega),fun h=>(iv (absurd (show 3<=(2:Fin 5).val from h) (by decide))).put_ne (by decide),fun h=>(iu (absurd (show 4<=(2:Fin 5).val from h) (by decide))).put_ne (by decide),fun h=>(mn h).put_ne (by decide),fun h=>(mj h).put_ne (by decide),fun h=>(ln h).put_ne (by decide),fun h=>(lm h).put_ne (by decide)⟩,yo _ bn.1⟩
   | 2,hi=>
    change i∈(if(2:Fin 5).val<4 then [(2:Fin 5).val+7]else [])at hi
    rw[dB (by decide)]at hi
    obtain rfl:i=9:=List.mem_singleton.1 hi
    obtain⟨o,ho,hd,bj,ab⟩:=st3_o9
    refine⟨⟨⟨sa,sb,sc,sd,3,sf,sh⟩,qa,qg,pb⟩,bn.2.1,bn.2.2,fun rest _ hc =>?_⟩
    refine m_op (v :=.pointer (some ⟨c.tb,6,none⟩)) hO ho (by simp[Region.wanted,bj]) hk (fun w₄ h₄=>⟨by simp[go_sem,execOp,ab,show a'.tmps[31]? = some _ from iw (show 2<=(2:Fin 5).val by decide)],by simp[go_sem,execOp,ab,show a'.tmps[31]? = some _ from iw (show 2<=(2:Fin 5).val by decide)]⟩) ?_
    rw[hd]
    exact hc _ _ _ ⟨⟨bn.1,env,r0,r1,by rw[put_size];exact sz,df,fun j hj=>by rw[<- old j hj];simp only[Act.put];rw[Array.getElem?_setIfInBounds_ne (by omega)],keeps,size,ca,cg,cn,pw,thr,t0.put_ne (by decide),fun h=>(k8 h).put_ne (by decide),fun h=>(j9 h).put_ne (by decide),fun h=>(j8 h).put_ne (by decide),fun h=>(i9 h).put_ne (by decide),fun h=>(i7 h).put_ne (by decide),fun h=>(i6 h).put_ne (by decide),fun h=>(iz h).put_ne (by decide),fun h=>(iy (show 1<=(2:Fin 5).val by decide)).put_ne (by decide),fun h=>(iw (show 2<=(2:Fin 5).val by decide)).put_ne (by decide),fun _=>TV.put_same (by omega),fun h=>(iu (absurd (show 4<=(3:Fin 5).val from h) (by decide))).put_ne (by decide),fun h=>(mn h).put_ne (by decide),fun h=>(mj h).put_ne (by decide),fun h=>(ln h).put_ne (by decide),fun h=>(lm h).put_ne (by decide)⟩,yo _ bn.1⟩
   | 3,hi=>
    change i∈(if(3:Fin 5).val<4 then [(3:Fin 5).val+7]else [])at hi
    rw[dB (by decide)]at hi
    obtain rfl:i=10:=List.mem_singleton.1 hi
    obtain⟨o,ho,hd,bj,ab⟩:=st3_o10
    refine⟨⟨⟨sa,sb,sc,sd,4,sf,sh⟩,qa,qg,pb⟩,bn.2.1,bn.2.2,fun rest _ hc =>?_⟩
    refine m_op (v :=.chan (some c.quit)) hO ho (by simp[Region.wanted,bj]) hk (fun w₄ h₄ =>?_) ?_
    .obtain⟨hc₂,hz⟩:=xy (w:=w₄) (by rw[h₄];exact thr) 6
     simp only[thrC]at hc₂
     exact⟨by simp[go_sem,execOp,ab,show a'.tmps[32]? = some _ from iv (show 3<=(3:Fin 5).val by decide),hc₂,hz],fun ev he=>by
      simp[go_sem,execOp,ab,show a'.tmps[32]? = some _ from iv (show 3<=(3:Fin 5).val by decide),hc₂,hz]at he
      subst he
      exact xl (by rw[h₄];exact(Array.getElem?_eq_some_iff.1 thr).1) (fun e=>by cases e)⟩
    rw[hd]
    exact hc _ _ _ ⟨⟨bn.1,env,r0,r1,by rw[put_size];exact sz,df,fun j hj=>by rw[<- old j hj];simp only[Act.put];rw[Array.getElem?_setIfInBounds_ne (by omega)],keeps,size,ca,cg,cn,pw,thr,t0.put_ne (by decide),fun h=>(k8 h).put_ne (by decide),fun h=>(j9 h).put_ne (by decide),fun h=>(j8 h).put_ne (by decide),fun h=>(i9 h).put_ne (by decide),fun h=>(i7 h).put_ne (by decide),fun h=>(i6 h).put_ne (by decide),fun h=>(iz h).put_ne (by decide),fun h=>(iy (show 1<=(3:Fin 5).val by decide)).put_ne (by decide),fun h=>(iw (show 2<=(3:Fin 5).val by decide)).put_ne (by decide),fun h=>(iv (show 3<=(3:Fin 5).val by decide)).put_ne (by decide),fun _=>TV.put_same (by omega),fun h=>(mn h).put_ne (by decide),fun h=>(mj h).put_ne (by decide),fun h=>(ln h).put_ne (by decide),fun h=>(lm h).put_ne (by decide)⟩,yo _ bn.1⟩
   | 4,hi=>
    change i∈(if(4:Fin 5).val<4 then [(4:Fin 5).val+7]else [])at hi
    rw[dA (by decide)]at hi
    cases hi
  .by_cases hx:sf.val=0/\sb.val=4/\sc=true/\sd=true/\se.val=4
   .rw[dB hx]at hi
    obtain rfl:=List.mem_singleton.1 hi
    obtain⟨x1,x2,rfl,rfl,x3⟩:=hx
    obtain rfl:sf=0:=Fin.ext x1
    obtain rfl:sb=4:=Fin.ext x2
    obtain rfl:se=4:=Fin.ext x3
    obtain⟨o,ho,hd,bj,ab⟩:=st3_o11
    refine⟨⟨⟨sa,4,true,true,4,1,sh⟩,qa,qg,pb⟩,bn.2.1,bn.2.2,fun rest _ hc =>?_⟩
    have H9:a'.tmps[27]? = some _:=i7 (show 4<=(4:Fin 5).val by decide)
    have G9:=(i7 (show 4<=(4:Fin 5).val by decide)).eval
    have H8:a'.tmps[28]? = some _:=i6 rfl
    have G8:=(i6 rfl).eval
    have H7:a'.tmps[29]? = some _:=iz rfl
    have G7:=(iz rfl).eval
    have Dv:a'.tmps[33]? = some _:=iu (show 4<=(4:Fin 5).val by decide)
    have G6:=(iu (show 4<=(4:Fin 5).val by decide)).eval
    refine m_op (v :=.agg (waitsC (mkW c qa qg pb) 0 (.pointer none))) hO ho (by simp[Region.wanted,bj]) hk (fun w₄ h₄=>⟨by simp[go_sem,execOp,ab,H9,H8,H7,Dv,G9,G8,G7,G6,waitsC,mkW],by simp[go_sem,execOp,ab,H9,H8,H7,Dv,G9,G8,G7,G6,waitsC,mkW]⟩) ?_
    rw[hd]
    exact hc _ _ _ ⟨⟨bn.1,env,fun _=>r0 (show(0:Fin 3).val<2 by decide),fun h=>absurd (show(1:Fin 3).val=2 from h) (by decide),by rw[put_size];exact sz,df,fun j hj=>by rw[<- old j hj];simp only[Act.put];rw[Array.getElem?_setIfInBounds_ne (by omega)],keeps,by rw[size];rfl,ca,cg,cn,fun h=>absurd (show(1:Fin 3).val=2 from h) (by decide),thr,t0.put_ne (by decide),fun h=>(k8 h).put_ne (by decide),fun h=>(j9 h).put_ne (by decide),fun h=>(j8 h).put_ne (by decide),fun h=>(i9 h).put_ne (by decide),fun h=>(i7 h).put_ne (by decide),fun h=>(i6 h).put_ne (by decide),fun h=>(iz h).put_ne (by decide),fun h=>(iy h).put_ne (by decide),fun h=>(iw h).put_ne (by decide),fun h=>(iv h).put_ne (by decide),fun h=>(iu h).put_ne (by decide),fun _=>TV.put_same (by omega),fun h=>(mj (absurd (show 2<=(1:Fin 3).val from h) (by decide))).put_ne (by decide),fun h=>(ln h).put_ne (by decide),fun h=>(lm h).put_ne (by decide)⟩,yo _ bn.1⟩
   .rw[dA hx]at hi
    cases hi
  .by_cases hx:sf.val=1
   .rw[dB hx]at hi
    obtain rfl:=List.mem_singleton.1 hi
    obtain rfl:sf=1:=Fin.ext hx
    obtain⟨x2,rfl,rfl,x3⟩:sb=4/\sc=true/\sd=true/\se=4:=by
     simp[S3.ok]at ay
     obtain⟨⟨⟨⟨x2,x4⟩,x5⟩,x3⟩,_⟩:=ay
     exact⟨Fin.ext x2,x4,x5,Fin.ext x3⟩
    have hh:sh.val=0:=by simp[S3.ok]at ay;have:=ay.2;omega
    obtain⟨o,ho,hd,bj,ab⟩:=st3_o12
    refine⟨⟨⟨sa,sb,true,true,se,2,sh⟩,qa,qg,w'.heap.size⟩,bn.2.1,bn.2.2,fun rest _ hc =>?_⟩
    have hR:=r0 (show(1:Fin 3).val<2 by decide)
    subst hR
    have Gs:a'.tmps[34]? = some _:=mn (show 1<=(1:Fin 3).val by decide)
    have Ik:=(mn (show 1<=(1:Fin 3).val by decide)).eval
    refine m_born (c:=mkW c qa qg w'.heap.size) env rfl (nst:=0) (told :=.pointer none) (v :=.pointer (some ⟨w'.heap.size,0,none⟩)) ho (by simp[Region.wanted,bj]) hk (fun d=>⟨by simp[execOp,ab,Gs,Ik,Instr.box,newVar,newRow,waitsC,waitsO,Value.cells,mkW];rfl,by simp[execOp,ab,Instr.box,newVar,newRow]⟩) fun d' hx hE =>?_
    rw[hd]
    have ca:=ca rfl
    have cg:=cg rfl
    have la:=(Array.getElem?_eq_some_iff.1 ca.1).1
    have lg:=(Array.getElem?_eq_some_iff.1 cg.1).1
    exact hc _ _ _ ⟨⟨bn.1,hE,fun h=>absurd (show(2:Fin 3).val<2 from h) (by decide),fun _=>rfl,by rw[put_size];exact sz,df,fun j hj=>by rw[<- old j hj];simp only[Act.put];rw[Array.getElem?_setIfInBounds_ne (by omega)],keeps.trans (S':=fun b=>False) ⟨rfl,rfl,rfl,by rw[World.size_alloc];exact Nat.le_succ _,fun b hb _=>alloc_old (w:=w'.at d') hb⟩ (fun b hb=>hb.elim),by show((w'.at d').alloc _).heap.size=_;rw[World.size_alloc];show w'.heap.size+1=_;rw[size];rfl,fun _=>⟨(alloc_old (w:=w'.at d') la).trans ca.1,ca.2⟩,fun _=>⟨(alloc_old (w:=w'.at d') lg).trans cg.1,cg.2⟩,cn,fun _=>⟨heap_alloc_new _ _,keeps.size,hx,(show w'.heap.size≠qa from Nat.ne_of_gt la),(show w'.heap.size≠qg from Nat.ne_of_gt lg)⟩,by
     rw[alloc_old (w:=w'.at d') (Array.getElem?_eq_some_iff.1 thr).1]
     simp only[hh]at thr |-
     exact thr,t0.put_ne (by decide),fun h=>(k8 h).put_ne (by decide),fun h=>(j9 h).put_ne (by decide),fun h=>(j8 h).put_ne (by decide),fun h=>(i9 h).put_ne (by decide),fun h=>(i7 h).put_ne (by decide),fun h=>(i6 h).put_ne (by decide),fun h=>(iz h).put_ne (by decide),fun h=>(iy h).put_ne (by decide),fun h=>(iw h).put_ne (by decide),fun h=>(iv h).put_ne (by decide),fun h=>(iu h).put_ne (by decide),fun h=>(mn (show 1<=(1:Fin 3).val by decide)).put_ne (by decide),fun _=>TV.put_same (by omega),fun h=>absurd (show 1<=sh.val from h) (by omega),fun h=>absurd (show 2<=sh.val from h) (by omega)⟩,yo _ bn.1⟩
   .rw[dA hx]at hi
    cases hi
  .by_cases hx:sh.val=0/\sa=true/\sf.val=2
   .rw[dB hx]at hi
    obtain rfl:=List.mem_singleton.1 hi
    obtain⟨x1,rfl,x3⟩:=hx
    obtain rfl:sh=0:=Fin.ext x1
    obtain⟨o,ho,hd,bj,ab⟩:=st3_o13
    refine⟨⟨⟨true,sb,sc,sd,se,sf,1⟩,qa,qg,pb⟩,bn.2.1,bn.2.2,fun rest _ hc =>?_⟩
    refine m_op (v :=.pointer (some ⟨c.tb,0,none⟩)) hO ho (by simp[Region.wanted,bj]) hk (fun w₄ h₄=>⟨by simp[go_sem,execOp,ab,show a'.tmps[23]? = some _ from k8 rfl],by simp[go_sem,execOp,ab,show a'.tmps[23]? = some _ from k8 rfl]⟩) ?_
    rw[hd]
    exact hc _ _ _ ⟨⟨bn.1,env,r0,r1,by rw[put_size];exact sz,df,fun j hj=>by rw[<- old j hj];simp only[Act.put];rw[Array.getElem?_setIfInBounds_ne (by omega)],keeps,size,ca,cg,cn,pw,thr,t0.put_ne (by decide),fun h=>(k8 h).put_ne (by decide),fun h=>(j9 h).put_ne (by decide),fun h=>(j8 h).put_ne (by decide),fun h=>(i9 h).put_ne (by decide),fun h=>(i7 h).put_ne (by decide),fun h=>(i6 h).put_ne (by decide),fun h=>(iz h).put_ne (by decide),fun h=>(iy h).put_ne (by decide),fun h=>(iw h).put_ne (by decide),fun h=>(iv h).put_ne (by decide),fun h=>(iu h).put_ne (by decide),fun h=>(mn h).put_ne (by decide),fun h=>(mj h).put_ne (by decide),fun _=>TV.put_same (by omega),fun h=>(lm (absurd (show 2<=(1:Fin 4).val from h) (by decide))).put_ne (by decide)⟩,yo _ bn.1⟩
   .rw[dA hx]at hi
    cases hi
  .by_cases hx:sh.val=1
   .rw[dB hx]at hi
    obtain rfl:=List.mem_singleton.1 hi
    obtain rfl:sh=1:=Fin.ext hx
    obtain⟨o,ho,hd,bj,ab⟩:=st3_o14
    refine⟨⟨⟨sa,sb,sc,sd,se,sf,2⟩,qa,qg,pb⟩,bn.2.1,bn.2.2,fun rest _ hc =>?_⟩
    refine m_op (v :=.pointer (some ⟨c.tb,1,none⟩)) hO ho (by simp[Region.wanted,bj]) hk (fun w₄ h₄=>⟨by simp[go_sem,execOp,ab,show a'.tmps[36]? = some _ from ln (show 1<=(1:Fin 4).val by decide)],by simp[go_sem,execOp,ab,show a'.tmps[36]? = some _ from ln (show 1<=(1:Fin 4).val by decide)]⟩) ?_
    rw[hd]
    exact hc _ _ _ ⟨⟨bn.1,env,r0,r1,by rw[put_size];exact sz,df,fun j hj=>by rw[<- old j hj];simp only[Act.put];rw[Array.getElem?_setIfInBounds_ne (by omega)],keeps,size,ca,cg,cn,pw,thr,t0.put_ne (by decide),fun h=>(k8 h).put_ne (by decide),fun h=>(j9 h).put_ne (by decide),fun h=>(j8 h).put_ne (by decide),fun h=>(i9 h).put_ne (by decide),fun h=>(i7 h).put_ne (by decide),fun h=>(i6 h).put_ne (by decide),fun h=>(iz h).put_ne (by decide),fun h=>(iy h).put_ne (by decide),fun h=>(iw h).put_ne (by decide),fun h=>(iv h).put_ne (by decide),fun h=>(iu h).put_ne (by decide),fun h=>(mn h).put_ne (by decide),fun h=>(mj h).put_ne (by decide),fun h=>(ln (show 1<=(1:Fin 4).val by decide)).put_ne (by decide),fun _=>TV.put_same (by omega)⟩,yo _ bn.1⟩
   .rw[dA hx]at hi
    cases hi
  .by_cases hx:sh.val=2
   .rw[dB hx]at hi
    obtain rfl:=List.mem_singleton.1 hi
    obtain rfl:sh=2:=Fin.ext hx
    obtain⟨rfl,x2,x3,rfl,rfl,x4⟩:sa=true/\sf=2/\sb=4/\sc=true/\sd=true/\se=4:=by
     simp[S3.ok]at ay
     obtain⟨y1,y2,y3⟩:=ay
     have y1:=y1.resolve_left (by omega)
     obtain⟨⟨⟨x2,x4⟩,x5⟩,x3⟩:=y1
     exact⟨y2,Fin.ext y3,Fin.ext x2,x4,x5,Fin.ext x3⟩
    subst x2 x3 x4
    obtain⟨o,ho,hd,bj,ab⟩:=st3_o15
    refine⟨⟨⟨true,4,true,true,4,2,3⟩,qa,qg,pb⟩,bn.2.1,bn.2.2,fun rest _ hc =>?_⟩
    have hR:=r1 rfl
    subst hR
    have pw:=pw rfl
    have hFb:Free (R.born (mkW c qa qg pb)) c.tb:=Free.born E hF (Nat.ne_of_lt (Nat.lt_of_lt_of_le (Array.getElem?_eq_some_iff.1 hT).1 pw.2.1)) pw.2.2.1.ch
    have H5:a'.tmps[37]? = some _:=lm (show 2<=(2:Fin 4).val by decide)
    have G4:=(lm (show 2<=(2:Fin 4).val by decide)).eval
    have H6:a'.tmps[35]? = some _:=mj (show 2<=(2:Fin 3).val by decide)
    have G5:=(mj (show 2<=(2:Fin 3).val by decide)).eval
    refine wj hO ho (by simp[Region.wanted,bj]) hk fun hl d' am =>?_
    obtain⟨hc₂,hz⟩:=xy (w:=w'.at d') thr 1
    simp only[thrC]at hc₂
    obtain⟨p1,p2,p3⟩:=xiw (v:=ptrN pb) (w:=w'.at d') thr
    have hK:Keeps (fun b=>b=c.tb) (w'.at d') ((w'.at d').setCell ⟨c.tb,1,none⟩ (ptrN pb)):=⟨rfl,rfl,rfl,Nat.le_of_eq p3.symm,fun b _ hn=>p2 b hn⟩
    refine⟨(w'.at d').setCell ⟨c.tb,1,none⟩ (ptrN pb),by simp[go_sem,execOp,ab,H5,H6,G4,G5,hc₂,hz,ptrN],hFb.keeps hK am,fun i s c' hi ah=>hFb.seats (w:=w'.at d') hl hK i s c' hi ah,Nat.le_of_eq p3.symm,fun ev he=>by
     simp[go_sem,execOp,ab,H5,H6,G4,G5,hc₂,hz,storedEv,yP,yq]at he
     subst he
     exact xl (by rw[p3];exact(Array.getElem?_eq_some_iff.1 thr).1) fun _=>hFb.st _,?_⟩
    rw[hd]
    have ca:=ca rfl
    have cg:=cg rfl
    have ltb:=(Array.getElem?_eq_some_iff.1 hT).1
    exact hc _ _ _ ⟨⟨bn.1,env,fun h=>absurd (show(2:Fin 3).val<2 from h) (by decide),fun _=>rfl,sz,df,old,keeps.trans (S':=fun b=>b=c.tb) ⟨rfl,rfl,rfl,hK.size,hK.block⟩ fun b hb =>.inl hb,p3.trans size,fun _=>⟨(p2 qa (Nat.ne_of_gt (Nat.lt_of_lt_of_le ltb ca.2.1))).trans ca.1,ca.2⟩,fun _=>⟨(p2 qg (Nat.ne_of_gt (Nat.lt_of_lt_of_le ltb cg.2.1))).trans cg.1,cg.2⟩,cn,fun _=>⟨(p2 pb (Nat.ne_of_gt (Nat.lt_of_lt_of_le ltb pw.2.1))).trans pw.1,pw.2⟩,p1,t0,fun h=>k8 h,fun h=>j9 h,fun h=>j8 h,fun h=>i9 h,fun h=>i7 h,fun h=>i6 h,fun h=>iz h,fun h=>iy h,fun h=>iw h,fun h=>iv h,fun h=>iu h,fun h=>mn h,fun h=>mj h,fun h=>ln (show 1<=(2:Fin 4).val by decide),fun h=>lm (show 2<=(2:Fin 4).val by decide)⟩,yo _ bn.1⟩
   .rw[dA hx]at hi
    cases hi
end Go.Proofs.YtfagfflkgmcnpaaGreatDoor.Mx
namespace Go.Proofs.YtfagfflkgmcnpaaGreatDoor.Mx
open Go Go.Conc Lx Kx Tx
open Go.ConcN (sumTo upd sumTo_upd upd_ne upd_same)
def resK:List IntKind :=[.i64,.i64,.u8,.u64,.u64,.u64,.u64,.u64,.i64,.i64,.i64]
def resV(l:List Int):List Value:=List.zipWith Value.int resK l
def resC(l:List Int):List C:=List.zipWith C.int resK l
structure Th where
 self:Int
 begun:Bool
 busy:Bool
 closed:Bool
 told:Option (List C)
 orc:List Tx.Ask
 rv:List Int
 tf:Option (List C)
 r0:List Int
 cap:Nat
structure Gh where
 c:WC
 p:Nat
 j:Nat
 g₃:Goroutine
 s:WS
 F:Fo
 ws:World
instance:Inhabited Gh:=⟨⟨⟨0,0,0,0,0,0,0,0,0,0,[]⟩,0,0,default,⟨0,none,[]⟩,⟨fun _=>False,⟨fun _=>none,fun _=>none⟩⟩,default⟩⟩
def ptr0(x:Nat):Value :=.pointer (some ⟨x,0,none⟩)
def accO(e:Tx.Ask):Obj :=.cells #[.int .u8 e.k,.int .i64 e.at_,.int .u64 e.a,.int .u64 e.b] 143 (0,0)
def ToldM(kd:Nat->Option (Nat×Nat))(p:Nat)(w:World)(told:Value):Option (List C)->Prop
 | none=>told = .pointer none
 | some r =>∃x vs,told=ptr0 x/\kd x=some (p,8)/\denL undef [] r=some vs/\w.heap[x]? = some (.cells vs.toArray 54 (0,0))
abbrev Kd:=Nat->Option (Nat×Nat)
structure LkO(kd:Kd)(w:World)(i:Nat)(t:Th)(g:Gh)(port done pend:Value):Prop where
 at_:w.heap[g.c.tb]? = some (thrO g.c.self port done pend t.busy t.closed g.c.quit)
 prt:t.begun=true->port=ptr0 g.c.pb/\done = .chan (some g.c.done)
 nop:t.begun=false->port = .pointer none
 pnd:t.busy=false->pend = .pointer none
 asks:t.busy=true ->∃px e L,t.orc=e::L/\pend=ptr0 px/\kd px=some (g.p,8)/\w.heap[px]? = some (accO e)
structure LkP(kd:Kd)(ps:List WC)(w:World)(t:Th)(g:Gh):Prop where
 pp:ps[g.p]? = some g.c
 kdn:kd g.c.done=some (g.p,5)
 od:OpenC g.c.done 1 w
 obj:t.closed=false ->∃n told,w.heap[g.c.pb]? = some (waitsO g.c n told)/\ToldM kd g.p w told t.told/\(t.busy=true->n=g.s.steps/\ ∀x,told=ptr0 x->(x<g.ws.heap.size->g.F x)/\g.F.A.cap x=none)
structure LkB(kd:Kd)(F:Fo)(R:Rg)(n:Nat)(w:World)(t:Th)(g:Gh):Prop where
 bg:t.begun=true
 nc:t.closed=false
 ka:kd g.c.ask=some (g.p,3)
 kg:kd g.c.grant=some (g.p,4)
 kwc:kd g.c.wc=some (g.p,6)
 kdb:kd g.c.db=some (g.p,8)
 oa:OpenC g.c.ask 0 w
 gr:CapIs g.c.grant 0 w
 cap:w.heap[g.c.wc]? = some (capO g.c)
 dn:w.heap[g.c.db]? = some (dnO g.c)
 wbl:g.c.wb<w.heap.size
 tk:F.A.cap t.cap=some g.c.wb
 seat:R.Inb g.j=some (seatW g.c (· = g.g₃))
 mem:R.Mem g.j
 j0:0<g.j
 jn:g.j<n
 r0:g.c.r0=resV t.r0
 told:t.told=g.s.told
 now : ∃e L g₂ g',t.orc=e::L/\AskNow g.c (resV t.rv) t.tf g.s g.F e L g₂ g.g₃ g' g.ws
 orc:g.s.orc=t.orc
 kp:Keeps g.F g.ws w
 priv : ∀b,b<g.ws.heap.size ->¬g.F b->kd b=some (g.p,8)
structure LkT(kd:Kd)(ps:List WC)(F:Fo)(R:Rg)(n:Nat)(w:World)(i:Nat)(t:Th)(g:Gh):Prop where
 kt:kd g.c.tb=some (i,0)
 kq:kd g.c.quit=some (i,1)
 self:g.c.self=t.self
 tok:F.A.tok i=some g.c.tb
 thr : ∃port done pend,LkO kd w i t g port done pend
 quit:t.closed=false ->∃k,w.heap[g.c.quit]? = some (.chan 0 #[] false k k false)
 port:t.begun=true->LkP kd ps w t g
 body:t.busy=true->LkB kd F R n w t g
structure Lk(ts:List Th)(gs:List Gh)(ps:List WC)(kd:Kd)(nc:Nat)(F:Fo)(R:Rg)(n:Nat)(w:World):Prop where
 env:Env R
 n0:0<n
 lt : ∀b,F b->b<w.heap.size
 has : ∀b,F b ↔ ∃x,kd b=some x
 K : ∀w,R.K w ↔ ∀c∈ps,StillAt c w
 now : ∀c∈ps,StillAt c w
 St : ∀l,R.Still l ↔ ∃c∈ps,∃k,3<=k/\l = .cell ⟨c.pb,k,none⟩
 pk : ∀p c,ps[p]? = some c->kd c.pb=some (p,2)
 len:gs.length=ts.length
 inb : ∀x s,R.Inb x=some s ->∃ (i:Nat) (t:Th) (g:Gh),ts[i]? = some t/\gs[i]? = some g/\t.busy=true/\x=g.j/\s=seatW g.c (· = g.g₃)
 jinj : ∀ (i i':Nat) (t t':Th) (g g':Gh),ts[i]? = some t->ts[i']? = some t'->gs[i]? = some g->gs[i']? = some g'->t.busy=true->t'.busy=true->g.j=g'.j->i=i'
 pinj : ∀ (i i':Nat) (t t':Th) (g g':Gh),ts[i]? = some t->ts[i']? = some t'->gs[i]? = some g->gs[i']? = some g'->t.begun=true->t'.begun=true->g.p=g'.p->i=i'
 th : ∀ (i:Nat) (t:Th) (g:Gh),ts[i]? = some t->gs[i]? = some g->LkT kd ps F R n w i t g
 tokN : ∀i,ts.length<=i->F.A.tok i=none
 capN : ∀m,nc<=m->F.A.cap m=none
def Mine(kd:Kd)(i:Nat)(t:Th)(g:Gh)(b:Nat):Prop:=kd b=some (i,0)\/kd b=some (i,1)\/(t.begun=true/\ ∃r,2<=r/\kd b=some (g.p,r))
variable{kd kd':Kd}{ps ps':List WC}{F F':Fo}{R R':Rg}{n n':Nat}{w w':World}{i:Nat}{t:Th}{g:Gh}{S:Nat->Prop}
theorem OpenC.same{x cap:Nat}(h:OpenC x cap w)(hs:w'.heap[x]? = w.heap[x]?):OpenC x cap w':=by
 obtain⟨k,e⟩:=h
 exact⟨k,hs.trans e⟩
theorem _root_.Go.Proofs.YtfagfflkgmcnpaaGreatDoor.Tx.CapIs.same{x n:Nat}(h:CapIs x n w)(hs:w'.heap[x]? = w.heap[x]?):CapIs x n w':=by
 obtain⟨a,b,c,d,e,h⟩:=h
 exact⟨a,b,c,d,e,hs.trans h⟩
theorem _root_.Go.Proofs.YtfagfflkgmcnpaaGreatDoor.Tx.StillAt.same{c:WC}(h:StillAt c w)(hs:w'.heap[c.pb]? = w.heap[c.pb]?):StillAt c w':=by
 obtain⟨n,told,h⟩:=h
 exact⟨n,told,hs.trans h⟩
theorem _root_.Go.Proofs.YtfagfflkgmcnpaaGreatDoor.Tx.StillAt.lt{c:WC}(h:StillAt c w):c.pb<w.heap.size:=by
 obtain⟨n,told,h⟩:=h
 exact(Array.getElem?_eq_some_iff.1 h).1
theorem ToldM.same{p:Nat}{v:Value}{o:Option (List C)}(h:ToldM kd p w v o)(hk : ∀b x,kd b=some x->kd' b=some x)(hs : ∀b,kd b=some (p,8)->b<w.heap.size->w'.heap[b]? = w.heap[b]?):ToldM kd' p w' v o:=by
 cases o with
 | none=>exact h
 | some r=>
  obtain⟨x,vs,h1,h2,h3,h4⟩:=h
  exact⟨x,vs,h1,hk _ _ h2,h3,(hs x h2 (Array.getElem?_eq_some_iff.1 h4).1).trans h4⟩
theorem LkT.same(h:LkT kd ps F R n w i t g)(ai:w.heap.size<=w'.heap.size)(hk : ∀b x,kd b=some x->kd' b=some x)(hA:F.A.le F'.A)(lr : ∀ (p:Nat) (c:WC),ps[p]? = some c->ps'[p]? = some c)
  (hS:Keeps S w w') (hM : ∀b,Mine kd i t g b ->¬S b) (hR:t.busy=true->R'.Inb g.j=R.Inb g.j/\(R.Mem g.j->R'.Mem g.j)) (hn:n<=n') (Bw:t.begun=true->kd g.c.pb=some (g.p,2)):LkT kd' ps' F' R' n' w' i t g:=by
 have sm : ∀b o,Mine kd i t g b->w.heap[b]? = some o->w'.heap[b]? = w.heap[b]? :=fun b o hb ho=>hS.block b (Array.getElem?_eq_some_iff.1 ho).1 (hM b hb)
 have sr : ∀b r,t.begun=true->2<=r->kd b=some (g.p,r)->b<w.heap.size->w'.heap[b]? = w.heap[b]? :=fun b r h1 h2 h3 h4=>hS.block b h4 (hM b (.inr (.inr ⟨h1,r,h2,h3⟩)))
 have bb:t.busy=true->t.begun=true:=fun hb=>(h.body hb).bg
 refine⟨hk _ _ h.kt,hk _ _ h.kq,h.self,hA.tok _ _ h.tok,?_,fun hc =>?_,fun hb =>?_,fun hb =>?_⟩
 .obtain⟨port,done,pend,a,b,c,d,e⟩:=h.thr
  refine⟨port,done,pend,(sm _ _ (.inl h.kt) a).trans a,b,c,d,fun hb =>?_⟩
  obtain⟨px,e',L,h1,h2,h3,h4⟩:=e hb
  exact⟨px,e',L,h1,h2,hk _ _ h3,(sr _ _ (bb hb) (by omega) h3 (Array.getElem?_eq_some_iff.1 h4).1).trans h4⟩
 .obtain⟨k,e⟩:=h.quit hc
  exact⟨k,(sm _ _ (.inr (.inl h.kq)) e).trans e⟩
 .obtain⟨a,b,c,d⟩:=h.port hb
  refine⟨lr _ _ a,hk _ _ b,c.same ?_,fun hc =>?_⟩
  .obtain⟨k,e⟩:=c
   exact sr _ _ hb (by omega) b (Array.getElem?_eq_some_iff.1 e).1
  .obtain⟨m,told,h1,h2,h3⟩:=d hc
   exact⟨m,told,(sr _ _ hb (by omega) (Bw hb) (Array.getElem?_eq_some_iff.1 h1).1).trans h1,h2.same hk fun b du hl=>sr _ _ hb (by omega) du hl,h3⟩
 .have B:=h.body hb
  have su:=bb hb
  have l1 : ∀x cap,OpenC x cap w->x<w.heap.size:=fun x cap ⟨k,e⟩=>(Array.getElem?_eq_some_iff.1 e).1
  have l2 : ∀x cap,CapIs x cap w->x<w.heap.size:=fun x cap ⟨a,b,c,d,e,h⟩=>(Array.getElem?_eq_some_iff.1 h).1
  exact {
      bg:=B.bg,nc:=B.nc,ka:=hk _ _ B.ka,kg:=hk _ _ B.kg,kwc:=hk _ _ B.kwc,kdb:=hk _ _ B.kdb,
      oa:=B.oa.same (sr _ _ su (by omega) B.ka (l1 _ _ B.oa)),gr:=B.gr.same (sr _ _ su (by omega) B.kg (l2 _ _ B.gr)),
      cap:=(sr _ _ su (by omega) B.kwc (Array.getElem?_eq_some_iff.1 B.cap).1).trans B.cap,dn:=(sr _ _ su (by omega) B.kdb (Array.getElem?_eq_some_iff.1 B.dn).1).trans B.dn,
      wbl:=Nat.lt_of_lt_of_le B.wbl ai,tk:=hA.cap _ _ B.tk,seat:=(hR hb).1.trans B.seat,mem:=(hR hb).2 B.mem,j0:=B.j0,jn:=Nat.lt_of_lt_of_le B.jn hn,
      r0:=B.r0,told:=B.told,now:=B.now,orc:=B.orc,
      kp:=by
       refine⟨hS.os.trans B.kp.os,hS.tape.trans B.kp.tape,hS.output.trans B.kp.output,Nat.le_trans B.kp.size ai,fun b fm eb =>?_⟩
       rw[sr b 8 su (by omega) (B.priv b fm eb) (Nat.lt_of_lt_of_le fm B.kp.size)]
       exact B.kp.block b fm eb
      priv:=fun b h1 h2=>hk _ _ (B.priv b h1 h2)}
theorem Lk.same{ts:List Th}{gs:List Gh}{nc:Nat}(L:Lk ts gs ps kd nc F R n w)(hS:Keeps (fun b=> ¬F b) w w'):Lk ts gs ps kd nc F R n w':=by
 have hb : ∀b x,kd b=some x->F b:=fun b x h=>(L.has b).2 ⟨x,h⟩
 refine {L with lt:=fun b h=>Nat.lt_of_lt_of_le (L.lt b h) hS.size,now:=fun c hc =>?_,th:=fun i t g h1 h2 =>?_}
 .obtain⟨p,hp⟩:=List.getElem?_of_mem hc
  have h:=L.now c hc
  exact Tx.StillAt.same h (hS.block _ (Tx.StillAt.lt h) fun x=>x (hb _ _ (L.pk p c hp)))
 .refine(L.th i t g h1 h2).same hS.size (fun b x h=>h) (Toks.le.refl _) (fun p c h=>h) hS (fun b hm x =>?_) (fun _=>⟨rfl,id⟩) (dJ _) fun su =>?_
  .rcases hm with h|h|⟨_,r,_,h⟩<;>exact x (hb _ _ h)
  .exact L.pk _ _ ((L.th i t g h1 h2).port su).pp
theorem Lk.at_{ts:List Th}{gs:List Gh}{nc d:Nat}(L:Lk ts gs ps kd nc F R n w):Lk ts gs ps kd nc F R n (w.at d):=L.same ⟨rfl,rfl,rfl,dJ _,fun _ _ _=>rfl⟩
theorem Lk.of_at{ts:List Th}{gs:List Gh}{nc d:Nat}(L:Lk ts gs ps kd nc F R n (w.at d)):Lk ts gs ps kd nc F R n w:=L.same (w:=w.at d) ⟨rfl,rfl,rfl,dJ _,fun _ _ _=>rfl⟩
theorem Mine.off{ts:List Th}{gs:List Gh}{nc:Nat}(L:Lk ts gs ps kd nc F R n w){k:Nat}{tk:Th}{gk:Gh}(hi:ts[i]? = some t)(hg:gs[i]? = some g)(hk:ts[k]? = some tk)(J8:gs[k]? = some gk)(ae:k≠i){b:Nat}(h:Mine kd k tk gk b) : ¬Mine kd i t g b:=fun h'=>by
 rcases h with h|h|⟨hb,r,hr,h⟩<;>rcases h' with h'|h'|⟨du,r',ct,h'⟩<;>rw[h]at h'<;>simp only[oI,dI]at h'
 .exact ae h'.1
 .omega
 .omega
 .omega
 .exact ae h'.1
 .omega
 .omega
 .omega
 .exact ae (L.pinj k i tk t gk g hk hi J8 hg hb du h'.1)
theorem Lk.mineF{ts:List Th}{gs:List Gh}{nc:Nat}(L:Lk ts gs ps kd nc F R n w){b:Nat}(h:Mine kd i t g b) : ∃x,kd b=some x:=by
 rcases h with h|h|⟨_,r,_,h⟩<;>exact⟨_,h⟩
theorem Lk.put{ts:List Th}{gs:List Gh}{nc nc':Nat}(L:Lk ts gs ps kd nc F R n w)(hi:ts[i]? = some t)(hg:gs[i]? = some g){t':Th}{g':Gh}
  (hE:Env R') (hn:n<=n') (hS:Keeps S w w') (ao : ∀b,F' b->b<w'.heap.size) (has : ∀b,F' b ↔ ∃x,kd' b=some x) (hk : ∀b x,kd b=some x->kd' b=some x) (hA:F.A.le F'.A)
  (lr : ∀ (p:Nat) (c:WC),ps[p]? = some c->ps'[p]? = some c) (hK : ∀w,R'.K w ↔ ∀c∈ps',StillAt c w) (tr : ∀c∈ps',StillAt c w') (hSt : ∀l,R'.Still l ↔ ∃c∈ps',∃k,3<=k/\l = .cell ⟨c.pb,k,none⟩) (Bw : ∀ (p:Nat) (c:WC),ps'[p]? = some c->kd' c.pb=some (p,2))
  (hM : ∀b,S b->b<w.heap.size->kd b=none\/Mine kd i t g b) (hR : ∀x,(t.busy=true->x≠g.j)->(∃s,R.Inb x=some s)->R'.Inb x=R.Inb x/\(R.Mem x->R'.Mem x))
  (A9 : ∀x s,R'.Inb x=some s->(t'.busy=true/\x=g'.j/\s=seatW g'.c (· = g'.g₃))\/(R.Inb x=some s/\(t.busy=true->x≠g.j)))
  (hj:t'.busy=true ->∀ (k:Nat) (tk:Th) (gk:Gh),k≠i->ts[k]? = some tk->gs[k]? = some gk->tk.busy=true->g'.j≠gk.j) (hp:t'.begun=true ->∀ (k:Nat) (tk:Th) (gk:Gh),k≠i->ts[k]? = some tk->gs[k]? = some gk->tk.begun=true->g'.p≠gk.p)
  (hT:LkT kd' ps' F' R' n' w' i t' g') (hN : ∀i,ts.length<=i->F'.A.tok i=none) (hC : ∀m,nc'<=m->F'.A.cap m=none):Lk (ts.set i t') (gs.set i g') ps' kd' nc' F' R' n' w':=by
 have um:i<ts.length:=(List.getElem?_eq_some_iff.1 hi).1
 have C5:i<gs.length:=(List.getElem?_eq_some_iff.1 hg).1
 have ts_at : ∀k x,(ts.set i t')[k]? = some x->(k=i/\x=t')\/(k≠i/\ts[k]? = some x):=fun k x h=>by
  by_cases e:k=i
  .subst e;rw[List.getElem?_set_self um]at h;exact .inl ⟨rfl,(Option.some.inj h).symm⟩
  .rw[List.getElem?_set_ne (Ne.symm e)]at h;exact .inr ⟨e,h⟩
 have gs_at : ∀k x,(gs.set i g')[k]? = some x->(k=i/\x=g')\/(k≠i/\gs[k]? = some x):=fun k x h=>by
  by_cases e:k=i
  .subst e;rw[List.getElem?_set_self C5]at h;exact .inl ⟨rfl,(Option.some.inj h).symm⟩
  .rw[List.getElem?_set_ne (Ne.symm e)]at h;exact .inr ⟨e,h⟩
 have off : ∀ (k:Nat) (tk:Th) (gk:Gh),k≠i->ts[k]? = some tk->gs[k]? = some gk->LkT kd' ps' F' R' n' w' k tk gk:=fun k tk gk ae h1 h2=>by
  have T:=L.th k tk gk h1 h2
  refine T.same (S:=fun b=>S b/\b<w.heap.size) hS.size hk hA lr ⟨hS.os,hS.tape,hS.output,hS.size,fun b hb hx=>hS.block b hb fun y=>hx ⟨y,hb⟩⟩ (fun b hm hs =>?_) (fun hb =>?_) hn fun hb=>L.pk _ _ (T.port hb).pp
  .rcases hM b hs.1 hs.2 with e|e
   .obtain⟨x,hx⟩:=L.mineF hm
    rw[e]at hx
    cases hx
   .exact Mine.off L hi hg h1 h2 ae hm e
  .exact hR _ (fun du e=>ae (L.jinj k i tk t gk g h1 hi h2 hg hb du e)) ⟨_,(T.body hb).seat⟩
 refine⟨hE,Nat.lt_of_lt_of_le L.n0 hn,ao,has,hK,tr,hSt,Bw,by simp[L.len],fun x s hx =>?_,fun a b ta tb ga gb h1 h2 h3 h4 h5 h6 h7 =>?_,fun a b ta tb ga gb h1 h2 h3 h4 h5 h6 h7 =>?_,fun k tk gk h1 h2 =>?_,fun k hk=>hN k (by simpa using hk),hC⟩
 .rcases A9 x s hx with⟨h1,h2,h3⟩|⟨h1,h2⟩
  .exact⟨i,t',g',List.getElem?_set_self um,List.getElem?_set_self C5,h1,h2,h3⟩
  .obtain⟨k,tk,gk,a,b,c,d,e⟩:=L.inb x s h1
   have ae:k≠i:=fun e'=>by
    subst e'
    rw[hi]at a;rw[hg]at b
    cases a;cases b
    exact h2 c d
   exact⟨k,tk,gk,by rw[List.getElem?_set_ne (Ne.symm ae)];exact a,by rw[List.getElem?_set_ne (Ne.symm ae)];exact b,c,d,e⟩
 .rcases ts_at _ _ h1 with⟨e1,e2⟩|⟨e1,e2⟩<;>rcases ts_at _ _ h2 with⟨e3,e4⟩|⟨e3,e4⟩<;>rcases gs_at _ _ h3 with⟨e5,e6⟩|⟨e5,e6⟩<;>rcases gs_at _ _ h4 with⟨e7,e8⟩|⟨e7,e8⟩
  all_goals first
   | exact e1.trans e3.symm
   | exact absurd e1 e5
   | exact absurd e5 e1
   | exact absurd e3 e7
   | exact absurd e7 e3
   | (subst e2 e6;exact absurd h7 (hj h5 b tb gb e3 e4 e8 h6))
   | (subst e4 e8;exact absurd h7.symm (hj h6 a ta ga e1 e2 e6 h5))
   | exact L.jinj a b ta tb ga gb e2 e4 e6 e8 h5 h6 h7
 .rcases ts_at _ _ h1 with⟨e1,e2⟩|⟨e1,e2⟩<;>rcases ts_at _ _ h2 with⟨e3,e4⟩|⟨e3,e4⟩<;>rcases gs_at _ _ h3 with⟨e5,e6⟩|⟨e5,e6⟩<;>rcases gs_at _ _ h4 with⟨e7,e8⟩|⟨e7,e8⟩
  all_goals first
   | exact e1.trans e3.symm
   | exact absurd e1 e5
   | exact absurd e5 e1
   | exact absurd e3 e7
   | exact absurd e7 e3
   | (subst e2 e6;exact absurd h7 (hp h5 b tb gb e3 e4 e8 h6))
   | (subst e4 e8;exact absurd h7.symm (hp h6 a ta ga e1 e2 e6 h5))
   | exact L.pinj a b ta tb ga gb e2 e4 e6 e8 h5 h6 h7
 .rcases ts_at _ _ h1 with⟨e1,e2⟩|⟨e1,e2⟩<;>rcases gs_at _ _ h2 with⟨e5,e6⟩|⟨e5,e6⟩
  .subst e1 e2 e6;exact hT
  .exact absurd e1 e5
  .exact absurd e5 e1
  .exact off k tk gk e1 e2 e6
end Go.Proofs.YtfagfflkgmcnpaaGreatDoor.Mx
namespace Go.Proofs.YtfagfflkgmcnpaaGreatDoor.Mx
open Go Go.Conc Lx Kx Tx
open Go.ConcN (sumTo upd sumTo_upd upd_ne upd_same)
structure Plan where
 orc:List Tx.Ask
 rv:List Int
 tf:Option (List C)
structure MS where
 ths:List Th
 plans:List Plan
 nc:Nat
def Th.new(self:Int):Th:=⟨self,false,false,false,none,[],[],none,[],0⟩
structure RepM(s:MS)(F:Fo)(w:World):Prop where
 lt : ∀b,F b->b<w.heap.size
 tok : ∀i,s.ths.length<=i->F.A.tok i=none
 cap : ∀m,s.nc<=m->F.A.cap m=none
structure After(s':MS)(F:Fo)(w:World)(F':Fo)(w':World)(N S:Nat->Prop):Prop where
 rep:RepM s' F' w'
 sub : ∀b,F b->F' b
 new : ∀b,F' b->F b\/N b\/w.heap.size<=b
 keeps:Keeps (fun b=>F b\/S b) w w'
 le:F.A.le F'.A
def zero4:Value :=.agg #[.int .u8 0,.int .i64 0,.int .u64 0,.int .u64 0]
def xiz:Value :=.agg #[.int .i64 0,.int .i64 0,.int .u8 0,.int .u64 0,.int .u64 0,.int .u64 0,.int .u64 0,.int .u64 0,.int .i64 0,.int .i64 0,.int .i64 0]
def vP(pre:List Value)(r:List Int):Obj :=.cells (pre++resV r).toArray 78 (0,0)
def Th.went(t:Th)(L:List Tx.Ask):Th:=match L with
 | [] =>{t with busy:=false,told:=t.tf,orc :=[]}
 | e::L' =>{t with told:=e.told,orc:=e::L'}
def Th.res(t:Th)(L:List Tx.Ask):List Int:=match L with
 | []=>t.rv
 | _::_=>t.r0
def Th.start(t:Th)(p:Plan)(r0:List Int)(nc:Nat):Th:=Th.went {t with begun:=true,busy:=true,rv:=p.rv,tf:=p.tf,r0:=r0,cap:=nc} p.orc
def xaD(self:Int)(gv cv:Value)(p:Plan):Prop:=p.rv.length=11/\ ∀c:WC,c.self=self ->∃s1:WS,s1.orc = []/\s1.told=p.tf/\ ∀F₁ w₁,RepW c ⟨0,none,p.orc⟩ F₁ w₁->
 KCalls (JW c) 48 #[pvW c,gv,cv] ⟨0,none,p.orc⟩ F₁ w₁ s1 fun r F' w'=>r = .agg (resV p.rv).toArray/\RepW c s1 F' w'
def cloB(mc cc wc:Nat):Value :=.func (.func 47) #[] #[ptr0 mc,ptr0 cc,ptr0 wc]
abbrev PostT:=Value->Fo->World->Prop
inductive PrimM:FuncId->MS->Fo->World->Array Value->MS->PostT->Prop
 | new {s F w} {self:Int} (hR:RepM s F w):PrimM 26 s F w #[.int .i64 self] ⟨s.ths ++ [Th.new self],s.plans,s.nc⟩ fun rv F' w' =>∃tb,rv=ptr0 tb/\F'.A.tok s.ths.length=some tb/\After ⟨s.ths ++ [Th.new self],s.plans,s.nc⟩ F w F' w' (fun _=>False) (fun _=>False)
 | busy {s F w i t tb} (hR:RepM s F w) (ht:s.ths[i]? = some t) (hk:F.A.tok i=some tb):PrimM 31 s F w #[ptr0 tb] s fun rv F' w'=>rv = .bool t.busy/\After s F w F' w' (fun _=>False) (fun _=>False)
 | pendN {s F w i t tb} (hR:RepM s F w) (ht:s.ths[i]? = some t) (hk:F.A.tok i=some tb) (hb:t.busy=false):PrimM 74 s F w #[ptr0 tb] s fun rv F' w'=>rv = .tuple #[zero4,.bool false]/\After s F w F' w' (fun _=>False) (fun _=>False)
 | pendS {s F w i t tb e L} (hR:RepM s F w) (ht:s.ths[i]? = some t) (hk:F.A.tok i=some tb) (hb:t.busy=true) (ho:t.orc=e::L):PrimM 74 s F w #[ptr0 tb] s fun rv F' w'=>rv = .tuple #[accV e.k e.at_ e.a e.b,.bool true]/\After s F w F' w' (fun _=>False) (fun _=>False)
 | toldN {s F w i t tb} (hR:RepM s F w) (ht:s.ths[i]? = some t) (hk:F.A.tok i=some tb) (hb:t.begun=true) (hc:t.closed=false) (ho:t.told=none):PrimM 116 s F w #[ptr0 tb] s fun rv F' w'=>rv = .tuple #[xiz,.bool false]/\After s F w F' w' (fun _=>False) (fun _=>False)
 | toldS {s F w i t tb l} (hR:RepM s F w) (ht:s.ths[i]? = some t) (hk:F.A.tok i=some tb) (hb:t.begun=true) (hc:t.closed=false) (ho:t.told=some (resC l)) (hl:l.length=11):PrimM 116 s F w #[ptr0 tb] s fun rv F' w'=>rv = .tuple #[.agg (resV l).toArray,.bool true]/\After s F w F' w' (fun _=>False) (fun _=>False)
 | close {s F w i t tb wb pre} (hR:RepM s F w) (ht:s.ths[i]? = some t) (hk:F.A.tok i=some tb) (hw:t.busy=true->F.A.cap t.cap=some wb/\ ¬F wb/\pre.length=3/\t.r0.length=11/\w.heap[wb]? = some (vP pre t.r0)) :
   PrimM 32 s F w #[ptr0 tb] ⟨s.ths.set i {t with busy:=false,closed:=true,orc :=[]},s.plans,s.nc⟩ fun rv F' w'=>rv = .tuple #[]/\After ⟨s.ths.set i {t with busy:=false,closed:=true,orc :=[]},s.plans,s.nc⟩ F w F' w' (fun _=>False) (fun _=>False)
 | grant {s F w i t tb wb pre e L} {v:Int} (hR:RepM s F w) (ht:s.ths[i]? = some t) (hk:F.A.tok i=some tb) (hb:t.busy=true) (ho:t.orc=e::L) (hv:e.v=v) (hw:F.A.cap t.cap=some wb/\ ¬F wb/\pre.length=3/\t.r0.length=11/\w.heap[wb]? = some (vP pre t.r0)) :
   PrimM 76 s F w #[ptr0 tb,.int .u64 v] ⟨s.ths.set i (t.went L),s.plans,s.nc⟩ fun rv F' w'=>rv = .bool true/\w'.heap[wb]? = some (vP pre (t.res L))/\After ⟨s.ths.set i (t.went L),s.plans,s.nc⟩ F w F' w' (fun _=>False) (fun b=>b=wb)
 | start {s F w i t tb wb mb mc cc wc pre p ps gv cv r0} (hR:RepM s F w) (ht:s.ths[i]? = some t) (hk:F.A.tok i=some tb) (hb:t.busy=false) (hc:t.closed=false) (hp:s.plans=p::ps) (hV:xaD t.self gv cv p)
   (hF : ¬F mc/\ ¬F cc/\ ¬F wc/\ ¬F wb/\ ¬F mb) (ae:mc≠wb/\cc≠wb/\wc≠wb/\mb≠wb/\mc≠cc/\mc≠wc/\cc≠wc) (hl:pre.length=3/\r0.length=11) (dh:w.heap[wb]? = some (vP pre r0)) (Ao:w.heap[wc]? = some (.cells #[ptr0 wb] 73 (0,0)))
   (B0:ReadX mc w 42 (ptr0 mc) (ptr0 mb)) (uo:ReadX mb w 60 (ptr0 mb) gv) (Af:ReadX cc w 24 (ptr0 cc) cv) (ao:mc<w.heap.size/\cc<w.heap.size/\mb<w.heap.size) :
   PrimM 46 s F w #[ptr0 tb,cloB mc cc wc] ⟨s.ths.set i (t.start p r0 s.nc),ps,s.nc+1⟩ fun rv F' w'=>rv = .bool true/\F'.A.cap s.nc=some wb/\w'.heap[wb]? = some (vP pre (if p.orc = []then p.rv else r0))/\After ⟨s.ths.set i (t.start p r0 s.nc),ps,s.nc+1⟩ F w F' w' (fun b=>b=mc\/b=cc\/b=wc) (fun b=>b=wb)
theorem kf{s:MS}{F:Fo}{w w':World}{N S:Nat->Prop}(hR:RepM s F w)(h:Keeps (fun _=>False) w w'):After s F w F w' N S:=
 ⟨⟨fun b hb=>Nat.lt_of_lt_of_le (hR.lt b hb) h.size,hR.tok,hR.cap⟩,fun _ h=>h,fun b hb =>.inl hb,h.mono fun b hb=>hb.elim,Toks.le.refl _⟩
theorem RepM.set{s:MS}{F:Fo}{w:World}{i:Nat}{t:Th}{ps:List Plan}(h:RepM s F w):RepM ⟨s.ths.set i t,ps,s.nc⟩ F w:=⟨h.lt,fun k hk=>h.tok k (by simpa using hk),h.cap⟩
theorem Zk{l:List Int}(h:l.length=11):(resV l).length=11:=by simp[resV,resK,h]
theorem xc7{w:World}{wb:Nat}{pre:List Value}{r r':List Int}(h:w.heap[wb]? = some (vP pre r)) : ∃w',w'.heap[wb]? = some (vP pre r')/\Keeps (fun b=>b=wb) w w':=
 ⟨{w with heap:=w.heap.setIfInBounds wb (vP pre r')},by simp[(Array.getElem?_eq_some_iff.1 h).1],⟨rfl,rfl,rfl,by simp,fun y _ hy=>Array.getElem?_setIfInBounds_ne (fun h=>hy h.symm)⟩⟩
theorem Xs{f:FuncId}{s:MS}{F:Fo}{w:World}{vs:Array Value}{s':MS}{Post:PostT}(h:PrimM f s F w vs s' Post) : ∃rv F' w',Post rv F' w'/\F.A.le F'.A:=by
 cases h with
 | new hR=>
  refine⟨_,⟨F.has,⟨fun i=>if i=s.ths.length then some 0 else F.A.tok i,F.A.cap⟩⟩,w,⟨0,rfl,by simp,⟨⟨hR.lt,fun i hi =>?_,hR.cap⟩,fun _ h=>h,fun b hb =>.inl hb,Keeps.refl _ w,?_⟩⟩,?_⟩
  .simp only[dO,List.length_cons,List.length_nil]at hi
   show(if i=s.ths.length then some 0 else F.A.tok i)=none
   rw[dA (by omega)]
   exact hR.tok i (by omega)
  all_goals
   refine⟨fun i b hb =>?_,fun _ _ h=>h⟩
   show(if i=s.ths.length then some 0 else F.A.tok i)=some b
   rw[dA (fun e=>by rw[hR.tok i (by omega)]at hb;cases hb)]
   exact hb
 | busy hR ht hk=>exact⟨_,F,w,⟨rfl,kf hR (Keeps.refl _ w)⟩,Toks.le.refl _⟩
 | pendN hR ht hk hb=>exact⟨_,F,w,⟨rfl,kf hR (Keeps.refl _ w)⟩,Toks.le.refl _⟩
 | pendS hR ht hk hb ho=>exact⟨_,F,w,⟨rfl,kf hR (Keeps.refl _ w)⟩,Toks.le.refl _⟩
 | toldN hR ht hk hb hc ho=>exact⟨_,F,w,⟨rfl,kf hR (Keeps.refl _ w)⟩,Toks.le.refl _⟩
 | toldS hR ht hk hb hc ho hl=>exact⟨_,F,w,⟨rfl,kf hR (Keeps.refl _ w)⟩,Toks.le.refl _⟩
 | close hR ht hk hw=>
  refine⟨_,F,w,⟨rfl,⟨hR.set,fun _ h=>h,fun b hb =>.inl hb,Keeps.refl _ w,Toks.le.refl _⟩⟩,Toks.le.refl _⟩
 | @grant _ _ _ i t tb wb pre e L v hR ht hk hb ho hv hw=>
  obtain⟨w',h1,h2⟩:=xc7 (r':=t.res L) hw.2.2.2.2
  exact⟨_,F,w',⟨rfl,h1,⟨⟨fun b hb=>Nat.lt_of_lt_of_le (hR.lt b hb) h2.size,hR.set.tok,hR.cap⟩,fun _ h=>h,fun b hb =>.inl hb,h2.mono fun b hb =>.inr hb,Toks.le.refl _⟩⟩,Toks.le.refl _⟩
 | @start _ _ _ i t tb wb mb mc cc wc pre p ps gv cv r0 hR ht hk hb hc hp hV hF ae hl dh Ao B0 uo Af ao=>
  obtain⟨w',h1,h2⟩:=xc7 (r':=if p.orc = []then p.rv else r0) dh
  refine⟨_,⟨F.has,⟨F.A.tok,fun m=>if m=s.nc then some wb else F.A.cap m⟩⟩,w',⟨rfl,by simp,h1,⟨⟨fun b hb=>Nat.lt_of_lt_of_le (hR.lt b hb) h2.size,(hR.set (ps:=ps)).tok,fun m hm =>?_⟩,fun _ h=>h,fun b hb =>.inl hb,h2.mono fun b hb =>.inr hb,?_⟩⟩,?_⟩
  .show(if m=s.nc then some wb else F.A.cap m)=none
   have hm:s.nc+1<=m:=hm
   rw[dA (by omega)]
   exact hR.cap m (by omega)
  all_goals
   refine⟨fun _ _ h=>h,fun m b hb =>?_⟩
   show(if m=s.nc then some wb else F.A.cap m)=some b
   rw[dA (fun e=>by rw[hR.cap m (by omega)]at hb;cases hb)]
   exact hb
def badN(f:FuncId):Bool:=f == 26 || f == 31 || f == 74 || f == 116 || f == 32 || f == 76 || f == 46
def wc0:WC:=⟨0,0,0,0,0,0,0,0,0,0,[]⟩
def JN(ask:Nat->List Int->MS->Option (List Int×MS)):KBase Tryz.prog MS where
 base:=ZV wc0
 step:=fun p s=>match p with
  | .ask k l=>ask k l s
  | _=>none
 Rep:=RepM
 lt:=fun h=>h.lt
 stable:=fun {s F w w'} h hs=>⟨fun b hb=>by
  have:=hs b hb
  rw[Array.getElem?_eq_getElem (h.lt b hb)]at this
  exact(Array.getElem?_eq_some_iff.1 this).1,h.tok,h.cap⟩
 main:=true
 RF:=fun F w F₁ w₁=>F₁=F/\ ∃d,w₁=w.at d
 rRefl:=fun F w=>⟨rfl,w.drawn,rfl⟩
 rKeeps:=fun h=>by obtain⟨_,d,rfl⟩:=h;exact⟨rfl,rfl,rfl,dJ _,fun _ _ _=>rfl⟩
 rNew:=fun h b hb =>.inl (h.1▸hb)
 rRep:=fun h r=>by obtain⟨rfl,d,rfl⟩:=r;exact⟨h.lt,h.tok,h.cap⟩
 rTok:=fun h=>by rw[h.1]
 D:=fun F w w' es=>Keeps (fun b=> ¬F b) w w'/\ ∀e∈es,EvOff F w.heap.size e
 rd:=fun _=>False
 std:=fun _=>True
 rdLt:=fun _ _ h=>h.elim
 stdK:=fun _ _=>trivial
 rdOff:=fun _ _ h=>h.elim
 dOwn:=fun h h'=>⟨h.mono fun b hb=>hb.1,h'⟩
 meth:=fun {name args p s s' x F w vs} h h'=>by
  cases p<;>first|(cases h';done)|exact(Ya h).elim
 bad:=badN
 some_:=⟨Tryz.prog.funcs.size,by kernel_rfl⟩
 prim:=PrimM
 primSome:=Xs
end Go.Proofs.YtfagfflkgmcnpaaGreatDoor.Mx
namespace Go.Proofs.YtfagfflkgmcnpaaGreatDoor.Mx
open Go Go.Conc Lx Kx Tx
open Go.ConcN (sumTo upd sumTo_upd upd_ne upd_same)
variable{Goal:Machine->Trace->Prop}{kd kd':Kd}{ps ps':List WC}{F F':Fo}{R R':Rg}{n n' nc:Nat}{w w':World}{i:Nat}{t:Th}{g:Gh}{S:Nat->Prop}{ts:List Th}{gs:List Gh}
theorem xc8{Still:Loc->Prop}{m m':Nat}{e:Event}(hS : ∀l,Still l ->∃a,l = .cell a/\F a.block)(hm:m<=m')(h:EvOff F m e):EvHd Still m' e:=by
 obtain⟨l,wr,sy⟩:=e
 cases l with
 | cell a=>
  obtain⟨h1,h2⟩ : ¬F a.block/\a.block<m:=h
  have ht : ∀x,(MemAct.ofEvent ⟨.cell a,wr,sy⟩).touch? = some x->x.loc = .cell a:=fun x hx=>by
   cases sy<;>simp[MemAct.ofEvent,MemAct.touch?]at hx<;>(subst hx;rfl)
  refine⟨fun x hx hs =>?_,by simp,by simp,?_⟩
  .rw[ht x hx]at hs
   obtain⟨a',e3,hF⟩:=hS _ hs
   cases e3
   exact absurd hF h1
  .cases sy<;>exact Nat.lt_of_lt_of_le h2 hm
 | obj r=>
  obtain⟨h1,h2⟩ : ¬F r/\r<m:=h
  have ht : ∀x,(MemAct.ofEvent ⟨.obj r,wr,sy⟩).touch? = some x->x.loc = .obj r:=fun x hx=>by
   cases wr<;>cases sy<;>simp[MemAct.ofEvent,MemAct.touch?]at hx<;>(subst hx;rfl)
  refine⟨fun x hx hs =>?_,by simp,by simp,?_⟩
  .rw[ht x hx]at hs
   obtain⟨a',e3,_⟩:=hS _ hs
   cases e3
  .cases wr<;>cases sy<;>exact Nat.lt_of_lt_of_le h2 hm
 | mark m=>
  have B1:m = .noRoom:=h
  subst B1
  refine⟨fun x hx hs =>?_,by simp,by simp,?_⟩
  .simp[MemAct.ofEvent,MemAct.touch?]at hx
  .simp[MemAct.ofEvent,MemAct.low]
 | output=>exact(show False from h).elim
 | goroutines=>exact(show False from h).elim
theorem Lk.inF(L:Lk ts gs ps kd nc F R n w){b:Nat}{x:Nat×Nat}(h:kd b=some x):F b:=(L.has b).2 ⟨x,h⟩
theorem Lk.stF(L:Lk ts gs ps kd nc F R n w) : ∀l,R.Still l ->∃a,l = .cell a/\F a.block:=fun l hl=>by
 obtain⟨c,hc,k,_,rfl⟩:=(L.St l).1 hl
 obtain⟨p,hp⟩:=List.getElem?_of_mem hc
 exact⟨_,rfl,L.inF (L.pk p c hp)⟩
theorem Lk.chan(L:Lk ts gs ps kd nc F R n w){x c:Nat}{s:Seat}(hx:R.Inb x=some s)(hc:s.has c) : ∃ (i:Nat) (t:Th) (g:Gh),ts[i]? = some t/\gs[i]? = some g/\t.busy=true/\x=g.j/\((c=g.c.grant/\kd c=some (g.p,4))\/(c=g.c.quit/\kd c=some (i,1))):=by
 obtain⟨i,t,g,h1,h2,h3,h4,rfl⟩:=L.inb x s hx
 have T:=L.th i t g h1 h2
 rcases vl.1 hc with rfl|rfl
 .exact⟨i,t,g,h1,h2,h3,h4,.inl ⟨rfl,(T.body h3).kg⟩⟩
 .exact⟨i,t,g,h1,h2,h3,h4,.inr ⟨rfl,T.kq⟩⟩
theorem Lk.chanF(L:Lk ts gs ps kd nc F R n w){x c:Nat}{s:Seat}(hx:R.Inb x=some s)(hc:s.has c):F c:=by
 obtain⟨_,_,_,_,_,_,_,h|h⟩:=L.chan hx hc<;>exact L.inF h.2
theorem Lk.free(L:Lk ts gs ps kd nc F R n w){tb:Nat}(h:kd tb=some (i,0)):Free R tb:=by
 refine⟨fun k hk =>?_,L.env.keep,fun x s c hx hc e =>?_,L.env.low⟩
 .obtain⟨c,hc,k',_,e⟩:=(L.St _).1 hk
  obtain⟨p,hp⟩:=List.getElem?_of_mem hc
  have:=L.pk p c hp
  cases e
  rw[h]at this
  cases this
 .subst e
  obtain⟨_,_,_,_,_,_,_,h'|h'⟩:=L.chan hx hc<;>rw[h]at h'<;>cases h'.2
def OkM(Goal:Machine->Trace->Prop)(s:MS)(F:Fo)(fr:Frame)(cs:List Frame)(w:World):Prop :=∀ (gs:List Gh) (ps:List WC) (kd:Kd) (R:Rg) (n:Nat),Lk s.ths gs ps kd s.nc F R n w->Runs Goal R n (G fr cs) w
variable{s s':MS}{fr caller:Frame}{cs:List Frame}
theorem xiA(h : ∀d,∃oz cs' w' es,stepG Tryz.prog true (G fr cs) (w.at d) = .go (G oz cs') w' es/\Keeps (fun b=> ¬F b) (w.at d) w'/\(∀e∈es,EvOff F w.heap.size e)/\OkM Goal s F oz cs' w'):OkM Goal s F fr cs w:=by
 intro gs ps kd R n L
 refine Runs.go L.env.ok rfl fun hl d hk =>?_
 obtain⟨oz,cs',w',es,h2,hK,bt,h5⟩:=h d
 have L':=(L.at_ (d:=d)).same hK
 refine⟨_,w',es,h2,(L.K w').2 L'.now,fun x s c hx hc=>hK.block c (hl x s c hx hc) fun y=>y (L.chanF hx hc),hK.size,fun e he=>xc8 L.stF hK.size (bt e he),h5 gs ps kd R n L'⟩
theorem xiB{d:Nat}(h:OkM Goal s F fr cs w):OkM Goal s F fr cs (w.at d):=fun gs ps kd R n L=>Runs.at_ (h gs ps kd R n L.of_at)
theorem Zl{v:Value}(hR:RepM s F w)(hk : ∀rv F' w',rv=v/\After s F w F' w' (fun _=>False) (fun _=>False)->F.A.le F'.A->OkM Goal s F' (caller.finish rv) cs w')(L:Lk s.ths gs ps kd s.nc F R n w) : ∀w',Keeps (fun _=>False) w w'->Runs Goal R n (G (caller.finish v) cs) w':=
 fun w' h=>hk v F w' ⟨rfl,kf hR h⟩ (Toks.le.refl _) gs ps kd R n (L.same (h.mono fun b hb=>hb.elim))
theorem Lk.find(L:Lk ts gs ps kd nc F R n w)(ht:ts[i]? = some t) : ∃g,gs[i]? = some g/\LkT kd ps F R n w i t g:=by
 have hl:i<gs.length:=by rw[L.len];exact(List.getElem?_eq_some_iff.1 ht).1
 exact⟨gs[i],List.getElem?_eq_getElem hl,L.th i t _ ht (List.getElem?_eq_getElem hl)⟩
theorem Ye{pv:Value}{e:Lx.Env} : ∀ (ks:List IntKind) (l:List Int),denL pv e (List.zipWith C.int ks l)=some (List.zipWith Value.int ks l)
 | [],_=>by simp[denL]
 | _::_,[]=>by simp[denL]
 | k::ks,x::l=>by
  have:=Ye (pv:=pv) (e:=e) ks l
  simp only[List.zipWith_cons_cons,denL,den,this]
theorem Yf{pv:Value}{e:Lx.Env}(l:List Int):denL pv e (resC l)=some (resV l):=Ye _ _
theorem xc9{l:List Int} : ∀v∈resV l,Lx.One v:=by
 intro v hv
 unfold resV at hv
 have : ∀ (ks:List IntKind) (l:List Int) (v:Value),v∈List.zipWith Value.int ks l ->∃k n,v = .int k n:=by
  intro ks
  induction ks with
  | nil=>intro l v h;simp at h
  | cons k ks ih=>
   intro l v h
   cases l with
   | nil=>simp at h
   | cons x l=>
    simp only[List.zipWith_cons_cons,List.mem_cons]at h
    rcases h with rfl|h
    .exact⟨_,_,rfl⟩
    .exact ih l v h
 obtain⟨k,n,rfl⟩:=this _ _ _ hv
 exact⟨(fun _ h=>by cases h),(fun _ h=>by cases h)⟩
theorem len11{α:Type}{l:List α}(h:l.length=11) : ∃a b c d e f g i j k m,l = [a,b,c,d,e,f,g,i,j,k,m]:=by
 match l,h with
 | [a,b,c,d,e,f,g,i,j,k,m],_=>exact⟨a,b,c,d,e,f,g,i,j,k,m,rfl⟩
theorem xg3{tb:Nat}(hR:RepM s F w)(ht:s.ths[i]? = some t)(hk:F.A.tok i=some tb)(h : ∀rv F' w',rv = .bool t.busy/\After s F w F' w' (fun _=>False) (fun _=>False)->F.A.le F'.A->OkM Goal s F' (caller.finish rv) cs w') :
  OkM Goal s F (Frame.enter Tryz.prog 31 #[ptr0 tb] .normal) (caller::cs) w:=by
 intro gs ps kd R n L
 obtain⟨g,hg,T⟩:=L.find ht
 obtain rfl:g.c.tb=tb:=Option.some.inj (T.tok.symm.trans hk)
 obtain⟨port,done,pend,O⟩:=T.thr
 exact busy_ok L.env rfl O.at_ caller cs (Zl hR h L w (Keeps.refl _ w))
theorem xeA{tb:Nat}(hR:RepM s F w)(ht:s.ths[i]? = some t)(hk:F.A.tok i=some tb)(hb:t.busy=false)(h : ∀rv F' w',rv = .tuple #[zero4,.bool false]/\After s F w F' w' (fun _=>False) (fun _=>False)->F.A.le F'.A->OkM Goal s F' (caller.finish rv) cs w') :
  OkM Goal s F (Frame.enter Tryz.prog 74 #[ptr0 tb] .normal) (caller::cs) w:=by
 intro gs ps kd R n L
 obtain⟨g,hg,T⟩:=L.find ht
 obtain rfl:g.c.tb=tb:=Option.some.inj (T.tok.symm.trans hk)
 obtain⟨port,done,pend,O⟩:=T.thr
 have hp:=O.pnd hb
 subst hp
 exact xbC L.env O.at_ caller cs (Zl hR h L)
theorem xeB{tb:Nat}{e:Tx.Ask}{L':List Tx.Ask}(hR:RepM s F w)(ht:s.ths[i]? = some t)(hk:F.A.tok i=some tb)(hb:t.busy=true)(ho:t.orc=e::L')(h : ∀rv F' w',rv = .tuple #[accV e.k e.at_ e.a e.b,.bool true]/\After s F w F' w' (fun _=>False) (fun _=>False)->F.A.le F'.A->OkM Goal s F' (caller.finish rv) cs w') :
  OkM Goal s F (Frame.enter Tryz.prog 74 #[ptr0 tb] .normal) (caller::cs) w:=by
 intro gs ps kd R n L
 obtain⟨g,hg,T⟩:=L.find ht
 obtain rfl:g.c.tb=tb:=Option.some.inj (T.tok.symm.trans hk)
 obtain⟨port,done,pend,O⟩:=T.thr
 obtain⟨px,e',L'',h1,rfl,_,h2⟩:=O.asks hb
 rw[ho]at h1
 cases h1
 exact xbD L.env O.at_ h2 caller cs (Zl hR h L)
theorem xeC{tb:Nat}(hR:RepM s F w)(ht:s.ths[i]? = some t)(hk:F.A.tok i=some tb)(hb:t.begun=true)(hc:t.closed=false)(ho:t.told=none)(h : ∀rv F' w',rv = .tuple #[xiz,.bool false]/\After s F w F' w' (fun _=>False) (fun _=>False)->F.A.le F'.A->OkM Goal s F' (caller.finish rv) cs w') :
  OkM Goal s F (Frame.enter Tryz.prog 116 #[ptr0 tb] .normal) (caller::cs) w:=by
 intro gs ps kd R n L
 obtain⟨g,hg,T⟩:=L.find ht
 obtain rfl:g.c.tb=tb:=Option.some.inj (T.tok.symm.trans hk)
 obtain⟨port,done,pend,O⟩:=T.thr
 obtain⟨rfl,_⟩:=O.prt hb
 obtain⟨m,told,h1,h2,_⟩:=(T.port hb).obj hc
 rw[ho]at h2
 obtain rfl:told = .pointer none:=h2
 exact told_none L.env O.at_ h1 caller cs (Zl hR h L)
theorem xeD{tb:Nat}{l:List Int}(hR:RepM s F w)(ht:s.ths[i]? = some t)(hk:F.A.tok i=some tb)(hb:t.begun=true)(hc:t.closed=false)(ho:t.told=some (resC l))(hl:l.length=11)(h : ∀rv F' w',rv = .tuple #[.agg (resV l).toArray,.bool true]/\After s F w F' w' (fun _=>False) (fun _=>False)->F.A.le F'.A->OkM Goal s F' (caller.finish rv) cs w') :
  OkM Goal s F (Frame.enter Tryz.prog 116 #[ptr0 tb] .normal) (caller::cs) w:=by
 intro gs ps kd R n L
 obtain⟨g,hg,T⟩:=L.find ht
 obtain rfl:g.c.tb=tb:=Option.some.inj (T.tok.symm.trans hk)
 obtain⟨port,done,pend,O⟩:=T.thr
 obtain⟨rfl,_⟩:=O.prt hb
 obtain⟨m,told,h1,h2,_⟩:=(T.port hb).obj hc
 rw[ho]at h2
 obtain⟨x,vs,rfl,_,h3,h4⟩:=h2
 rw[Yf,oI]at h3
 subst h3
 have h5:=Zk hl
 have h6 : ∀v∈resV l,Lx.One v:=xc9
 have hs:=Zl hR h L
 revert h4 h6 hs
 generalize resV l=vs at h5
 obtain⟨v0,v1,v2,v3,v4,v5,v6,v7,v8,v9,pi,rfl⟩:=len11 h5
 intro h4 h6 hs
 exact xg2 L.env h6 O.at_ h1 h4 caller cs hs
end Go.Proofs.YtfagfflkgmcnpaaGreatDoor.Mx
namespace Go.Proofs.YtfagfflkgmcnpaaGreatDoor.Mx
open Go Go.Conc Lx Kx Tx
open Go.ConcN (sumTo upd sumTo_upd upd_ne upd_same)
variable{Goal:Machine->Trace->Prop}{kd kd':Kd}{ps ps':List WC}{F F':Fo}{R R':Rg}{n n' nc:Nat}{w w':World}{i:Nat}{t:Th}{g:Gh}{S:Nat->Prop}{ts:List Th}{gs:List Gh}{s s':MS}{fr caller:Frame}{cs:List Frame}
theorem kD{α:Type}{l:List α}{a x:α}{k:Nat}(h:(l ++ [a])[k]? = some x):(k=l.length/\x=a)\/(k<l.length/\l[k]? = some x):=by
 by_cases hk:k<l.length
 .rw[List.getElem?_append_left hk]at h;exact .inr ⟨hk,h⟩
 .rw[List.getElem?_append_right (by omega)]at h
  have h0:k-l.length=0:=by
   cases hm:k-l.length with
   | zero=>rfl
   | succ m=>rw[hm]at h;simp at h
  rw[h0]at h
  simp at h
  exact .inl ⟨by omega,h.symm⟩
theorem xbG{α:Type}{l:List α}{a x:α}{k:Nat}(h:l[k]? = some x):(l ++ [a])[k]? = some x:=by
 rw[List.getElem?_append_left (List.getElem?_eq_some_iff.1 h).1];exact h
theorem Lk.kdlt(L:Lk ts gs ps kd nc F R n w){b:Nat}{y:Nat×Nat}(h:kd b=some y):b<w.heap.size:=L.lt b (L.inF h)
def ghN(self:Int)(q x:Nat):Gh :={(default:Gh)with c :={wc0 with tb:=x,quit:=q,self:=self}}
theorem Lk.push(L:Lk ts gs ps kd nc F R n w){self:Int}{q x:Nat}(hq:q=w.heap.size)(hx:x=w.heap.size+1)(h1:w'.heap[q]? = some (.chan 0 #[] false 0 0 false))(h2:w'.heap[x]? = some (thrO self (.pointer none) (.chan none) (.pointer none) false false q))(hK:Keeps (fun _=>False) w w')(hs:w'.heap.size=w.heap.size+2) :
  Lk (ts ++ [Th.new self]) (gs ++ [ghN self q x]) ps (fun b=>if b=q then some (ts.length,1)else if b=x then some (ts.length,0)else kd b) nc ⟨fun b=>F b\/b=q\/b=x,⟨fun i=>if i=ts.length then some x else F.A.tok i,F.A.cap⟩⟩ R n w':=by
 have hk : ∀b y,kd b=some y->(if b=q then some (ts.length,1)else if b=x then some (ts.length,0)else kd b)=some y:=fun b y h=>by
  have:=L.kdlt h
  rw[dA (by omega),dA (by omega)]
  exact h
 have hA:F.A.le ⟨fun i=>if i=ts.length then some x else F.A.tok i,F.A.cap⟩:=⟨fun i b hb=>by
  show(if i=ts.length then some x else F.A.tok i)=some b
  rw[dA fun e=>by rw[L.tokN i (by omega)]at hb;cases hb]
  exact hb,fun _ _ h=>h⟩
 have hg:gs.length=ts.length:=L.len
 refine {env:=L.env,n0:=L.n0,lt:=fun b hb =>?_,has:=fun b=>⟨fun hb =>?_,fun⟨y,hb⟩ =>?_⟩,K:=L.K,now:=fun c hc =>?_,St:=L.St,pk:=fun p c h=>hk _ _ (L.pk p c h),len:=by simp[L.len],inb:=fun y sx hy =>?_,jinj:=fun a b ta tb ga gb e1 e2 e3 e4 e5 e6 e7 =>?_,pinj:=fun a b ta tb ga gb e1 e2 e3 e4 e5 e6 e7 =>?_,th:=fun k tk gk e1 e2 =>?_,tokN:=fun k hk =>?_,capN:=L.capN}
 .rcases hb with hb|hb|hb
  .have:=L.lt b hb;omega
  .omega
  .omega
 .by_cases e1:b=q
  .exact⟨_,dB e1⟩
  .rw[dA e1]
   by_cases e2:b=x
   .exact⟨_,dB e2⟩
   .rw[dA e2]
    exact(L.has b).1 (hb.resolve_right fun h=>h.elim e1 e2)
 .by_cases e1:b=q
  .exact .inr (.inl e1)
  .rw[dA e1]at hb
   by_cases e2:b=x
   .exact .inr (.inr e2)
   .rw[dA e2]at hb
    exact .inl (L.inF hb)
 .have h:=L.now c hc
  exact Tx.StillAt.same h (hK.block _ (Tx.StillAt.lt h) fun y=>y)
 .obtain⟨k,tk,gk,a,b,c⟩:=L.inb y sx hy
  exact⟨k,tk,gk,xbG a,xbG b,c⟩
 .rcases kD e1 with⟨_,rfl⟩|⟨_,e1⟩
  .cases e5
  rcases kD e2 with⟨_,rfl⟩|⟨_,e2⟩
  .cases e6
  rcases kD e3 with⟨e,_⟩|⟨_,e3⟩
  .have:=(List.getElem?_eq_some_iff.1 e1).1;omega
  rcases kD e4 with⟨e,_⟩|⟨_,e4⟩
  .have:=(List.getElem?_eq_some_iff.1 e2).1;omega
  exact L.jinj a b ta tb ga gb e1 e2 e3 e4 e5 e6 e7
 .rcases kD e1 with⟨_,rfl⟩|⟨_,e1⟩
  .cases e5
  rcases kD e2 with⟨_,rfl⟩|⟨_,e2⟩
  .cases e6
  rcases kD e3 with⟨e,_⟩|⟨_,e3⟩
  .have:=(List.getElem?_eq_some_iff.1 e1).1;omega
  rcases kD e4 with⟨e,_⟩|⟨_,e4⟩
  .have:=(List.getElem?_eq_some_iff.1 e2).1;omega
  exact L.pinj a b ta tb ga gb e1 e2 e3 e4 e5 e6 e7
 .rcases kD e1 with⟨rfl,rfl⟩|⟨hl,e1⟩
  .rcases kD e2 with⟨_,rfl⟩|⟨hl,e2⟩
   .refine⟨?_,dB rfl,rfl,dB rfl,⟨_,_,_,h2,fun h=>(by cases h),fun _=>rfl,fun _=>rfl,fun h=>(by cases h)⟩,fun _=>⟨0,h1⟩,fun h=>(by cases h),fun h=>(by cases h)⟩
    show(if x=q then some (ts.length,1)else if x=x then some (ts.length,0)else kd x)=_
    rw[dA (by omega),dB rfl]
   .omega
  .rcases kD e2 with⟨e,_⟩|⟨_,e2⟩
   .omega
   .have T:=L.th k tk gk e1 e2
    exact T.same hK.size hk hA (fun p c h=>h) hK (fun b _ h=>h) (fun _=>⟨rfl,id⟩) (dJ _) fun hb=>L.pk _ _ (T.port hb).pp
 .simp only[dO,List.length_cons,List.length_nil]at hk
  show(if k=ts.length then some x else F.A.tok k)=none
  rw[dA (by omega)]
  exact L.tokN k (by omega)
theorem xiC{self:Int}(hR:RepM s F w)(h : ∀rv F' w',(∃tb,rv=ptr0 tb/\F'.A.tok s.ths.length=some tb/\After ⟨s.ths ++ [Th.new self],s.plans,s.nc⟩ F w F' w' (fun _=>False) (fun _=>False))->F.A.le F'.A->OkM Goal ⟨s.ths ++ [Th.new self],s.plans,s.nc⟩ F' (caller.finish rv) cs w') :
  OkM Goal s F (Frame.enter Tryz.prog 26 #[.int .i64 self] .normal) (caller::cs) w:=by
 intro gs ps kd R n L
 refine new_ok L.env self caller cs fun w' q x hq hx h1 h2 hK hs _ _ =>?_
 have L':=L.push hq hx h1 h2 hK hs
 have hA:F.A.le ⟨fun i=>if i=s.ths.length then some x else F.A.tok i,F.A.cap⟩:=⟨fun i b hb=>by
  show(if i=s.ths.length then some x else F.A.tok i)=some b
  rw[dA fun e=>by rw[L.tokN i (by omega)]at hb;cases hb]
  exact hb,fun _ _ h=>h⟩
 exact h _ _ w' ⟨x,rfl,dB rfl,⟨⟨L'.lt,L'.tokN,L'.capN⟩,fun b hb =>.inl hb,fun b hb=>hb.imp id fun hb =>.inr (by omega),hK.mono fun b hb=>hb.elim,hA⟩⟩ hA _ _ _ R n L'
theorem _root_.Go.Proofs.YtfagfflkgmcnpaaGreatDoor.Mx.Runs.known{a:Goroutine}(E:Env R)(h:R.K w->Runs Goal R n a w):Runs Goal R n a w:=fun d gs T sl q h1 h2 h3=>
 h (E.keep (w.at d) w (fun b k hb=>rfl) h3.keep) d gs T sl q h1 h2 h3
theorem Lk.shut(L:Lk ts gs ps kd nc F R n w)(hi:ts[i]? = some t)(hg:gs[i]? = some g)(hE:Env R')(hRK:R'.K=R.K)(hRS:R'.Still=R.Still)(hS:Keeps S w w')(hM : ∀b,S b->b<w.heap.size->kd b=none\/Mine kd i t g b)
  (hR : ∀x,(t.busy=true->x≠g.j)->(∃s,R.Inb x=some s)->R'.Inb x=R.Inb x/\(R.Mem x->R'.Mem x)) (A9 : ∀x s,R'.Inb x=some s->R.Inb x=some s/\(t.busy=true->x≠g.j)) {port done:Value}
  (h:w'.heap[g.c.tb]? = some (thrO g.c.self port done (.pointer none) false true g.c.quit)) (hp:t.begun=true->port=ptr0 g.c.pb/\done = .chan (some g.c.done)) (hn:t.begun=false->port = .pointer none) (w6:t.begun=true->OpenC g.c.done 1 w') (tr:R.K w') :
  Lk (ts.set i {t with busy:=false,closed:=true,orc :=[]}) gs ps kd nc F R' n w':=by
 have T:=L.th i t g hi hg
 have Gb:gs=gs.set i g:=(List.ext_getElem? fun k=>by
  by_cases e:i=k
  .subst e
   rw[List.getElem?_set_self (List.getElem?_eq_some_iff.1 hg).1];exact hg
  .rw[List.getElem?_set_ne e])
 rw[Gb]
 refine L.put hi hg hE (dJ _) hS (fun b hb=>Nat.lt_of_lt_of_le (L.lt b hb) hS.size) L.has (fun _ _ h=>h) (Toks.le.refl _) (fun _ _ h=>h) (by rw[hRK];exact L.K) ((L.K w').1 tr) (by rw[hRS];exact L.St) L.pk hM hR (fun x s hx =>.inr (A9 x s hx)) (fun h=>(by cases h)) (fun hb k tk gk ae h1 h2 h3 e=>ae (L.pinj k i tk t gk g h1 hi h2 hg h3 hb e.symm)) ?_ L.tokN L.capN
 refine⟨T.kt,T.kq,T.self,T.tok,⟨port,done,.pointer none,h,hp,hn,fun _=>rfl,fun h=>(by cases h)⟩,fun h=>(by cases h),fun hb =>?_,fun h=>(by cases h)⟩
 have P:=T.port hb
 exact⟨P.pp,P.kdn,w6 hb,fun h=>(by cases h)⟩
end Go.Proofs.YtfagfflkgmcnpaaGreatDoor.Mx
namespace Go.Proofs.YtfagfflkgmcnpaaGreatDoor.Mx
open Go Go.Conc Lx Kx Tx
open Go.ConcN (sumTo upd sumTo_upd upd_ne upd_same)
variable{Goal:Machine->Trace->Prop}{kd kd':Kd}{ps ps':List WC}{F F' Fs:Fo}{R R':Rg}{n n' nc:Nat}{w w':World}{i:Nat}{t:Th}{g:Gh}{S:Nat->Prop}{ts:List Th}{gs:List Gh}{s s':MS}{fr caller:Frame}{cs:List Frame}
theorem xM{a b:Nat}{x y:Nat×Nat}(h1:kd a=some x)(h2:kd b=some y)(I8:x≠y):a≠b:=fun e=>I8 (Option.some.inj (h1.symm.trans ((congrArg kd e).trans h2)))
theorem yV{a b:Nat}{x:Nat×Nat}(h1:kd a=some x)(h2:kd b=none):a≠b:=fun e=>by rw[e,h2]at h1;cases h1
theorem r_ne{p q r k:Nat}(h:r≠k):((p,r):Nat×Nat)≠(q,k):=fun e=>h (Prod.mk.inj e).2
def FsOf(g:Gh)(n b:Nat):Prop:=g.F b\/(g.ws.heap.size<=b/\b<n)
theorem LkB.fs(B:LkB kd F R n w t g){b:Nat}{y:Nat×Nat}(hl:b<w.heap.size)(h:kd b=some y)(hy:y≠(g.p,8)):FsOf g w.heap.size b:=by
 by_cases e:b<g.ws.heap.size
 .refine .inl (Classical.byContradiction fun hx=>hy ?_)
  have:=B.priv b e hx
  rw[h]at this
  exact Option.some.inj this
 .exact .inr ⟨by omega,hl⟩
theorem LkB.nfs(B:LkB kd F R n w t g){b:Nat}(hl:b<w.heap.size)(h : ¬FsOf g w.heap.size b):kd b=some (g.p,8):=by
 by_cases e:b<g.ws.heap.size
 .exact B.priv b e fun x=>h (.inl x)
 .exact absurd (.inr ⟨by omega,hl⟩) h
theorem LkB.at_(B:LkB kd F R n w t g):RepW g.c g.s g.F g.ws:=by
 obtain⟨e,L,g₂,g',_,h⟩:=B.now
 exact h.hR
theorem Lk.round(L:Lk ts gs ps kd nc F R n w)(hi:ts[i]? = some t)(hg:gs[i]? = some g)(hb:t.busy=true){A:Toks}(dh:kd g.c.wb=none){sH:Seat}(hsH : ∀x,sH.has x->x=g.c.ask\/x=g.c.done) :
  Round g.c ⟨FsOf g w.heap.size,A⟩ R.K (upd R.Inb 0 (some sH)) R.Still:=by
 have T:=L.th i t g hi hg
 have B:=T.body hb
 have P:=T.port B.bg
 have hR:=B.at_
 have kp:=L.pk _ _ P.pp
 have ch : ∀b r,kd b=some (g.p,r)->3<=r->r≠8->FsOf g w.heap.size b/\b≠g.c.pb/\b≠g.c.wb/\b≠g.c.tb:=fun b r h h3 h8=>
  ⟨B.fs (L.kdlt h) h fun e=>h8 (Prod.mk.inj e).2,xM h kp (r_ne (by omega)),yV h dh,xM h T.kt (r_ne (by omega))⟩
 refine⟨.inl hR.tb,.inl hR.pb,.inl hR.wb,fun w₁ w₂ h hk=>(L.K w₂).2 fun c hc =>?_,fun x sx c hx hc =>?_,ch _ 5 P.kdn (by omega) (by omega),fun l hl =>?_⟩
 .obtain⟨p,hp⟩:=List.getElem?_of_mem hc
  have hs:=(L.K w₁).1 hk c hc
  by_cases e:p=g.p
  .subst e
   rw[P.pp]at hp
   cases hp
   exact h.still hs
  .have k1:=L.pk p c hp
   have k2:FsOf g w.heap.size c.pb:=B.fs (L.kdlt k1) k1 (r_ne (by omega))
   exact Tx.StillAt.same hs (h.keeps.block _ (Tx.StillAt.lt hs) fun z=>z.elim (fun y=>y k2) fun z=>z.elim (xM k1 kp fun e'=>e (Prod.mk.inj e').1) fun z=>z.elim (yV k1 dh) (xM k1 P.kdn (r_ne (by omega))))
 .by_cases e:x=0
  .subst e
   rw[upd_same]at hx
   cases hx
   rcases hsH c hc with rfl|rfl
   .exact ch _ 3 B.ka (by omega) (by omega)
   .exact ch _ 5 P.kdn (by omega) (by omega)
  .rw[upd_ne _ _ e]at hx
   obtain⟨k,tk,gk,h1,h2,h3,h4,h⟩:=L.chan hx hc
   rcases h with⟨rfl,h⟩|⟨rfl,h⟩
   .exact⟨B.fs (L.kdlt h) h (r_ne (by omega)),xM h kp (r_ne (by omega)),yV h dh,xM h T.kt (r_ne (by omega))⟩
   .exact⟨B.fs (L.kdlt h) h (r_ne (by omega)),xM h kp (r_ne (by omega)),yV h dh,xM h T.kt (r_ne (by omega))⟩
 .obtain⟨c,hc,k,hk,rfl⟩:=(L.St l).1 hl
  obtain⟨p,hp⟩:=List.getElem?_of_mem hc
  have k1:=L.pk p c hp
  exact⟨_,rfl,B.fs (L.kdlt k1) k1 (r_ne (by omega)),yV k1 dh,xM k1 T.kt (r_ne (by omega)),fun _=>hk⟩
theorem Lk.later(L:Lk ts gs ps kd nc F R n w)(hi:ts[i]? = some t)(hg:gs[i]? = some g)(hb:t.busy=true){A:Toks}(hA:g.F.A.le A)(Fp : ∀b y,A.cap b=some y->FsOf g w.heap.size b)(Ja : ∀x,kd x=some (g.p,8)->g.F.A.cap x=none->A.cap x=none)
  (dh:kd g.c.wb=none) {pre:List Value} (hl:pre.length=3/\t.r0.length=11) (hw:w.heap[g.c.wb]? = some (vP pre t.r0)) (hK:Keeps (fun b=>b=g.c.tb\/b=g.c.quit\/b=g.c.grant) w w') (ai:w'.heap.size=w.heap.size):Later g.c g.s g.F g.ws ⟨FsOf g w.heap.size,A⟩ w':=by
 have T:=L.th i t g hi hg
 have B:=T.body hb
 have P:=T.port B.bg
 have hR:=B.at_
 have kp:=L.pk _ _ P.pp
 have same : ∀b y o,kd b=some y->y≠(i,0)->y≠(i,1)->y≠(g.p,4)->w.heap[b]? = some o->w'.heap[b]? = some o:=fun b y o h h0 h1 h4 ho=>
  (hK.block b (Array.getElem?_eq_some_iff.1 ho).1 fun z=>z.elim (xM h T.kt h0) fun z=>z.elim (xM h T.kq h1) (xM h B.kg h4)).trans ho
 obtain⟨m,told,o1,o2,o3⟩:=P.obj B.nc
 obtain⟨rfl,o4⟩:=o3 hb
 refine⟨hA,fun b =>?_,?_,?_⟩
 .show FsOf g w.heap.size b↔_
  unfold FsOf
  rw[ai]
 .refine B.kp.trans hK fun b gu =>?_
  by_cases e:b<g.ws.heap.size
  .refine .inl (Classical.byContradiction fun hx =>?_)
   have:=B.priv b e hx
   rcases gu with rfl|rfl|rfl
   .rw[T.kt]at this;exact absurd (Option.some.inj this) (r_ne (by omega))
   .rw[T.kq]at this;exact absurd (Option.some.inj this) (r_ne (by omega))
   .rw[B.kg]at this;exact absurd (Option.some.inj this) (r_ne (by omega))
  .exact .inr (by omega)
 .refine⟨fun b gu =>?_,.inl hR.tb,.inl hR.pb,.inl hR.wb,hR.ne,hR.nw,hR.wt,hA.tok _ _ hR.tok,Fp,⟨.inl hR.cap.hF,hR.cap.t,hR.cap.p,hR.cap.wbn,?_⟩,⟨.inl hR.dn.hF,hR.dn.t,hR.dn.p,hR.dn.wbn,?_⟩,?_,told,?_,?_⟩
  .rw[ai]
   rcases gu with h|h
   .exact Nat.lt_of_lt_of_le (hR.lt b h) B.kp.size
   .exact h.2
  .exact same _ _ _ B.kwc (r_ne (by omega)) (r_ne (by omega)) (r_ne (by omega)) B.cap
  .exact same _ _ _ B.kdb (r_ne (by omega)) (r_ne (by omega)) (r_ne (by omega)) B.dn
  .refine⟨pre,g.c.r0,⟨⟨hl.1,by rw[B.r0];exact Zk hl.2⟩,?_⟩,fun _=>rfl⟩
   rw[B.r0]
   exact(hK.block _ (Array.getElem?_eq_some_iff.1 hw).1 fun z=>z.elim (fun e=>yV T.kt dh e.symm) fun z=>z.elim (fun e=>yV T.kq dh e.symm) fun e=>yV B.kg dh e.symm).trans hw
  .exact same _ _ _ kp (r_ne (by omega)) (r_ne (by omega)) (r_ne (by omega)) o1
  .rw[<- B.told]
   cases ht:t.told with
   | none=>rw[ht]at o2;exact o2
   | some r=>
    rw[ht]at o2
    obtain⟨x,vs,rfl,x1,x2,x3⟩:=o2
    obtain⟨y1,y2⟩:=o4 x rfl
    refine⟨x,vs,rfl,⟨?_,Ja x x1 y2⟩,xM x1 T.kt (r_ne (by omega)),xM x1 kp (r_ne (by omega)),yV x1 dh,x2,same _ _ _ x1 (r_ne (by omega)) (r_ne (by omega)) (r_ne (by omega)) x3⟩
    by_cases e:x<g.ws.heap.size
    .exact .inl (y1 e)
    .exact .inr ⟨by omega,L.kdlt x1⟩
theorem Lk.stNe(L:Lk ts gs ps kd nc F R n w){b k:Nat}{y:Nat×Nat}(h:kd b=some y)(hy:y.2≠2) : ¬R.Still (.cell ⟨b,k,none⟩):=fun hs=>by
 obtain⟨c,hc,k',_,e⟩:=(L.St _).1 hs
 obtain⟨p,hp⟩:=List.getElem?_of_mem hc
 have:=L.pk p c hp
 cases e
 rw[h]at this
 cases this
 exact hy rfl
theorem xeE{tb wb:Nat}{pre:List Value}(hR:RepM s F w)(ht:s.ths[i]? = some t)(hk:F.A.tok i=some tb)(hw:t.busy=true->F.A.cap t.cap=some wb/\ ¬F wb/\pre.length=3/\t.r0.length=11/\w.heap[wb]? = some (vP pre t.r0))
  (h : ∀rv F' w',(rv = .tuple #[]/\After ⟨s.ths.set i {t with busy:=false,closed:=true,orc :=[]},s.plans,s.nc⟩ F w F' w' (fun _=>False) (fun _=>False))->F.A.le F'.A->OkM Goal ⟨s.ths.set i {t with busy:=false,closed:=true,orc :=[]},s.plans,s.nc⟩ F' (caller.finish rv) cs w') :
  OkM Goal s F (Frame.enter Tryz.prog 32 #[ptr0 tb] .normal) (caller::cs) w:=by
 intro gs ps kd R n L
 obtain⟨g,hg,T⟩:=L.find ht
 obtain rfl:g.c.tb=tb:=Option.some.inj (T.tok.symm.trans hk)
 obtain⟨port,done,pend,O⟩:=T.thr
 have fin : ∀w',Keeps F w w'->After ⟨s.ths.set i {t with busy:=false,closed:=true,orc :=[]},s.plans,s.nc⟩ F w F w' (fun _=>False) (fun _=>False):=fun w' hK=>
  ⟨⟨fun b hb=>Nat.lt_of_lt_of_le (hR.lt b hb) hK.size,(hR.set (ps:=s.plans)).tok,hR.cap⟩,fun _ h=>h,fun b hb =>.inl hb,hK.mono fun b hb =>.inl hb,Toks.le.refl _⟩
 cases cq:t.closed with
 | true=>
  have hb:t.busy=false:=by
   cases hb:t.busy with
   | false=>rfl
   | true=>rw[(T.body hb).nc]at cq;cases cq
  have hp:=O.pnd hb
  subst hp
  have ho:=O.at_
  rw[hb,cq]at ho
  refine xbE L.env ho caller cs ?_
  refine h _ F w ⟨rfl,fin w (Keeps.refl _ w)⟩ (Toks.le.refl _) gs ps kd R n ?_
  exact L.shut (R':=R) (S:=fun _=>False) ht hg L.env rfl rfl (Keeps.refl _ w) (fun b hb=>hb.elim) (fun x _ _=>⟨rfl,id⟩) (fun x sx hx=>⟨hx,fun h'=>by rw[hb]at h';cases h'⟩) ho O.prt O.nop (fun h=>(T.port h).od) ((L.K w).2 L.now)
 | false=>
  obtain⟨kq,hq⟩:=T.quit cq
  cases hb:t.busy with
  | false=>
   have ho:=O.at_
   rw[hb,cq]at ho
   refine xex L.env (L.free T.kt) ho hq (xM T.kq T.kt (r_ne (by omega))) (fun k=>L.stNe T.kq (by simp)) (fun x sx c hx hc e =>?_) caller cs fun w' hK ai h1 h2 =>?_
   .subst e
    obtain⟨k,tk,gk,e1,e2,e3,e4,e5⟩:=L.chan hx hc
    rcases e5 with⟨_,e5⟩|⟨_,e5⟩
    .rw[T.kq]at e5;exact absurd (Option.some.inj e5) (r_ne (by omega))
    .rw[T.kq]at e5
     have:i=k:=(Prod.mk.inj (Option.some.inj e5)).1
     subst this
     rw[ht]at e1
     cases e1
     rw[hb]at e3
     cases e3
   .have tr:R.K w':=(L.K w').2 fun c hc=>by
     obtain⟨p,hp⟩:=List.getElem?_of_mem hc
     have k1:=L.pk p c hp
     exact Tx.StillAt.same (L.now c hc) (hK.block _ (L.kdlt k1) fun z=>z.elim (xM k1 T.kt (r_ne (by omega))) (xM k1 T.kq (r_ne (by omega))))
    have hKF:Keeps F w w':=hK.mono fun b hb=>by
     rcases hb with rfl|rfl
     .exact L.inF T.kt
     .exact L.inF T.kq
    refine h _ F w' ⟨rfl,fin w' hKF⟩ (Toks.le.refl _) gs ps kd R n ?_
    refine L.shut (R':=R) ht hg L.env rfl rfl hK (fun b gu _ =>.inr ?_) (fun x _ _=>⟨rfl,id⟩) (fun x sx hx=>⟨hx,fun h'=>by rw[hb]at h';cases h'⟩) h1 O.prt O.nop (fun h =>?_) tr
    .rcases gu with rfl|rfl
     .exact .inl T.kt
     .exact .inr (.inl T.kq)
    .have P:=T.port h
     exact P.od.same (hK.block _ (L.kdlt P.kdn) fun z=>z.elim (xM P.kdn T.kt (r_ne (by omega))) (xM P.kdn T.kq (r_ne (by omega))))
  | true=>
   have B:=T.body hb
   have P:=T.port B.bg
   have kp:=L.pk _ _ P.pp
   obtain⟨cb,hwF,mz,my,B7⟩:=hw hb
   obtain rfl:g.c.wb=wb:=Option.some.inj (B.tk.symm.trans cb)
   have dh:kd g.c.wb=none:=by
    cases e:kd g.c.wb with
    | none=>rfl
    | some y=>exact absurd (L.inF e) hwF
   have ho:=O.at_
   rw[hb,cq,(O.prt B.bg).1,(O.prt B.bg).2]at ho
   have hRo:=L.round ht hg hb (A:=g.F.A) dh (sH:=wV g.c) fun x hx =>.inr (qb.1 hx)
   have hd:=xM P.kdn T.kq (r_ne (by omega))
   refine xey L.env (L.free T.kt) B.j0 B.jn hRo ⟨xM T.kt kp (r_ne (by omega)),yV T.kt dh⟩ B.seat B.mem (fun k=>L.stNe P.kdn (by simp)) ⟨xM P.kdn T.kq (r_ne (by omega)),xM P.kdn T.kt (r_ne (by omega)),xM T.kq T.kt (r_ne (by omega))⟩ (fun x sx c tg hx hc e =>?_) P.od ⟨_,_,_,_,_,hq⟩ ho caller cs (fun w' hK ai =>?_) fun w' hK h1 h2 =>?_
   .subst e
    obtain⟨k,tk,gk,e1,e2,e3,e4,e5⟩:=L.chan hx hc
    rcases e5 with⟨_,e5⟩|⟨_,e5⟩<;>(rw[P.kdn]at e5;exact absurd (Option.some.inj e5) (r_ne (by omega)))
   .obtain⟨e,L',g₂,g',_,N⟩:=B.now
    have hl:=L.later ht hg hb (A:=g.F.A) (Toks.le.refl _) (fun b y h =>.inl (B.at_.ml b y h)) (fun x _ h=>h) dh ⟨mz,my⟩ B7 (hK.mono fun b hb=>hb.imp id .inl) ai
    exact⟨_,fun b hb=>hb,N.hquit _ _ hl⟩
   .have E':Env (R.gone g.j):=L.env.gone B.j0
    refine Runs.known E' fun lx =>?_
    have hKF:Keeps F w w':=⟨hK.os,hK.tape,hK.output,hK.size,fun b gt hb=>hK.block b gt fun z=>by
     rcases z with z|rfl|rfl|rfl|rfl
     .exact hb (L.inF (B.nfs gt z))
     .exact hb (L.inF kp)
     .exact hb (L.inF P.kdn)
     .exact hb (L.inF T.kt)
     .exact hb (L.inF T.kq)⟩
    refine h _ F w' ⟨rfl,fin w' hKF⟩ (Toks.le.refl _) gs ps kd (R.gone g.j) n ?_
    refine L.shut ht hg E' rfl rfl hK (fun b gu gt =>.inr ?_) (fun x hx _=>⟨upd_ne _ _ (hx hb),fun hm=>⟨hm,hx hb⟩⟩) (fun x sx hx =>?_) h1 (fun _=>⟨rfl,rfl⟩) (fun h=>by rw[B.bg]at h;cases h) (fun _ =>?_) lx
    .rcases gu with z|rfl|rfl|rfl|rfl
     .exact .inr (.inr ⟨B.bg,8,by omega,B.nfs gt z⟩)
     .exact .inr (.inr ⟨B.bg,2,by omega,kp⟩)
     .exact .inr (.inr ⟨B.bg,5,by omega,P.kdn⟩)
     .exact .inl T.kt
     .exact .inr (.inl T.kq)
    .by_cases e:x=g.j
     .subst e
      have hx:upd R.Inb g.j none g.j=some sx:=hx
      rw[upd_same]at hx
      cases hx
     .have hx:upd R.Inb g.j none x=some sx:=hx
      rw[upd_ne _ _ e]at hx
      exact⟨hx,fun _=>e⟩
    .obtain⟨k,e⟩:=h2
     exact⟨k,e⟩
end Go.Proofs.YtfagfflkgmcnpaaGreatDoor.Mx
namespace Go.Proofs.YtfagfflkgmcnpaaGreatDoor.Mx
open Go Go.Conc Lx Kx Tx
open Go.ConcN (sumTo upd sumTo_upd upd_ne upd_same)
variable{Goal:Machine->Trace->Prop}{kd kd':Kd}{ps ps':List WC}{F F' Fs:Fo}{R R':Rg}{n n' nc:Nat}{w w' ws w₃:World}{i:Nat}{t:Th}{g:Gh}{S:Nat->Prop}{ts:List Th}{gs:List Gh}{s s':MS}{fr caller:Frame}{cs:List Frame}{c:WC}{p j:Nat}
def kdN(kd:Kd)(n m p b:Nat):Option (Nat×Nat):=if n<=b/\b<m then some (p,8)else kd b
theorem kdN_old{m q:Nat}(ao : ∀b x,kd b=some x->b<n)(b:Nat)(x:Nat×Nat)(h:kd b=some x):kdN kd n m q b=some x:=by
 unfold kdN
 rw[dA fun y=>by have:=ao b x h;omega]
 exact h
theorem xbH{m q b:Nat}(h1:n<=b)(h2:b<m):kdN kd n m q b=some (q,8):=dB ⟨h1,h2⟩
open Classical in
noncomputable def capM(g:Gh)(kd:Kd)(n b:Nat):Option Nat:=match g.F.A.cap b with
 | some y=>some y
 | none=>if FsOf g n b/\kd b≠some (g.p,8)then some 0 else none
theorem capM_le:g.F.A.le ⟨g.F.A.tok,capM g kd n⟩:=⟨fun _ _ h=>h,fun b y h=>by
 show capM g kd n b=some y
 unfold capM
 rw[h]⟩
theorem capM_fs(Fp : ∀b y,g.F.A.cap b=some y->g.F b)(b y:Nat)(h:capM g kd n b=some y):FsOf g n b:=by
 unfold capM at h
 split at h
 .rename_i z hz
  exact .inl (Fp b z hz)
 .split at h
  .rename_i hh
   exact hh.1
  .cases h
theorem capM_8(x:Nat)(h:kd x=some (g.p,8))(h':g.F.A.cap x=none):capM g kd n x=none:=by
 unfold capM
 rw[h']
 simp only[]
 rw[dA fun y=>y.2 h]
theorem xg4{x:Nat}(K1:FsOf g n x)(h:capM g kd n x=none):kd x=some (g.p,8):=by
 unfold capM at h
 split at h
 .cases h
 .split at h
  .cases h
  .rename_i hh
   exact Classical.byContradiction fun y=>hh ⟨K1,y⟩
theorem xfH{px:Nat}{e:Tx.Ask}{L:List Tx.Ask}{g₂ g₃ g':Goroutine}{sw:WS}(kt:kd c.tb=some (i,0))(kq:kd c.quit=some (i,1))(self:c.self=t.self)(tok:F.A.tok i=some c.tb)(hT:ThrAt c (.pointer (some ⟨px,0,none⟩)) true false w₃)
  (u9:kd px=some (p,8)) (Gp:w₃.heap[px]? = some (accO e)) (hq : ∃k,w₃.heap[c.quit]? = some (.chan 0 #[] false k k false)) (pp:ps[p]? = some c) (kdn:kd c.done=some (p,5)) (od:OpenC c.done 1 w₃)
  (N:AskNow c (resV t.rv) t.tf sw F' e L g₂ g₃ g' ws) (hK:Keeps (fun b=>b=c.tb\/b=c.ask) ws w₃) (kp:kd c.pb=some (p,2)) (ka:kd c.ask=some (p,3)) (kg:kd c.grant=some (p,4)) (kwc:kd c.wc=some (p,6)) (kdb:kd c.db=some (p,8)) (oa:OpenC c.ask 0 w₃) (gr:CapIs c.grant 0 w₃)
  (tk:F.A.cap t.cap=some c.wb) (seat:R.Inb j=some (seatW c (· = g₃))) (mem:R.Mem j) (j0:0<j) (jn:j<n) (r0:c.r0=resV t.r0) (priv : ∀b,b<ws.heap.size ->¬F' b->kd b=some (p,8)) (tol : ∀x,F' x->F'.A.cap x=none->x<w₃.heap.size->kd x=some (p,8))
  (hb:t.busy=true) (su:t.begun=true) (cq:t.closed=false) (ho:t.orc=e::L) (ht:t.told=e.told) (d9:F' c.ask):LkT kd ps F R n w₃ i t ⟨c,p,j,g₃,sw,F',ws⟩:=by
 have same : ∀b y o,kd b=some y->y≠(i,0)->y≠(p,3)->ws.heap[b]? = some o->w₃.heap[b]? = some o:=fun b y o h h0 h1 ho=>
  (hK.block b (Array.getElem?_eq_some_iff.1 ho).1 fun z=>z.elim (xM h kt h0) (xM h ka h1)).trans ho
 obtain⟨told,o1,o2⟩:=N.hR.obj
 have hO:LkO kd w₃ i t ⟨c,p,j,g₃,sw,F',ws⟩ (ptr0 c.pb) (.chan (some c.done)) (ptr0 px):=⟨by rw[hb,cq];exact hT,fun _=>⟨rfl,rfl⟩,fun h=>by rw[su]at h;(cases h),fun h=>by rw[hb]at h;(cases h),fun _=>⟨px,e,L,ho,rfl,u9,Gp⟩⟩
 refine⟨kt,kq,self,tok,⟨_,_,_,hO⟩,fun _=>hq,fun _=>⟨pp,kdn,od,fun _=>⟨sw.steps,told,same _ _ _ kp (r_ne (by omega)) (r_ne (by omega)) o1,?_,fun _=>⟨rfl,?_⟩⟩⟩,fun _ =>?_⟩
 .rw[ht,<- N.ht]
  cases hs:sw.told with
  | none=>rw[hs]at o2;exact o2
  | some r=>
   rw[hs]at o2
   obtain⟨x,vs,rfl,⟨x1,x2⟩,x3,x4,x5,x6,x7⟩:=o2
   have Dm:x<w₃.heap.size:=Nat.lt_of_lt_of_le (Array.getElem?_eq_some_iff.1 x7).1 hK.size
   have k:=tol x x1 x2 Dm
   exact⟨x,vs,rfl,k,x6,same _ _ _ k (r_ne (by omega)) (r_ne (by omega)) x7⟩
 .intro x hx
  cases hs:sw.told with
  | none=>
   rw[hs]at o2
   have:told = .pointer none:=o2
   rw[this]at hx
   cases hx
  | some r=>
   rw[hs]at o2
   obtain⟨y,vs,rfl,⟨x1,x2⟩,_⟩:=o2
   cases hx
   exact⟨fun _=>x1,x2⟩
 .exact {
      bg:=su,nc:=cq,ka:=ka,kg:=kg,kwc:=kwc,kdb:=kdb,oa:=oa,gr:=gr,cap:=same _ _ _ kwc (r_ne (by omega)) (r_ne (by omega)) N.hR.cap.at_,dn:=same _ _ _ kdb (r_ne (by omega)) (r_ne (by omega)) N.hR.dn.at_,
      wbl:=Nat.lt_of_lt_of_le (N.hR.lt _ N.hR.wb) hK.size,tk:=tk,seat:=seat,mem:=mem,j0:=j0,jn:=jn,r0:=r0,told:=by rw[ht];exact N.ht.symm,now:=⟨e,L,g₂,g',ho,N⟩,orc:=by rw[ho];exact N.hL,
      kp:=hK.mono fun b hb=>by
       rcases hb with rfl|rfl
       .exact N.hR.tb
       .exact d9
      priv:=priv}
theorem xiD{g' g₃:Goroutine}{sw:WS}(kt:kd c.tb=some (i,0))(kq:kd c.quit=some (i,1))(self:c.self=t.self)(tok:F.A.tok i=some c.tb)(hT:ThrAt c (.pointer none) false false w₃)
  (hq : ∃k,w₃.heap[c.quit]? = some (.chan 0 #[] false k k false)) (pp:ps[p]? = some c) (kdn:kd c.done=some (p,5)) (od:OpenC c.done 1 w₃)
  (N:DoneNow c (resV t.rv) t.tf sw F' g' ws) (hK:Keeps (fun b=>b=c.tb\/b=c.done) ws w₃) (kp:kd c.pb=some (p,2)) (tol : ∀x,F' x->F'.A.cap x=none->x<w₃.heap.size->kd x=some (p,8))
  (hb:t.busy=false) (su:t.begun=true) (cq:t.closed=false) (ht:t.told=t.tf):LkT kd ps F R n w₃ i t ⟨c,p,j,g₃,sw,F',ws⟩:=by
 have same : ∀b y o,kd b=some y->y≠(i,0)->y≠(p,5)->ws.heap[b]? = some o->w₃.heap[b]? = some o:=fun b y o h h0 h1 ho=>
  (hK.block b (Array.getElem?_eq_some_iff.1 ho).1 fun z=>z.elim (xM h kt h0) (xM h kdn h1)).trans ho
 obtain⟨told,o1,o2⟩:=N.hR.obj
 have hO:LkO kd w₃ i t ⟨c,p,j,g₃,sw,F',ws⟩ (ptr0 c.pb) (.chan (some c.done)) (.pointer none):=⟨by rw[hb,cq];exact hT,fun _=>⟨rfl,rfl⟩,fun h=>by rw[su]at h;(cases h),fun _=>rfl,fun h=>by rw[hb]at h;(cases h)⟩
 refine⟨kt,kq,self,tok,⟨_,_,_,hO⟩,fun _=>hq,fun _=>⟨pp,kdn,od,fun _=>⟨sw.steps,told,same _ _ _ kp (r_ne (by omega)) (r_ne (by omega)) o1,?_,fun h=>by rw[hb]at h;(cases h)⟩⟩,fun h=>by rw[hb]at h;(cases h)⟩
 rw[ht,<- N.ht]
 cases hs:sw.told with
 | none=>rw[hs]at o2;exact o2
 | some r=>
  rw[hs]at o2
  obtain⟨x,vs,rfl,⟨x1,x2⟩,x3,x4,x5,x6,x7⟩:=o2
  have Dm:x<w₃.heap.size:=Nat.lt_of_lt_of_le (Array.getElem?_eq_some_iff.1 x7).1 hK.size
  have k:=tol x x1 x2 Dm
  exact⟨x,vs,rfl,k,x6,same _ _ _ k (r_ne (by omega)) (r_ne (by omega)) x7⟩
end Go.Proofs.YtfagfflkgmcnpaaGreatDoor.Mx
