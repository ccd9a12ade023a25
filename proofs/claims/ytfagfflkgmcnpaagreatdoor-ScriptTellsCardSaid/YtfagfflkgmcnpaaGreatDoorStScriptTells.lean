/- The law ScriptTells: its statement 'ScriptTellsSaid', out of its run: the call returns true. -/
import Derived.Test.YtfagfflkgmcnpaaGreatDoorRows
import Derived.Test.YtfagfflkgmcnpaaGreatDoorCards
import Derived.Test.YtfagfflkgmcnpaaGreatDoorTie
import Derived.Test.YtfagfflkgmcnpaaGreatDoorStM30
import Derived.WalkKit
import Derived.ProofKit
import Derived.OpenShut
import Derived.ShutString
import Derived.ChangeOld
import Derived.Below
import Derived.Conc.LeavingOf
import Derived.SevenTiedAt
import Derived.ChangeSlices
set_option linter.all false
open Go.IntKind (i64 u64 u32 u8)
namespace Go.Proofs.YtfagfflkgmcnpaaGreatDoor.scriptTells
open Go Go.ChangeShapes Go.WideShapes Go.ChangeAt Go.RowKit Go.Conc
theorem own:ownKnob Tryz.prog.godebug=none:=by kernel_rfl
theorem laidOut:laidOutB Tryz.prog=true:=by kernel_rfl
theorem below_of{w w':World}(h:Lx.Keeps (fun _=>False) w w'):Below w.heap.size w w':=⟨h.os,h.tape,h.output,h.size,fun b hb=>h.block b hb (fun h=>h)⟩
set_option maxRecDepth 100000 in
theorem lifted(os:Os)(started:os.Started)(H:Type)(enc:TypeId×Value->H) :
    ReturnsInLeavingWide {} Tryz.checked os 3 .any (fun w args=>(Rows.scriptTellsSpec.pre enc Tryz.prog Tryz.f3 Rows.scriptTellsRow.domain false w args/\laidMetH Tryz.prog Mx.laidL w)/\sizedMet enc Tryz.prog Tryz.f3 (OpenSpec.ofChange Rows.scriptTellsSpec) false w args) (Rows.scriptTellsSpec.post enc Tryz.prog Tryz.f3 false true false false):=by
  refine Mx.leaving_and (C:= Tryz.checked) (X:=fun w _=>laidMetH Tryz.prog Mx.laidL w) (fun _ _ _ hh h=>h.of_heap hh) own started Tryz.func3
    (ChangeSpec.witness_shaped (enc:=enc) (C:= Tryz.checked) (os:=os) (X:=fun w _=>laidMetH Tryz.prog Mx.laidL w) false (World.laidAll Tryz.prog os Mx.laidL) #[.slice none 0 0,.agg #[.int .i64 0,.int .u8 0,.int .i64 0,.int .i64 0,.int .i64 0,.int .i64 0,.int .i64 0,.int .u8 0,.int .i64 0,.int .i64 0],.slice none 0 0] 8 (World.laidAll_os _ _ _)
      (World.shaped_of_ZipB (by kernel_rfl) (by kernel_rfl)) (by kernel_rfl) (by kernel_rfl) (by kernel_rfl)
      (by rw[MakeChecks.laidMetH_plain _ _ _ (by kernel_rfl)];exact laidMet_laidAll _ (by kernel_rfl) (by kernel_rfl))) ?_
  intro W base args ds gs before o7 hW _ hL
  have ge : ∀ (j:Nat) t v,Tryz.f3.params[j]? = some t->args[j]? = some v->Value.okWide Tryz.prog W .any base t v:=o7
  have hW':=hW
  obtain⟨p,q,hA0,hV,rfl,C7,w9⟩:=hW
  have hA:DataW.TrodAll enc Tryz.prog W 0 (fun _=>true) true Tryz.f3.params.toList args.toList ds p:=hA0
  rw[Tryz.params3]at hA ge
  obtain⟨v0,vs0,d0,ds0,p0,q0,bh,rfl,rfl,h0,r0⟩:=trodAll_cons hA
  obtain⟨v1,vs1,d1,ds1,p1,q1,rfl,rfl,rfl,h1,r1⟩:=trodAll_cons r0
  obtain⟨v2,vs2,d2,ds2,p2,q2,rfl,rfl,rfl,h2,r2⟩:=trodAll_cons r1
  obtain⟨rfl,rfl,rfl⟩:=trodAll_nil r2
  obtain rfl:args = #[v0,v1,v2]:=by cases args;simp_all
  obtain⟨rfl,rfl⟩:=trodVars_none hV
  have k0:=h0
  have Iu : ∀x∈p0,x.block<W.heap.size:=by obtain⟨m,hm⟩:=k0;exact DataW.trod_lt m _ _ _ hm
  obtain⟨a0,Iy,Mc,As⟩:=okWide_slice Tryz.underlying22 (ge 0 22 v0 rfl rfl)
  obtain⟨b0,o0,z0,n0,c0,L0,rfl,Iq,Iw,Ig,Dz⟩:=(by obtain⟨fuel,hf⟩:=h0;rw[As]at hf;rw[As];exact Mx.open_nums Tryz.underlying22 Tryz.underlying5 (by kernel_rfl) (by simpa[Value.cells]using hf) : ∃ (b off:Nat) (z:Option Addr) (n c:Nat) (L:List Int),v0=Mx.winV b off z n c/\n<=c/\L.length=n/\(∀y∈L,(Lit.int .u8 y).wf=true)/\Mx.WinK W b ⟨[], 5,false,some (.wcol off .u8 L)⟩)
  clear As
  have k1:=h1
  have It : ∀x∈p1,x.block<W.heap.size:=by obtain⟨m,hm⟩:=k1;exact DataW.trod_lt m _ _ _ hm
  obtain⟨e1,eal,eof,rfl⟩:=Mx.open_entry (ge 1 26 v1 rfl rfl) h1
  have k2:=h2
  have Is : ∀x∈p2,x.block<W.heap.size:=by obtain⟨m,hm⟩:=k2;exact DataW.trod_lt m _ _ _ hm
  obtain⟨a2,Ix,Mb,Ar⟩:=okWide_slice Tryz.underlying27 (ge 2 27 v2 rfl rfl)
  obtain⟨b2,o2,z2,n2,c2,L2,rfl,nc2,Iv,_,Dy⟩:=(by obtain⟨fuel,hf⟩:=h2;rw[Ar]at hf;rw[Ar];exact Mx.open_rows Tryz.underlying27 (by kernel_rfl) (by decide) (fun _ _ _ h=>by obtain⟨e,_,rfl⟩:=xd0 h;exact⟨Mx.evRow e,trivial,Mx.evRow_den e⟩) (by simpa[Value.cells]using hf) : ∃ (b off:Nat) (z:Option Addr) (n c:Nat) (L:List (List Int)),v2=Mx.winV b off z n c/\n<=c/\L.length=n/\(∀r∈L,True)/\Mx.WinK W b ⟨[], 56,false,some (.wrows off Mx.shEv L)⟩)
  clear Ar
  clear hA0 o7
  obtain⟨M,last,o,w',t',r1,r2,r3,r4⟩:=Mx.tells_run (z:=z0) (z2:=z2) (d:=c2) Iq Iw (fun y hy=>bounds_u8 (Ig y hy)) Iv eal eof W hL Dz Dy
  refine⟨M,last,o,w',t',r1,r2,r3,r4.mono fun v hF =>?_⟩
  obtain⟨rfl,hk⟩:=hF
  have bel:=below_of hk
  exact⟨_,_,_,[],_,[],hW',trodAll_mk1 (shut_bool Tryz.underlying4 _),(trodAll_cons_mk (Below.trod laidOut (by kernel_rfl) (dG (by kernel_rfl)) k0 bel Iu) (trodAll_cons_mk (Below.trod laidOut (by kernel_rfl) (dG (by kernel_rfl)) k1 bel It) (trodAll_cons_mk (Below.trod laidOut (by kernel_rfl) (dG (by kernel_rfl)) k2 bel Is) trodAll_mk0))),rfl,bel.frame _,fun h=>by cases h⟩
theorem j1 : Tryz.pinned.checked.prog.unfollowed 3 = Rows.scriptTellsRow.unfollowed:=by kernel_rfl
theorem j2 : Tryz.pinned.checked.prog.recurses 3 = Rows.scriptTellsRow.recurses:=by kernel_rfl
theorem j3 : Tryz.pinned.checked.prog.inPlace 3 = Rows.scriptTellsRow.inPlace:=by kernel_rfl
theorem j4 : Tryz.pinned.checked.prog.varsNamed 3 = Rows.scriptTellsRow.named:=by kernel_rfl
theorem j5:laidOutB Tryz.pinned.checked.prog=true:=by kernel_rfl
theorem j6:mapsRowed Tryz.pinned.checked.prog=true:=by kernel_rfl
theorem j7 : Tryz.pinned.checked.prog.plainKeys=Rows.scriptTellsRow.plainKeys:=by kernel_rfl
theorem joined:joinedFacts Tryz.pinned.checked.prog 3 Tryz.f3 Rows.scriptTellsSpec Rows.scriptTellsRow=true:=by
  unfold joinedFacts
  rw[j1,j2,j3,j4,j5,j6,j7]
  kernel_rfl
theorem named : Tryz.pinned.checked.prog.funcNamed Rows.scriptTellsRow.func=some 3 :=by kernel_rfl
theorem plainF : Tryz.f3.isInstance Tryz.pinned.checked.prog Rows.scriptTellsRow.origin Rows.scriptTellsRow.targs:=dG (by kernel_rfl)
theorem bare : Tryz.f3.isWrapper Tryz.pinned.checked.prog Rows.scriptTellsRow.wrapper Rows.scriptTellsRow.mainSum:=by
  unfold Func.isWrapper
  first
    | (rw[dB (by decide +kernel)];kernel_rfl)
    | (rw[dA (by decide +kernel)];exact⟨rfl,rfl⟩)
theorem over:Rows.scriptTellsRow.holds Tryz.pinned (OpenSpec.ofChange Rows.scriptTellsSpec):=
  OpenClaim.holds_of_wide_leaving 3 Tryz.f3 rfl rfl rfl rfl rfl rfl rfl ⟨rfl,rfl,rfl,rfl,rfl⟩ rfl rfl rfl rfl rfl named Tryz.func3 joined plainF bare
    (fun os started H enc _=>lifted os started H enc)
/-- the row's tied card, which is the statement. -/
theorem proved:Rows.ScriptTellsCardSaid:=by
  have hl : ∀f fn,Tryz.pinned.checked.prog.funcNamed Rows.scriptTellsRow.func=some f-> Tryz.pinned.checked.prog.funcs[f]? = some fn->true = Tryz.pinned.checked.prog.looks []/\ ∀ (j:Nat) t,fn.params[j]? = some t-> Tryz.pinned.checked.prog.wantsStandIn t=false:=fun f fn hf Gf=>by
    obtain rfl:f = 3 :=Option.some.inj (named.symm.trans hf) |>.symm
    obtain rfl:fn = Tryz.f3 :=(Option.some.inj (Tryz.func3.symm.trans Gf)).symm
    refine⟨by kernel_rfl,fun j t ht =>?_⟩
    have dm:(Tryz.f3.params.all fun u=> !Tryz.prog.wantsStandIn u)=true:=by kernel_rfl
    have:=Array.all_eq_true'.1 dm t (Array.mem_of_getElem? ht)
    exact(show Tryz.prog.wantsStandIn t=false by simpa using this)
  refine⟨Claim7.tied_new_at .later [.data,.data] true (Claim7.new_of_sixth over Rows.scriptTellsCard.stood.harness true rfl ⟨rfl,rfl⟩ (by kernel_rfl) (by kernel_rfl) hl) (by kernel_rfl),fun D hD=>(by cases hD),scriptTells_row_tie,fun h=>(by cases h),by kernel_rfl⟩
#print axioms proved
end Go.Proofs.YtfagfflkgmcnpaaGreatDoor.scriptTells
