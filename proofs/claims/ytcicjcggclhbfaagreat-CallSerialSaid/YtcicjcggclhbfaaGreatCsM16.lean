/- Part. -/
import Derived.Test.YtcicjcggclhbfaaGreatCsM4
import Derived.OpenShut
import Derived.ChangeSlices
import Derived.ProofKit
import Derived.Deep.Slices
set_option linter.all false
open Go.IntKind (i64 u64 u32 u8)
namespace Go.Proofs.YtcicjcggclhbfaaGreat
section
open Go.RowKit Go.ChangeShapes Lx
structure WinAt(w:World)(b:Nat)(k:Blk):Prop where
 win : ∃off,k.win=some off/\(k.virt=true\/(b<w.heap.size/\ ∀cs,denL NP.pv [] k.real=some cs ->∀j v,cs[j]? = some v->w.cell? ⟨b,off+j,none⟩=some v))
 ok:k.cells = []
theorem xqD{k:Blk}{off:Nat}(h:k.win=some off):k.real.all yx=true:=by
 unfold Blk.real
 cases ht:k.tab with
 | none=>rw[Blk.win_none ht]at h;cases h
 | some t=>exact xfC t
theorem xAz(pv:Value)(w:World)(l:List (Nat×Blk))(h : ∀p∈l,WinAt w p.1 p.2):Emb pv (l.map fun p=>(p.1,0)) (l.map fun p=>some p.2) w:=by
 have at_ : ∀i k,blkAt (l.map fun p=>some p.2) i=some k ->∃p,l[i]? = some p/\p.2=k:=by
  intro i k hk
  rw[yf,List.getElem?_map,oM]at hk
  obtain⟨p,hp,he⟩:=hk
  exact⟨p,hp,by simpa using he⟩
 refine⟨by simp,fun i k hk =>?_,fun i j k k' r r' hk cw _ _ _ _ _ =>.inr ⟨?_,?_⟩,fun i k hk =>?_⟩
 .obtain⟨p,hp,rfl⟩:=at_ i k hk
  obtain⟨off,h1,h2⟩:=(h p (List.mem_of_getElem? hp)).win
  obtain⟨cs,dz⟩:=WQ pv (l.map fun p=>(p.1,0)) (xqD h1)
  refine⟨(p.1,0),cs,by rw[List.getElem?_map,hp];rfl,dz,?_⟩
  rcases h2 with h2|⟨h2,h3⟩
  .exact .inl h2
  .right
   have hm:p.2.mapped=none:=by
    cases hm:p.2.mapped with
    | none=>rfl
    | some m=>rw[(Blk.mapped_win hm).1]at h1;cases h1
   rw[hm,h1]
   exact⟨h2,h3 cs (by rw[<- dz];exact qH (xqD h1))⟩
 .obtain⟨p,hp,rfl⟩:=at_ i k hk
  obtain⟨off,h1,_⟩:=(h p (List.mem_of_getElem? hp)).win
  rw[h1];rfl
 .obtain⟨p,hp,rfl⟩:=at_ j k' cw
  obtain⟨off,h1,_⟩:=(h p (List.mem_of_getElem? hp)).win
  rw[h1];rfl
 .obtain⟨p,hp,rfl⟩:=at_ i k hk
  intro t _
  exact(h p (List.mem_of_getElem? hp)).ok
theorem xyk{f:FuncId}{m:Sm}(hs:SoundF NP f m){args:List V}(l:List (Nat×Blk)){S:Sum}(hm:m args (l.map fun p=>some p.2)=some S){w:World}(hw : ∀p∈l,WinAt w p.1 p.2){vs:List Value}(hv:allSome (denV NP.pv (l.map fun p=>(p.1,0))) args=some vs)
  {x:S.α} (hr:S.t.run NP.step ()=some (x,())) {b:Bool} {H':Heap} (hf:S.f x=some (.c (.bool b),H')):Calls Tryz.prog f vs.toArray w fun en w'=>en = .returned (.bool b)/\Below w.heap.size w w':=by
 have E:=xAz NP.pv w l hw
 refine(hs.2 args _ S hm _ w () (fun _=>False) vs E hv (fun b h=>h) (fun b _ h=>h) x _ H' () hr hf).mono ?_
 rintro en w' ⟨e',F',rv,rfl,_,hd,_,_,_,hk,_⟩
 simp only[denV,den,oI]at hd
 subst hd
 refine⟨rfl,⟨hk.os,hk.tape,hk.output,hk.size,fun b hb=>hk.block b hb ?_⟩⟩
 rintro (⟨i,k,r,h1,_,_,_,h2⟩|h)
 .obtain⟨p,hp,he⟩ : ∃p,l[i]? = some p/\p.2=k:=by
   rw[yf,List.getElem?_map,oM]at h1
   obtain⟨p,hp,he⟩:=h1
   exact⟨p,hp,by simpa using he⟩
  subst he
  obtain⟨off,h3,_⟩:=(hw p (List.mem_of_getElem? hp)).win
  rw[h2 rfl]at h3;cases h3
 .exact h
def winV(b off:Nat)(z:Option Addr)(n c:Nat):Value :=.slice (if n=0 then z else some ⟨b,off,none⟩) n c
section
variable{H:Type}{enc:TypeId×Value->H}{w:World}{base:Nat}{spare:Nat->Bool}{held:Bool}
end
end
section
open Go.RowKit Go.ChangeShapes Lx
section
variable{H:Type}{enc:TypeId×Value->H}{w:World}{base:Nat}{spare:Nat->Bool}{held:Bool}
theorem xyl{t e:TypeId}{sh:List CK}{Q:List Int->Prop}{fuel:Nat}{v:Value}{x:DataW H×List MemPlace}(ht : Tryz.prog.underlying t=some (.slice e))(hc : Tryz.prog.cellsOf e=sh.length)(h0:0<sh.length)
  (ov : ∀ (n:Nat) (cs:List Value) y,DataW.trod enc Tryz.prog w base spare held n e cs=some y ->∃r:List Int,Q r/\denL NP.pv [] (rowC sh r)=some cs)
  (h:DataW.trod enc Tryz.prog w base spare held fuel t [v]=some x) : ∃ (b off:Nat) (z:Option Addr) (n c:Nat) (L:RowsL),v=winV b off z n c/\L.length=n/\(∀r∈L,Q r)/\WinAt w b ⟨[],e,false,some (.wrows off sh L)⟩:=by
 rcases Go.Deep.open_slice ht h with⟨dz,_⟩|⟨a,l,c,m,k,D,Pl,dz,_,hl,hm,Pr,_,hi⟩
 .simp only[List.cons.injEq,and_true]at dz
  subst dz
  exact⟨0,0,none,0,0,[],rfl,rfl,(fun _ h=>by cases h),⟨⟨0,rfl,.inl rfl⟩,rfl⟩⟩
 .simp only[List.cons.injEq,and_true]at dz
  subst dz
  have Dk:l<=m:=by rw[Pr];split<;>omega
  by_cases ms:l=0
  .subst ms
   exact⟨0,0,some a,0,c,[],rfl,rfl,(fun _ h=>by cases h),⟨⟨0,rfl,.inl rfl⟩,rfl⟩⟩
  .obtain⟨E,hE⟩:=Go.Deep.choose_lt (α:=List Int) (n:=l) (p:=fun i r=>Q r/\ ∃cs,w.cells? base (a.add (i*sh.length)) sh.length=some cs/\denL NP.pv [] (rowC sh r)=some cs) (fun i oa=>by
    obtain⟨ru,h1,h2⟩:=hi i (by omega)
    rw[hc]at h1
    obtain⟨r,hr,hd⟩:=ov _ _ _ h2
    exact⟨r,hr,ru,h1,hd⟩)
   have at_ : ∀i,i<l ->∀j,j<sh.length ->∃c v,(rowC sh (E i))[j]? = some c/\den NP.pv [] c=some v/\w.cell? (a.add (i*sh.length+j))=some v:=by
    intro i hi j hj
    obtain⟨_,cs,h1,h2⟩:=hE i hi
    have h3:=(World.cells?_some h1).2.2 j hj
    rw[Go.Deep.add_add]at h3
    have Nc:j<(rowC sh (E i)).length:=by rw[yr];exact hj
    obtain⟨v,h4,h5⟩:=jp h2 (List.getElem?_eq_getElem Nc)
    exact⟨_,v,List.getElem?_eq_getElem Nc,h4,by rw[h3,h5]⟩
   obtain⟨c0,v0,_,_,Gv⟩:=at_ 0 (by omega) 0 h0
   obtain⟨b,o,sp⟩:=a
   have Pa:sp=none:=by simpa[Addr.add]using World.cell?_spot Gv
   subst Pa
   refine⟨b,o,none,l,c,(List.range l).map E,by simp[winV,ms],by simp,fun r hr =>?_,⟨⟨o,rfl,.inr ⟨by simpa[Addr.add]using World.block_lt_of_cell? w _ Gv,fun cs dz j v hj =>?_⟩⟩,rfl⟩⟩
   .obtain⟨i,oa,rfl⟩:=List.mem_map.1 hr
    exact(hE i (by simpa using oa)).1
   .have af:cs.length=l*sh.length:=by
     rw[xT dz]
     show(((List.range l).map E).flatMap (rowC sh)).length=_
     rw[wg,List.length_map,List.length_range]
    have sn:j<l*sh.length:=by rw[<- af];exact(List.getElem?_eq_some_iff.1 hj).1
    have F6:j / sh.length<l:=Nat.div_lt_of_lt_mul (by rw[Nat.mul_comm];exact sn)
    have K9:j%sh.length<sh.length:=Nat.mod_lt _ h0
    have Nd:j / sh.length*sh.length+j%sh.length=j:=by rw[Nat.mul_comm];exact Nat.div_add_mod _ _
    obtain⟨c1,v1,h1,h2,h3⟩:=at_ _ F6 _ K9
    have h4:=KK (sh:=sh) (l:=(List.range l).map E) (i:=j / sh.length) (j:=j%sh.length) (by simpa using F6) K9
    have h5:getR ((List.range l).map E) (j / sh.length)=E (j / sh.length):=by
     unfold getR
     rw[List.getD_eq_getElem?_getD,List.getElem?_map,List.getElem?_range F6];rfl
    rw[h5,h1,Nd]at h4
    obtain⟨v2,h6,h7⟩:=jp dz h4
    rw[h2]at h6
    cases h6
    rw[h7]at hj
    cases hj
    rw[Nd,yI]at h3
    exact h3
end
end
section
open Go.RowKit Go.ChangeShapes Go.WideShapes Go.Deep
def i64ok(n:Int):Prop:= -9223372036854775808<=n/\n<=9223372036854775807
def u8ok(n:Int):Prop:=0<=n/\n<=255
section
variable{H:Type}{enc:TypeId×Value->H}{w:World}{base:Nat}{spare:Nat->Bool}{held:Bool}
theorem jD : Tryz.prog.cellsOf 3 = 1:=by kernel_rfl
theorem We : Tryz.prog.cellsOf 5 = 1:=by kernel_rfl
theorem XL{n:Nat}{t:TypeId}{cs:List Value}{x:DataW H×List MemPlace}(ht : Tryz.prog.underlying t=some (.int .i64))(h:DataW.trod enc Tryz.prog w base spare held n t cs=some x) :
  ∃m,cs = [.int .i64 m]/\i64ok m/\x.2 = []:=by
 obtain⟨m,rfl,rfl,hw⟩:=DataW.trod_int ht h
 exact⟨m,rfl,bounds_i64 hw,rfl⟩
theorem xeN{n:Nat}{t:TypeId}{cs:List Value}{x:DataW H×List MemPlace}(ht : Tryz.prog.underlying t=some (.int .u8))(h:DataW.trod enc Tryz.prog w base spare held n t cs=some x) :
  ∃m,cs = [.int .u8 m]/\u8ok m/\x.2 = []:=by
 obtain⟨m,rfl,rfl,hw⟩:=DataW.trod_int ht h
 exact⟨m,rfl,bounds_u8 hw,rfl⟩
theorem fld{fs:Array Field}{n:Nat}{cs:List Value}{xs:List (DataW H×List MemPlace)}
  (hf : ∀ (i:Nat) (f:Field),fs[i]? = some f->DataW.trod enc Tryz.prog w base spare held n f.type ((cs.drop f.offset).take (Tryz.prog.cellsOf f.type))=xs[i]?)
  (i:Nat) {t o c:Nat} (h:(fs[i]?).map (fun f=>(f.type,f.offset))=some (t,o)) (hc : Tryz.prog.cellsOf t=c) (an:i<xs.length) :
  ∃y,DataW.trod enc Tryz.prog w base spare held n t ((cs.drop o).take c)=some y:=by
 cases hq:fs[i]? with
 | none=>simp[hq]at h
 | some f=>
  rw[hq]at h
  simp only[dL,oI,dH]at h
  obtain⟨rfl,rfl⟩:=h
  subst hc
  exact⟨xs[i],by rw[hf i f hq,List.getElem?_eq_getElem an]⟩
end
end
end Go.Proofs.YtcicjcggclhbfaaGreat
