/- Part. -/
import Derived.Test.YtfagfflkgmcnpaaGreatDoorProg
import Derived.WalkKit
import Derived.ProofKit
import Derived.Deep.Slices
import Derived.Deep.MidRow
import Derived.OpenShut
import Derived.Laws.Rows
set_option linter.all false
open Go.IntKind (i64 u64 u32 u8)
set_option maxRecDepth 1000000
namespace Go.Proofs.YtfagfflkgmcnpaaGreatDoor
open Go.RowKit Go.ChangeShapes Go.WideShapes Go.Deep
structure Cl where
 (op size n align pos off byte:Int)
 deriving DecidableEq,Inhabited
structure Rs where
 (pos n byte c0 c1 c2 c3 c4 e lin touch:Int)
 deriving DecidableEq,Inhabited
structure Ev where
 (thread:Int)
 (call:Cl)
 (sfrom to lin touch:Int)
 (done:Bool)
 (r:Rs)
 deriving DecidableEq,Inhabited
def Cl.cells(c:Cl):List Value :=[.int .u8 c.op,.int .i64 c.size,.int .i64 c.n,.int .i64 c.align,.int .i64 c.pos,.int .i64 c.off,.int .u8 c.byte]
def Rs.cells(r:Rs):List Value :=[.int .i64 r.pos,.int .i64 r.n,.int .u8 r.byte,.int .u64 r.c0,.int .u64 r.c1,.int .u64 r.c2,.int .u64 r.c3,.int .u64 r.c4,.int .i64 r.e,.int .i64 r.lin,.int .i64 r.touch]
def Ev.cells(e:Ev):List Value:=
 [.int .i64 e.thread,.int .u8 e.call.op,.int .i64 e.call.size,.int .i64 e.call.n,.int .i64 e.call.align,.int .i64 e.call.pos,.int .i64 e.call.off,.int .u8 e.call.byte,
 .int .i64 e.sfrom,.int .i64 e.to,.int .i64 e.lin,.int .i64 e.touch,.bool e.done,
 .int .i64 e.r.pos,.int .i64 e.r.n,.int .u8 e.r.byte,.int .u64 e.r.c0,.int .u64 e.r.c1,.int .u64 e.r.c2,.int .u64 e.r.c3,.int .u64 e.r.c4,.int .i64 e.r.e,.int .i64 e.r.lin,.int .i64 e.r.touch]
def kE(n:Int):Prop:= -9223372036854775808<=n/\n<=9223372036854775807
def qU(n:Int):Prop:=0<=n/\n<=18446744073709551615
def u8ok(n:Int):Prop:=0<=n/\n<=255
def Cl.ok(c:Cl):Prop:=u8ok c.op/\kE c.size/\kE c.n/\kE c.align/\kE c.pos/\kE c.off/\u8ok c.byte
def Rs.ok(r:Rs):Prop:=kE r.pos/\kE r.n/\u8ok r.byte/\qU r.c0/\qU r.c1/\qU r.c2/\qU r.c3/\qU r.c4/\kE r.e/\kE r.lin/\kE r.touch
def Ev.ok(e:Ev):Prop:=kE e.thread/\e.call.ok/\kE e.sfrom/\kE e.to/\kE e.lin/\kE e.touch/\e.r.ok
section
variable{H:Type}{enc:TypeId×Value->H}{w:World}{base:Nat}{spare:Nat->Bool}{held:Bool}
theorem yi : Tryz.prog.cellsOf 3 = 1:=by kernel_rfl
theorem xcq : Tryz.prog.cellsOf 4 = 1:=by kernel_rfl
theorem Yu : Tryz.prog.cellsOf 5 = 1:=by kernel_rfl
theorem je : Tryz.prog.cellsOf 50 = 1:=by kernel_rfl
theorem xa7 : Tryz.prog.cellsOf 43 = 1:=by kernel_rfl
theorem Xi : Tryz.prog.cellsOf 24 = 7:=by kernel_rfl
theorem XI : Tryz.prog.cellsOf 52 = 5:=by kernel_rfl
theorem XJ : Tryz.prog.cellsOf 54 = 11:=by kernel_rfl
theorem xcr : Tryz.prog.cellsOf 56 = 24:=by kernel_rfl
theorem yF{n:Nat}{t:TypeId}{cs:List Value}{x:DataW H×List MemPlace}(ht : Tryz.prog.underlying t=some (.int .i64))(h:DataW.trod enc Tryz.prog w base spare held n t cs=some x) :
  ∃m,cs = [.int .i64 m]/\kE m/\x.2 = []:=by
 obtain⟨m,rfl,rfl,hw⟩:=DataW.trod_int ht h
 exact⟨m,rfl,bounds_i64 hw,rfl⟩
theorem qV{n:Nat}{t:TypeId}{cs:List Value}{x:DataW H×List MemPlace}(ht : Tryz.prog.underlying t=some (.int .u64))(h:DataW.trod enc Tryz.prog w base spare held n t cs=some x) :
  ∃m,cs = [.int .u64 m]/\qU m/\x.2 = []:=by
 obtain⟨m,rfl,rfl,hw⟩:=DataW.trod_int ht h
 exact⟨m,rfl,bounds_u64 hw,rfl⟩
theorem xa8{n:Nat}{t:TypeId}{cs:List Value}{x:DataW H×List MemPlace}(ht : Tryz.prog.underlying t=some (.int .u8))(h:DataW.trod enc Tryz.prog w base spare held n t cs=some x) :
  ∃m,cs = [.int .u8 m]/\u8ok m/\x.2 = []:=by
 obtain⟨m,rfl,rfl,hw⟩:=DataW.trod_int ht h
 exact⟨m,rfl,bounds_u8 hw,rfl⟩
theorem fld{fs:Array Field}{n:Nat}{cs:List Value}{xs:List (DataW H×List MemPlace)}
  (hf : ∀ (i:Nat) (f:Field),fs[i]? = some f->DataW.trod enc Tryz.prog w base spare held n f.type ((cs.drop f.offset).take (Tryz.prog.cellsOf f.type))=xs[i]?)
  (i:Nat) {t o c:Nat} (h:(fs[i]?).map (fun f=>(f.type,f.offset))=some (t,o)) (hc : Tryz.prog.cellsOf t=c) (ao:i<xs.length) :
  ∃y,DataW.trod enc Tryz.prog w base spare held n t ((cs.drop o).take c)=some y:=by
 cases hq:fs[i]? with
 | none=>simp[hq]at h
 | some f=>
  rw[hq]at h
  simp only[Option.map_some,Option.some.injEq,Prod.mk.injEq]at h
  obtain⟨rfl,rfl⟩:=h
  subst hc
  exact⟨xs[i],by rw[hf i f hq,List.getElem?_eq_getElem ao]⟩
theorem xae {n:Nat} {cs:List Value} {x:DataW H×List MemPlace} (h:DataW.trod enc Tryz.prog w base spare held n 24 cs=some x) : ∃c:Cl,c.ok/\cs=c.cells:=by
 obtain⟨xs,n,_,hx,hl,aj,hf⟩:=DataW.trod_struct Tryz.underlying24 h
 rw[Xi]at hl
 match cs,hl with
 | [c0,c1,c2,c3,c4,c5,c6],_=>
 have ai:xs.length=7:=aj
 obtain⟨y0,g0⟩:=fld hf 0 (t:= 5) (o:=0) rfl Yu (by omega)
 obtain⟨y1,g1⟩:=fld hf 1 (t:= 3) (o:=1) rfl yi (by omega)
 obtain⟨y2,g2⟩:=fld hf 2 (t:= 3) (o:=2) rfl yi (by omega)
 obtain⟨y3,g3⟩:=fld hf 3 (t:= 3) (o:=3) rfl yi (by omega)
 obtain⟨y4,g4⟩:=fld hf 4 (t:= 3) (o:=4) rfl yi (by omega)
 obtain⟨y5,g5⟩:=fld hf 5 (t:= 3) (o:=5) rfl yi (by omega)
 obtain⟨y6,g6⟩:=fld hf 6 (t:= 5) (o:=6) rfl Yu (by omega)
 simp only[List.drop_zero,List.drop_succ_cons,List.take_succ_cons,List.take_zero]at g0 g1 g2 g3 g4 g5 g6
 obtain⟨m0,e0,k0,_⟩:=xa8 Tryz.underlying5 g0
 obtain⟨m1,e1,k1,_⟩:=yF Tryz.underlying3 g1
 obtain⟨m2,e2,k2,_⟩:=yF Tryz.underlying3 g2
 obtain⟨m3,e3,k3,_⟩:=yF Tryz.underlying3 g3
 obtain⟨m4,e4,k4,_⟩:=yF Tryz.underlying3 g4
 obtain⟨m5,e5,k5,_⟩:=yF Tryz.underlying3 g5
 obtain⟨m6,e6,k6,_⟩:=xa8 Tryz.underlying5 g6
 simp only[List.cons.injEq,and_true]at e0 e1 e2 e3 e4 e5 e6
 subst e0 e1 e2 e3 e4 e5 e6
 exact⟨⟨m0,m1,m2,m3,m4,m5,m6⟩,⟨k0,k1,k2,k3,k4,k5,k6⟩,rfl⟩
theorem xcs {n:Nat} {cs:List Value} {x:DataW H×List MemPlace} (h:DataW.trod enc Tryz.prog w base spare held n 52 cs=some x) :
  ∃c0 c1 c2 c3 c4:Int,qU c0/\qU c1/\qU c2/\qU c3/\qU c4/\cs = [.int .u64 c0,.int .u64 c1,.int .u64 c2,.int .u64 c3,.int .u64 c4]:=by
 obtain⟨xs,n,_,hx,hl,aj,hf⟩:=DataW.trod_struct Tryz.underlying52 h
 rw[XI]at hl
 match cs,hl with
 | [c0,c1,c2,c3,c4],_=>
 have ai:xs.length=5:=aj
 obtain⟨y0,g0⟩:=fld hf 0 (t:= 50) (o:=0) rfl je (by omega)
 obtain⟨y1,g1⟩:=fld hf 1 (t:= 50) (o:=1) rfl je (by omega)
 obtain⟨y2,g2⟩:=fld hf 2 (t:= 50) (o:=2) rfl je (by omega)
 obtain⟨y3,g3⟩:=fld hf 3 (t:= 50) (o:=3) rfl je (by omega)
 obtain⟨y4,g4⟩:=fld hf 4 (t:= 50) (o:=4) rfl je (by omega)
 simp only[List.drop_zero,List.drop_succ_cons,List.take_succ_cons,List.take_zero]at g0 g1 g2 g3 g4
 obtain⟨m0,e0,k0,_⟩:=qV Tryz.underlying50 g0
 obtain⟨m1,e1,k1,_⟩:=qV Tryz.underlying50 g1
 obtain⟨m2,e2,k2,_⟩:=qV Tryz.underlying50 g2
 obtain⟨m3,e3,k3,_⟩:=qV Tryz.underlying50 g3
 obtain⟨m4,e4,k4,_⟩:=qV Tryz.underlying50 g4
 simp only[List.cons.injEq,and_true]at e0 e1 e2 e3 e4
 subst e0 e1 e2 e3 e4
 exact⟨m0,m1,m2,m3,m4,k0,k1,k2,k3,k4,rfl⟩
theorem xct {n:Nat} {cs:List Value} {x:DataW H×List MemPlace} (h:DataW.trod enc Tryz.prog w base spare held n 54 cs=some x) : ∃r:Rs,r.ok/\cs=r.cells:=by
 obtain⟨xs,n,_,hx,hl,aj,hf⟩:=DataW.trod_struct Tryz.underlying54 h
 rw[XJ]at hl
 match cs,hl with
 | [c0,c1,c2,c3,c4,c5,c6,c7,c8,c9,c10],_=>
 have ai:xs.length=7:=aj
 obtain⟨y0,g0⟩:=fld hf 0 (t:= 3) (o:=0) rfl yi (by omega)
 obtain⟨y1,g1⟩:=fld hf 1 (t:= 3) (o:=1) rfl yi (by omega)
 obtain⟨y2,g2⟩:=fld hf 2 (t:= 5) (o:=2) rfl Yu (by omega)
 obtain⟨y3,g3⟩:=fld hf 3 (t:= 52) (o:=3) rfl XI (by omega)
 obtain⟨y4,g4⟩:=fld hf 4 (t:= 43) (o:=8) rfl xa7 (by omega)
 obtain⟨y5,g5⟩:=fld hf 5 (t:= 3) (o:=9) rfl yi (by omega)
 obtain⟨y6,g6⟩:=fld hf 6 (t:= 3) (o:=10) rfl yi (by omega)
 simp only[List.drop_zero,List.drop_succ_cons,List.take_succ_cons,List.take_zero]at g0 g1 g2 g3 g4 g5 g6
 obtain⟨m0,e0,k0,_⟩:=yF Tryz.underlying3 g0
 obtain⟨m1,e1,k1,_⟩:=yF Tryz.underlying3 g1
 obtain⟨m2,e2,k2,_⟩:=xa8 Tryz.underlying5 g2
 obtain⟨a0,a1,a2,a3,a4,l0,l1,l2,l3,l4,e3⟩:=xcs g3
 obtain⟨m4,e4,k4,_⟩:=yF Tryz.underlying43 g4
 obtain⟨m5,e5,k5,_⟩:=yF Tryz.underlying3 g5
 obtain⟨m6,e6,k6,_⟩:=yF Tryz.underlying3 g6
 simp only[List.cons.injEq,and_true]at e0 e1 e2 e3 e4 e5 e6
 obtain⟨L8,L7,L6,Dv,Gs⟩:=e3
 subst e0 e1 e2 L8 L7 L6 Dv Gs e4 e5 e6
 exact⟨⟨m0,m1,m2,a0,a1,a2,a3,a4,m4,m5,m6⟩,⟨k0,k1,k2,l0,l1,l2,l3,l4,k4,k5,k6⟩,rfl⟩
theorem xd0 {n:Nat} {cs:List Value} {x:DataW H×List MemPlace} (h:DataW.trod enc Tryz.prog w base spare held n 56 cs=some x) : ∃e:Ev,e.ok/\cs=e.cells:=by
 obtain⟨xs,n,_,hx,hl,aj,hf⟩:=DataW.trod_struct Tryz.underlying56 h
 rw[xcr]at hl
 match cs,hl with
 | [c0,c1,c2,c3,c4,c5,c6,c7,c8,c9,c10,Bq,Id,Ic,Ib,c15,c16,c17,c18,c19,c20,c21,c22,c23],_=>
 have ai:xs.length=8:=aj
 obtain⟨y0,g0⟩:=fld hf 0 (t:= 3) (o:=0) rfl yi (by omega)
 obtain⟨y1,g1⟩:=fld hf 1 (t:= 24) (o:=1) rfl Xi (by omega)
 obtain⟨y2,g2⟩:=fld hf 2 (t:= 3) (o:=8) rfl yi (by omega)
 obtain⟨y3,g3⟩:=fld hf 3 (t:= 3) (o:=9) rfl yi (by omega)
 obtain⟨y4,g4⟩:=fld hf 4 (t:= 3) (o:=10) rfl yi (by omega)
 obtain⟨y5,g5⟩:=fld hf 5 (t:= 3) (o:=11) rfl yi (by omega)
 obtain⟨y6,g6⟩:=fld hf 6 (t:= 4) (o:=12) rfl xcq (by omega)
 obtain⟨y7,g7⟩:=fld hf 7 (t:= 54) (o:=13) rfl XJ (by omega)
 simp only[List.drop_zero,List.drop_succ_cons,List.take_succ_cons,List.take_zero]at g0 g1 g2 g3 g4 g5 g6 g7
 obtain⟨m0,e0,k0,_⟩:=yF Tryz.underlying3 g0
 obtain⟨c,k1,e1⟩:=xae g1
 obtain⟨m2,e2,k2,_⟩:=yF Tryz.underlying3 g2
 obtain⟨m3,e3,k3,_⟩:=yF Tryz.underlying3 g3
 obtain⟨m4,e4,k4,_⟩:=yF Tryz.underlying3 g4
 obtain⟨m5,e5,k5,_⟩:=yF Tryz.underlying3 g5
 obtain⟨m6,e6,_⟩:=DataW.trod_bool Tryz.underlying4 g6
 obtain⟨r,k7,e7⟩:=xct g7
 simp only[List.cons.injEq,and_true,Cl.cells,Rs.cells]at e0 e1 e2 e3 e4 e5 e6 e7
 obtain⟨Dk,Gy,Gx,Gw,Gv,Gu,Gt⟩:=e1
 obtain⟨L5,L4,L3,Lz,Ly,Lw,Lv,Lu,Ls,Lr,e7a⟩:=e7
 subst e0 Dk Gy Gx Gw Gv Gu Gt e2 e3 e4 e5 e6 L5 L4 L3 Lz Ly Lw Lv Lu Ls Lr e7a
 exact⟨⟨m0,c,m2,m3,m4,m5,m6,r⟩,⟨k0,k1,k2,k3,k4,k5,k7⟩,rfl⟩
end
end Go.Proofs.YtfagfflkgmcnpaaGreatDoor
