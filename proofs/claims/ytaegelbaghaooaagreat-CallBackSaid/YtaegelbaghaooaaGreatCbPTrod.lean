/- Part. -/
import Derived.Test.YtaegelbaghaooaaGreatCbPTurn
import Derived.Test.YtaegelbaghaooaaGreatCbM16
set_option linter.all false
open Go.IntKind (i64 u64 u32 u8)
set_option maxRecDepth 1000000
namespace Go.Proofs.YtaegelbaghaooaaGreat
open Go Go.RowKit Go.ChangeShapes Lx
def shT:List CK :=[.int .u8,.int .u8,.int .u8,.int .i64,.int .i64,.int .i64,.int .i64,.int .i64,.int .u8]
theorem xsE : Tryz.prog.cellsOf 116 = 9:=by kernel_rfl
theorem xlJ : Tryz.prog.cellsOf 97 = 7:=by kernel_rfl
section
variable{H:Type}{enc:TypeId×Value->H}{w:World}{base:Nat}{spare:Nat->Bool}{held:Bool}
theorem xv3 {n:Nat} {cs:List Value} {x:DataW H×List MemPlace} (h:DataW.trod enc Tryz.prog w base spare held n 116 cs=some x) : ∃r:List Int,TurnOk r/\denL NP.pv [] (rowC shT r)=some cs:=by
 obtain⟨xs,n,_,hx,hl,hlen,hf⟩:=DataW.trod_struct Tryz.underlying116 h
 rw[xsE]at hl
 match cs,hl with
 | [c0,c1,c2,c3,c4,c5,c6,c7,c8],_=>
 have hsz:xs.length=3:=hlen
 obtain⟨y0,g0⟩:=fld hf 0 (t:= 5) (o:=0) rfl Yi (by omega)
 obtain⟨y1,g1⟩:=fld hf 1 (t:= 5) (o:=1) rfl Yi (by omega)
 obtain⟨y2,g2⟩:=fld hf 2 (t:= 97) (o:=2) rfl xlJ (by omega)
 simp only[List.drop_zero,List.drop_succ_cons,List.take_succ_cons,List.take_zero]at g0 g1 g2
 obtain⟨m0,e0,k0,_⟩:=xdn Tryz.underlying5 g0
 obtain⟨m1,e1,k1,_⟩:=xdn Tryz.underlying5 g1
 obtain⟨xs2,n2,_,hx2,hl2,hlen2,hf2⟩:=DataW.trod_struct Tryz.underlying97 g2
 have hsz2:xs2.length=7:=hlen2
 obtain⟨z0,q0⟩:=fld hf2 0 (t:= 5) (o:=0) rfl Yi (by omega)
 obtain⟨z1,q1⟩:=fld hf2 1 (t:= 3) (o:=1) rfl kN (by omega)
 obtain⟨z2,q2⟩:=fld hf2 2 (t:= 3) (o:=2) rfl kN (by omega)
 obtain⟨z3,q3⟩:=fld hf2 3 (t:= 3) (o:=3) rfl kN (by omega)
 obtain⟨z4,q4⟩:=fld hf2 4 (t:= 3) (o:=4) rfl kN (by omega)
 obtain⟨z5,q5⟩:=fld hf2 5 (t:= 3) (o:=5) rfl kN (by omega)
 obtain⟨z6,q6⟩:=fld hf2 6 (t:= 5) (o:=6) rfl Yi (by omega)
 simp only[List.drop_zero,List.drop_succ_cons,List.take_succ_cons,List.take_zero]at q0 q1 q2 q3 q4 q5 q6
 obtain⟨m2,e2,k2,_⟩:=xdn Tryz.underlying5 q0
 obtain⟨m3,e3,k3,_⟩:=ZL Tryz.underlying3 q1
 obtain⟨m4,e4,k4,_⟩:=ZL Tryz.underlying3 q2
 obtain⟨m5,e5,k5,_⟩:=ZL Tryz.underlying3 q3
 obtain⟨m6,e6,k6,_⟩:=ZL Tryz.underlying3 q4
 obtain⟨m7,e7,k7,_⟩:=ZL Tryz.underlying3 q5
 obtain⟨m8,e8,k8,_⟩:=xdn Tryz.underlying5 q6
 simp only[List.cons.injEq,and_true]at e0 e1 e2 e3 e4 e5 e6 e7 e8
 subst e0 e1 e2 e3 e4 e5 e6 e7 e8
 exact⟨[m0,m1,m2,m3,m4,m5,m6,m7,m8],⟨k0,k3.2,k4.2,k5.2,k8⟩,rfl⟩
end
end Go.Proofs.YtaegelbaghaooaaGreat
