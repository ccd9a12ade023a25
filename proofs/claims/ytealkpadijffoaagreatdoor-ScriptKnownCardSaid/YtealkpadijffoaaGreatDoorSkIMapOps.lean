/- Part. -/
import Derived.Test.YtealkpadijffoaaGreatDoorSkIMap
set_option linter.all false
open Go.IntKind (i64 u64 u32 u8)
namespace Go.Proofs.YtealkpadijffoaaGreatDoor.IM
open Go.RowKit Go.Maps
structure El(α:Type) where
 val:α->Value
 dv:α->DataW Unit
 R:Value->Option (DataW Unit×List MemPlace)
 rd : ∀x,R (val x)=some (dv x,[])
 inv : ∀v x ps,R v=some (dv x,ps)->v=val x
def Own{α:Type}(E:El α)(P:Program)(k:TypeId)(w:World)(b n:Nat)(l:List (Int×α)):Prop:=w.ownsMap P k E.R b n (toD E.dv l)
theorem key_ok{P:Program}{k:TypeId}(hk:P.underlying k=some (.int .i64)){z:Int}(h1 : -9223372036854775808<=z)(h2:z<=9223372036854775807):keyOf P k (.int .i64 z)=some (.int .i64 z):=
 keyOf_int_mk hk (by simp only[Lit.wf,Bool.and_eq_true,decide_eq_true_eq];exact⟨h1,h2⟩)
section
variable{α:Type}{E:El α}{P:Program}{k:TypeId}{w:World}{b n:Nat}{l:List (Int×α)}
theorem Own.made(E:El α)(P:Program)(k:TypeId)(w:World):Own E P k (w.alloc (.map #[] 0)) w.heap.size 0 []:=World.ownsMap_made _ _ _ _
theorem Own.mono(h:Own E P k w b n l){n':Nat}(hn:n<=n'):Own E P k w b n' l:=World.ownsMap.mono h hn
theorem Own.lt(h:Own E P k w b n l):b<w.heap.size:=World.ownsMap.lt h
theorem Own.alloc(h:Own E P k w b n l)(o:Obj):Own E P k (w.alloc o) b n l:=World.ownsMap.alloc h o
theorem Own.drew(h:Own E P k w b n l):Own E P k w.drew b n l:=h
theorem Own.kept{w':World}{row:Option Nat}(h:Own E P k w b n l)(hg:w.grownBy w' row)(hne:some b≠row):Own E P k w' b n l:=World.ownsMap.kept h hg hne
theorem Own.length(h:Own E P k w b n l):l.length<=n:=by
 have:=World.ownsMap.size_le h
 rwa [toD_size]at this
theorem Own.of_heap{w':World}(h:Own E P k w b n l)(e:w'.heap[b]? = w.heap[b]?):Own E P k w' b n l:=by
 obtain⟨es,clock,hb,F,hs,hD⟩:=h
 exact⟨es,clock,e.trans hb,F,hs,hD⟩
theorem Own.below{w':World}{m:Nat}(h:Own E P k w b n l)(hb:Below m w w')(hlt:b<m):Own E P k w' b n l:=h.of_heap (hb.block b hlt)
end
section
variable{α:Type}(E:El α){P:Program}(w:World){ops:Array Oper}{rest:List Oper}{o:Oper}{a:Act}{Q:Exit->Act->World->Prop}
theorem Own.run_update{E:El α}{k t e:TypeId}{w:World}{b n:Nat}{l:List (Int×α)}(h:Own E P k w b n l)(hk:P.underlying k=some (.int .i64))(ht:P.underlying t=some (.map k e))(hn:n<maxLen)(z:Int)(y:α)(hkey:keyOf P k (.int .i64 z)=some (.int .i64 z)) :
  ∃w',(Instr.mapUpdate t (.map (some b)) (.int .i64 z) (E.val y)).run P w = .ok () w'/\Own E P k w' b (n+1) (putI z y l)/\w.grownBy w' (some b):=by
 obtain⟨w',h1,h2,h3⟩:=World.ownsMap.update h (int_keyed hk) ht hn hkey (E.rd y)
 rw[toD_put]at h2
 exact⟨w',h1,h2,h3⟩
end
end Go.Proofs.YtealkpadijffoaaGreatDoor.IM
