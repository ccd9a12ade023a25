/- Part. -/
import Derived.Test.YtfagfflkgmcnpaaGreatDoorStM2
set_option linter.all false
namespace Go.Proofs.YtfagfflkgmcnpaaGreatDoor.Lx
open Go
def mrg:LS->LS->LS
 | .no,y=>y
 | x,.no=>x
 | .two a b,.two c d =>.two (mrg a c) (mrg b d)
 | .cut f a b,.two c d =>.cut f (mrg a c) (mrg b d)
 | .two a b,.cut f c d =>.cut f (mrg a c) (mrg b d)
 | x,_=>x
theorem vu{P:Program}{Γ:xK}{n:Fu}{m0:Nat} : ∀ {x y:LS} {c:Code} {lv:Nat},Good P Γ n m0 x c lv->Good P Γ n m0 y c lv->Good P Γ n m0 (mrg x y) c lv
 | .no,y,c,lv,_,h=>by simpa only[mrg]using h
 | .loop f a,.no,c,lv,h,_=>h
 | .loop f a,.two _ _,c,lv,h,_=>h
 | .loop f a,.loop _ _,c,lv,h,_=>h
 | .loop f a,.cut _ _ _,c,lv,h,_=>h
 | .loop f a,.peel _ _,c,lv,h,_=>h
 | .peel f a,.no,c,lv,h,_=>h
 | .peel f a,.two _ _,c,lv,h,_=>h
 | .peel f a,.loop _ _,c,lv,h,_=>h
 | .peel f a,.cut _ _ _,c,lv,h,_=>h
 | .peel f a,.peel _ _,c,lv,h,_=>h
 | .cut f a b,.no,c,lv,h,_=>h
 | .cut f a b,.loop _ _,c,lv,h,_=>h
 | .cut f a b,.peel _ _,c,lv,h,_=>h
 | .cut f a b,.cut _ _ _,c,lv,h,_=>h
 | .two a b,.no,c,lv,h,_=>h
 | .two a b,.loop _ _,c,lv,h,_=>h
 | .two a b,.peel _ _,c,lv,h,_=>h
 | .cut f a b,.two a' b',c,lv,h,h'=>by
  simp only[mrg]
  cases c with
  | seq p q=>
   simp only[Good]at h h' |-
   have hb:=vu h.2.1 h'.2
   exact⟨vu h.1 h'.1,hb,fun st K t ht=>((VG _ _ _ hb _ _).trans (VG _ _ _ h.2.1 _ _).symm).trans (h.2.2 st K t ht)⟩
  | _=>simp only[Good]
 | .two a b,.cut f a' b',c,lv,h,h'=>by
  simp only[mrg]
  cases c with
  | seq p q=>
   simp only[Good]at h h' |-
   have hb:=vu h.2 h'.2.1
   exact⟨vu h.1 h'.1,hb,fun st K t ht=>((VG _ _ _ hb _ _).trans (VG _ _ _ h'.2.1 _ _).symm).trans (h'.2.2 st K t ht)⟩
  | _=>simp only[Good]
 | .two a b,.two a' b',c,lv,h,h'=>by
  simp only[mrg]
  cases c with
  | seq p q=>simp only[Good]at h h' |-;exact⟨vu h.1 h'.1,vu h.2 h'.2⟩
  | cond t p q=>simp only[Good]at h h' |-;exact⟨vu h.1 h'.1,vu h.2 h'.2⟩
  | block id p=>simp only[Good]at h h' |-;exact vu h h'
  | scope p=>simp only[Good]at h h' |-;exact vu h h'
  | _=>simp only[Good]
end Go.Proofs.YtfagfflkgmcnpaaGreatDoor.Lx
