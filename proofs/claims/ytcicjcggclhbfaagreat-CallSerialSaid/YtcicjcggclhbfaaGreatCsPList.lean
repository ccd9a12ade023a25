/- Part. -/
import Derived.Test.YtcicjcggclhbfaaGreatCsM9
set_option linter.all false
namespace Go.Proofs.YtcicjcggclhbfaaGreat
open Go Go.RowKit Lx
structure HG(n:Nat)(held:Nat->Option HK):Prop where
 blk : ∀g c,held g=some (.blk c)->c<4/\ ∃p j,p<n/\j<blc c/\g=8*p+j*(c+1)
 run : ∀g k,held g=some (.run k)->1<=k/\ ∃p,p+k<=n/\g=8*p
 disj : ∀g g' x y,held g=some x->held g'=some y->g<g'->g+x.ext<=g'
 one : ∀g g' c d,held g=some (.blk c)->held g'=some (.blk d)->g / 8=g' / 8->c=d
theorem HInv.hg{n t:Nat}{A:AS}{held:Nat->Option HK}(hi:HInv n t A held):HG n held:=by
 obtain⟨_,S,mp,vr,rem,bag,pl,h⟩:=hi
 refine⟨fun g c hg=>h.geo hg,fun g k hg=>h.geo hg,fun g g' x y hg iy an=>h.disj hg iy an,fun g g' c d hg iy hp =>?_⟩
 obtain⟨o,j,h1,_⟩:=yj (h.hblk g c hg)
 obtain⟨o',j',Hj,_⟩:=yj (h.hblk g' d iy)
 rw[hp,Hj]at h1;cases h1;rfl
def h13(r:List Int):List Int :=[getI r 0 / 8,if getI r 1 / 8-1>3 then -1 else getI r 1 / 8-1,getI r 1 / 8]
def HK.ok:HK->Prop
 | .blk c=>c<4
 | .run k=>1<=k
section
variable{n:Nat}{L:RowsL}{held:Nat->Option HK}{live:Nat->Option Nat}
theorem HG.kind(h:HG n held){g:Nat}{x:HK}(hg:held g=some x):x.ok:=by
 cases x with
 | blk c=>exact(h.blk g c hg).1
 | run k=>exact(h.run g k hg).1
theorem HG.touch(h:HG n held){p:Nat}:(∃g x,held g=some x/\g<8*p+8/\g+x.ext>8*p)↔Used held p:=by
 constructor
 .rintro ⟨g,x,hg,h1,h2⟩
  cases x with
  | blk c=>
   obtain⟨hc,q,j,hq,hj,rfl⟩:=h.blk g c hg
   have:=yi hj
   simp only[HK.ext]at h2
   obtain rfl:q=p:=by omega
   exact .inr ⟨c,j,hc,hj,hg⟩
  | run k=>
   obtain⟨hk,q,hq,rfl⟩:=h.run g k hg
   simp only[HK.ext]at h2
   exact .inl ⟨q,k,hg,by omega,by omega⟩
 .rintro (⟨q,k,hg,h1,h2⟩|⟨d,j,hd,hj,hg⟩)
  .exact⟨8*q,_,hg,by omega,by simp only[HK.ext];omega⟩
  .have:=yi hj
   exact⟨_,_,hg,by omega,by simp only[HK.ext];omega⟩
end
section
variable{n:Nat}{L:RowsL}{held:Nat->Option HK}{live:Nat->Option Nat}
end
end Go.Proofs.YtcicjcggclhbfaaGreat
