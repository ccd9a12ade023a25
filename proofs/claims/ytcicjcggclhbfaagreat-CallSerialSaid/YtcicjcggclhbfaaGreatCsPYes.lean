/- Part. -/
import Derived.Test.YtcicjcggclhbfaaGreatCsPGeo
set_option linter.all false
namespace Go.Proofs.YtcicjcggclhbfaaGreat
open Go Go.RowKit Lx
def Yes(q:T Bool):Prop:=q.run NP.step ()=some (true,())
theorem Yes.ret:Yes (.ret true):=rfl
theorem Yes.yes{x y:T Bool}{b:Bool}(hb:b=true)(h:Yes x):Yes (bif b then x else y):=by subst hb;exact h
theorem Yes.no{x y:T Bool}{b:Bool}(hb:b=false)(h:Yes y):Yes (bif b then x else y):=by subst hb;exact h
theorem Yes.run{α:Type}{q:T α}{a:α}{k:α->T Bool}(h:q = .ret a)(hk:Yes (k a)):Yes (q.bind k):=by subst h;exact hk
theorem Yes.guard{g:Bool}{k:Unit->T Bool}(hg:g=true)(hk:Yes (k ())):Yes ((yE g).bind k):=by subst hg;exact hk
theorem Yes.vN{α:Type}{g:Bool}{q:T α}{s:DS}{k:α×DS->T Bool}{n t:Nat}{A:AS}{Q:α->AS->Prop}(hg:g=true)(hR:Rep n t A s)(hq:Rn n t q A Q)(hn : ∀x A',Q x A'->A'.told=none)(hk : ∀x A' s',Q x A'->Rep n t A' s'->Yes (k (x,s'))):Yes ((vN g q s).bind k):=by
 obtain⟨x,A',h1,h2⟩:=hq
 obtain⟨s',h3,h4⟩:=WR q hR h1
 exact Yes.run (xug hg h3 (by rw[h4.told,hn x A' h2])) (hk x A' s' h2 h4)
theorem Yes.vR{α:Type}{g:Bool}{q:T α}{s:DS}{k:α×Res×DS->T Bool}{n t:Nat}{A:AS}{Q:α->AS->Prop}(hg:g=true)(hR:Rep n t A s)(hq:Rn n t q A Q)(hn : ∀x A',Q x A' ->∃r:Res,A'.told=some r.cells)(hk : ∀x r A' s',Q x A'->A'.told=some (Res.cells r)->Rep n t A' s'->Yes (k (x,r,s'))):Yes ((vR g q s).bind k):=by
 obtain⟨x,A',h1,h2⟩:=hq
 obtain⟨s',h3,h4⟩:=WR q hR h1
 obtain⟨r,hr⟩:=hn x A' h2
 exact Yes.run (xAn hg h3 (by rw[h4.told,hr])) (hk x r A' s' h2 hr h4)
theorem xxr{n t:Nat}{A:AS}{s:DS}(hf:Few n t)(h:Rep n t A s)(hb:A.b.length<=1000000):okS s.m.words.length s.m.words.length s.m.bytes.length s.m.bytes.length s.m.words s.m.bytes=true:=by
 have:=xxf hf.n2 hf.t2
 exact okS_yes (by rw[h.len];omega) (by rw[h.bytes];exact hb)
theorem xCh{n t:Nat}(hf:Few n t):newT (n:Int) (t:Int) = .ret (xd n t,true):=by
 have h:=xCf hf NP.step ()
 unfold newT xqA at h |-
 have hn:=hf.n2
 have lu:=hf.n1
 have ht:=hf.t2
 have zk:=hf.t1
 rw[dC (show ¬ (n:Int)<1 by omega),dC (show ¬ (n:Int)>256 by omega),dC (show ¬ (t:Int)<1 by omega),dC (show ¬ (t:Int)>64 by omega)]at h |-
 simp only[cond_false,T.run,oI,dH,and_true]at h |-
 rw[h]
end Go.Proofs.YtcicjcggclhbfaaGreat
