/- Part. -/
import Derived.Test.YtcicjcggclhbfaaGreatCsM3
import Derived.Deep.QuietTactic
import Derived.BigQuiet
import Derived.Deep.RegionHeld3
import Derived.RegionTactic
import Derived.StillTailTactics
set_option linter.all false
open Go.IntKind (i64 u64 u32 u8)
set_option maxRecDepth 1000000
namespace Go.Proofs.YtcicjcggclhbfaaGreat
section
open Go.RowKit Lx
theorem xzp(mm wb n n':Nat)(w:World)(h0:w.cell? ⟨mm,0,none⟩=some (.slice (some ⟨wb,0,none⟩) n n')) :
  Calls Tryz.prog 163 #[.pointer (some ⟨mm,0,none⟩)] w fun e w'=>e = .returned (.int .i64 n)/\w=w':=by
 go_enter Tryz.func163,Tryz.ntmps163
 go_wp2
 go_ret
 exact⟨rfl,rfl⟩
theorem xzq(mm bb k k':Nat)(w:World)(h1:w.cell? ⟨mm,1,none⟩=some (.slice (some ⟨bb,0,none⟩) k k')) :
  Calls Tryz.prog 165 #[.pointer (some ⟨mm,0,none⟩)] w fun e w'=>e = .returned (.int .i64 k)/\w=w':=by
 go_enter Tryz.func165,Tryz.ntmps165
 go_wp2
 go_ret
 exact⟨rfl,rfl⟩
theorem Xd(d wy:Nat)(w:World)(h0:w.cell? ⟨d,0,none⟩=some (.pointer (some ⟨wy,0,none⟩))) :
  Calls Tryz.prog 46 #[.pointer (some ⟨d,0,none⟩)] w fun e w'=>e = .returned (.pointer (some ⟨wy,0,none⟩))/\w=w':=by
 go_enter Tryz.func46,Tryz.ntmps46
 go_wp2
 go_ret
 exact⟨rfl,rfl⟩
theorem xBI(d:Nat)(s:Int)(w:World)(h0:w.cell? ⟨d,1,none⟩=some (.int .i64 s)) :
  Calls Tryz.prog 280 #[.pointer (some ⟨d,0,none⟩)] w fun e w'=>e = .returned (.int .i64 s)/\w=w':=by
 go_enter Tryz.func280,Tryz.ntmps280
 go_wp2
 go_ret
 exact⟨rfl,rfl⟩
theorem xzr(d wy:Nat)(s:Int)(w:World)(h0:w.cell? ⟨d,0,none⟩=some (.pointer (some ⟨wy,0,none⟩)))(h1:w.cell? ⟨wy,1,none⟩=some (.int .i64 s)) :
  Calls Tryz.prog 18 #[.pointer (some ⟨d,0,none⟩)] w fun e w'=>e = .returned (.int .i64 s)/\w=w':=by
 go_enter Tryz.func18,Tryz.ntmps18
 go_wp2_with (go_at_call 46;refine(Xd d wy _ h0).mono ?_;rintro e w' ⟨rfl,rfl⟩)
 go_ret
 exact⟨rfl,rfl⟩
theorem k1_any(x kd at_ A B:Int)(w:World) :
  Calls Tryz.prog 210 #[.int .u64 x,.agg #[.int .u8 kd,.int .i64 at_,.int .u64 A,.int .u64 B]] w fun e w'=>e = .returned (.tuple #[.int .u64 x,.int .u64 x])/\Below w.heap.size w w':=by
 go_enter Tryz.func210,Tryz.ntmps210
 go_wp2
 go_ret2
 exact⟨rfl,by first|exact Below.refl _ _|exact(Below.refl _ _).alloc (dI _) _⟩
theorem k2_any(x kd at_ A B:Int)(w:World) :
  Calls Tryz.prog 211 #[.int .u64 x,.agg #[.int .u8 kd,.int .i64 at_,.int .u64 A,.int .u64 B]] w fun e w'=>e = .returned (.tuple #[.int .u64 A,.int .u64 0])/\Below w.heap.size w w':=by
 go_enter Tryz.func211,Tryz.ntmps211
 go_wp2
 go_ret2
 exact⟨rfl,by first|exact Below.refl _ _|exact(Below.refl _ _).alloc (dI _) _⟩
theorem k3_yes(x kd at_ B:Int)(w:World) :
  Calls Tryz.prog 212 #[.int .u64 x,.agg #[.int .u8 kd,.int .i64 at_,.int .u64 x,.int .u64 B]] w fun e w'=>e = .returned (.tuple #[.int .u64 B,.int .u64 1])/\Below w.heap.size w w':=by
 go_enter Tryz.func212,Tryz.ntmps212
 go_wp2
 go_ret2
 exact⟨rfl,by first|exact Below.refl _ _|exact(Below.refl _ _).alloc (dI _) _⟩
theorem k3_no(x kd at_ A B:Int)(w:World)(h:(x==A)=false)(h':(x != A)=true) :
  Calls Tryz.prog 212 #[.int .u64 x,.agg #[.int .u8 kd,.int .i64 at_,.int .u64 A,.int .u64 B]] w fun e w'=>e = .returned (.tuple #[.int .u64 x,.int .u64 0])/\Below w.heap.size w w':=by
 go_enter Tryz.func212,Tryz.ntmps212
 go_wp2
 go_ret2
 exact⟨rfl,by first|exact Below.refl _ _|exact(Below.refl _ _).alloc (dI _) _⟩
theorem k4_any(x kd at_ A B:Int)(w:World) :
  Calls Tryz.prog 213 #[.int .u64 x,.agg #[.int .u8 kd,.int .i64 at_,.int .u64 A,.int .u64 B]] w fun e w'=>e = .returned (.tuple #[.int .u64 (u64.wrap (x+A)),.int .u64 x])/\Below w.heap.size w w':=by
 go_enter Tryz.func213,Tryz.ntmps213
 go_wp2
 go_ret2
 exact⟨rfl,by first|exact Below.refl _ _|exact(Below.refl _ _).alloc (dI _) _⟩
theorem Ze(w:World):Calls Tryz.prog 164 #[] w fun e w'=>e = .returned (.agg #[.nilFunc,.func (.func 210) #[] #[],.func (.func 211) #[] #[],.func (.func 212) #[] #[],.func (.func 213) #[] #[]])/\Below w.heap.size w w':=
 Lx.calls_flat (m:=inl Tryz.prog (fun _=>none) 1 Tryz.f164) (args :=[]) (vs :=[]) (x:=(.agg [.nilf,.fn 210 [],.fn 211 [],.fn 212 [],.fn 213 []],[]))
  (xcV (fun f m h=>by cases h) mixed Tryz.func164 (by kernel_rfl) (by kernel_rfl) 1) rfl rfl (by kernel_rfl) rfl (fun e=>by kernel_rfl) w
end
section
open Go.RowKit Lx
theorem wd(mm wb n n':Nat)(w:World)(h0:w.cell? ⟨mm,0,none⟩=some (.slice (some ⟨wb,0,none⟩) n n')) :
  Calls Tryz.prog 163 #[.pointer (some ⟨mm,0,none⟩)] w fun e w'=>e = .returned (.int .i64 n)/\w'=w:=(xzp mm wb n n' w h0).mono fun e w' h=>⟨h.1,h.2.symm⟩
def WM(w:World)(wb i:Nat)(now told:Int)(e:Ending)(w':World):Prop:=
 e = .returned (.tuple #[.int .u64 told,.bool true])/\ ∃w1,Below w.heap.size w w1/\w'=w1.setCell ⟨wb,i,none⟩ (.int .u64 now)
theorem Zf{w w1:World}(hb:Below w.heap.size w w1){b o:Nat}{v:Value}(h:w.cell? ⟨b,o,none⟩=some v)(an:b<w.heap.size):w1.cell? ⟨b,o,none⟩=some v:=by
 rw[hb.cell (p:=⟨b,o,none⟩) an,h]
theorem vE{B n:Nat}{w w1:World}(h:Below B w w1):Below B w (w1.drewN n):=⟨h.os,h.tape,h.output,h.size,h.block⟩
theorem yL{B:Nat}{w w1:World}(h:Below B w w1):Below B w w1.drew:=⟨h.os,h.tape,h.output,h.size,h.block⟩
def Hel(w:World)(k mm wb n n' i:Nat)(kd x A B:Int)(w':World):Prop:=w'.cell? ⟨k,0,none⟩=some (.int .u8 kd)/\w'.cell? ⟨k,1,none⟩=some (.int .i64 i)/\w'.cell? ⟨k,2,none⟩=some (.int .u64 A)/\w'.cell? ⟨k,3,none⟩=some (.int .u64 B)/\w'.cell? ⟨mm,0,none⟩=some (.slice (some ⟨wb,0,none⟩) n n')/\w'.cell? ⟨wb,i,none⟩=some (.int .u64 x)/\Below w.heap.size w w'/\w.heap.size<w'.heap.size
section
variable{w w1 w2:World}{mm wb n n' i:Nat}{kd x A B:Int}
theorem Hel.begin(h0:w.cell? ⟨mm,0,none⟩=some (.slice (some ⟨wb,0,none⟩) n n'))(hx:w.cell? ⟨wb,i,none⟩=some (.int .u64 x))(hm:mm<w.heap.size)(db:wb<w.heap.size) :
  Hel w w.heap.size mm wb n n' i kd x A B (w.alloc (.cells #[.int .u8 kd,.int .i64 i,.int .u64 A,.int .u64 B] 176)):=by
 refine⟨by simp,by simp,by simp,by simp,?_,?_,(Below.refl _ _).alloc (dI _) _,by rw[Lx.heap_alloc];simp⟩
 .rw[World.cell?_alloc_past _ _ _ hm,h0]
 .rw[World.cell?_alloc_past _ _ _ db,hx]
theorem Hel.drewN{k m:Nat}(h:Hel w k mm wb n n' i kd x A B w1):Hel w k mm wb n n' i kd x A B (w1.drewN m):=⟨h.1,h.2.1,h.2.2.1,h.2.2.2.1,h.2.2.2.2.1,h.2.2.2.2.2.1,vE h.2.2.2.2.2.2.1,h.2.2.2.2.2.2.2⟩
theorem Hel.drew{k:Nat}(h:Hel w k mm wb n n' i kd x A B w1):Hel w k mm wb n n' i kd x A B w1.drew:=⟨h.1,h.2.1,h.2.2.1,h.2.2.2.1,h.2.2.2.2.1,h.2.2.2.2.2.1,yL h.2.2.2.2.2.2.1,h.2.2.2.2.2.2.2⟩
theorem Hel.on(hm:mm<w.heap.size)(db:wb<w.heap.size)(h:Hel w w.heap.size mm wb n n' i kd x A B w1)(hb:Below w1.heap.size w1 w2):Hel w w.heap.size mm wb n n' i kd x A B w2:=by
 obtain⟨h1,h2,h3,h4,h5,h6,h7,h8⟩:=h
 have:=hb.size
 exact⟨Zf hb h1 h8,Zf hb h2 h8,Zf hb h3 h8,Zf hb h4 h8,Zf hb h5 (by omega),Zf hb h6 (by omega),h7.trans (hb.mono (by omega)),by omega⟩
end
theorem do_load(mm wb n n' i:Nat)(x A B:Int)(w:World)(h0:w.cell? ⟨mm,0,none⟩=some (.slice (some ⟨wb,0,none⟩) n n'))
  (hx:w.cell? ⟨wb,i,none⟩=some (.int .u64 x)) (mu:w.frozen? ⟨wb,i,none⟩=false) (hi:i<n) (hm:mm<w.heap.size) (db:wb<w.heap.size) (hn:n<=1000000) :
  Calls Tryz.prog 103 #[.pointer (some ⟨mm,0,none⟩),.agg #[.int .u8 1,.int .i64 i,.int .u64 A,.int .u64 B]] w (WM w wb i x x):=by
 have zo:decide ((i:Int)<0)=false:=by simp
 have fw:decide (n<=i)=false:=by simp;omega
 have HB:=Lib.hid (Hel.begin (kd:=1) (A:=A) (B:=B) h0 hx hm db)
 go_enter Tryz.func103,Tryz.ntmps103
 go_wp2
 have gq:(w.alloc (.cells #[.int .u8 1,.int .i64 i,.int .u64 A,.int .u64 B] 176)).cell? ⟨mm,0,none⟩=some (.slice (some ⟨wb,0,none⟩) n n'):=HB.out.2.2.2.2.1
 go_quiet ((go_at_call 163;exact Calls.quiet_of_same (wd mm wb n n' _ gq)))
 clear gq
 have dk : ∀w,(Instr.index 227 (.agg #[.nilFunc,.func (.func 210) #[] #[],.func (.func 211) #[] #[],.func (.func 212) #[] #[],.func (.func 213) #[] #[]]) (.int .u8 1)).run Tryz.prog w = .ok (.func (.func 210) #[] #[]) w:=fun w=>by kernel_rfl
 go_wp2_with fail
 go_region_held3 (fun w'=>w'.cell? ⟨w.heap.size,0,none⟩=some (.int .u8 1)/\w'.cell? ⟨w.heap.size,1,none⟩=some (.int .i64 i)/\w'.cell? ⟨w.heap.size,2,none⟩=some (.int .u64 A)/\w'.cell? ⟨w.heap.size,3,none⟩=some (.int .u64 B)/\w'.cell? ⟨mm,0,none⟩=some (.slice (some ⟨wb,0,none⟩) n n')/\w'.cell? ⟨wb,i,none⟩=some (.int .u64 x)/\Below w.heap.size w w'/\w.heap.size<w'.heap.size)
  (first|exact HB.out.drewN.drew|exact HB.out.drewN|exact Hel.on hm db HB.out.drewN dl|exact Hel.on hm db (Hel.on hm db HB.out.drewN dl) cm)
  (first|(go_at_call 164;refine(Ze _).mono ?_;rintro e1 w1 ⟨rfl,dl⟩)|(go_at_call 210;refine(k1_any x 1 i A B _).mono ?_;rintro e2 w2 ⟨rfl,cm⟩))
 have HC:=Lib.hid (Hel.on hm db (Hel.on hm db HB.out.drewN dl) cm)
 clear dl cm
 obtain⟨g1,g2,g3,g4,g5,g6,g7,g8⟩:=HC.out
 have og:w2.frozen? ⟨wb,i,none⟩=false:=by rw[g7.frozen (p:=⟨wb,i,none⟩) db,mu]
 have HG:=Lib.hid g7
 clear HC g7 g6 g4 g3 g1 h0 hx mu HB dk
 go_wp2_with fail
 go_still_tail 8,(by kernel_rfl)
 change wpList _ _ _ _ _ w2.drew
 go_wp2
 go_ret2
 exact⟨rfl,w2.drew,yL HG.out,rfl⟩
/-! printed -/
theorem Xe(mm wb n n':Nat)(w:World)(h0:w.cell? ⟨mm,1,none⟩=some (.slice (some ⟨wb,0,none⟩) n n')) :
  Calls Tryz.prog 165 #[.pointer (some ⟨mm,0,none⟩)] w fun e w'=>e = .returned (.int .i64 n)/\w'=w:=(xzq mm wb n n' w h0).mono fun e w' h=>⟨h.1,h.2.symm⟩
def xbp(w:World)(e:Ending)(w':World):Prop:=e = .returned (.tuple #[.int .u64 0,.bool false])/\Below w.heap.size w w'
theorem xBJ(mm wb n n' i:Nat)(x A B:Int)(w:World)(h0:w.cell? ⟨mm,0,none⟩=some (.slice (some ⟨wb,0,none⟩) n n'))
  (hx:w.cell? ⟨wb,i,none⟩=some (.int .u64 x)) (mu:w.frozen? ⟨wb,i,none⟩=false) (hi:i<n) (hm:mm<w.heap.size) (db:wb<w.heap.size) (hn:n<=1000000) :
  Calls Tryz.prog 103 #[.pointer (some ⟨mm,0,none⟩),.agg #[.int .u8 2,.int .i64 i,.int .u64 A,.int .u64 B]] w (WM w wb i A 0):=by
 have zo:decide ((i:Int)<0)=false:=by simp
 have fw:decide (n<=i)=false:=by simp;omega
 have HB:=Lib.hid (Hel.begin (kd:=2) (A:=A) (B:=B) h0 hx hm db)
 go_enter Tryz.func103,Tryz.ntmps103
 go_wp2
 have gq:(w.alloc (.cells #[.int .u8 2,.int .i64 i,.int .u64 A,.int .u64 B] 176)).cell? ⟨mm,0,none⟩=some (.slice (some ⟨wb,0,none⟩) n n'):=HB.out.2.2.2.2.1
 go_quiet ((go_at_call 163;exact Calls.quiet_of_same (wd mm wb n n' _ gq)))
 clear gq
 have dk : ∀w,(Instr.index 227 (.agg #[.nilFunc,.func (.func 210) #[] #[],.func (.func 211) #[] #[],.func (.func 212) #[] #[],.func (.func 213) #[] #[]]) (.int .u8 2)).run Tryz.prog w = .ok (.func (.func 211) #[] #[]) w:=fun w=>by kernel_rfl
 go_wp2_with fail
 go_region_held3 (fun w'=>w'.cell? ⟨w.heap.size,0,none⟩=some (.int .u8 2)/\w'.cell? ⟨w.heap.size,1,none⟩=some (.int .i64 i)/\w'.cell? ⟨w.heap.size,2,none⟩=some (.int .u64 A)/\w'.cell? ⟨w.heap.size,3,none⟩=some (.int .u64 B)/\w'.cell? ⟨mm,0,none⟩=some (.slice (some ⟨wb,0,none⟩) n n')/\w'.cell? ⟨wb,i,none⟩=some (.int .u64 x)/\Below w.heap.size w w'/\w.heap.size<w'.heap.size)
  (first|exact HB.out.drewN.drew|exact HB.out.drewN|exact Hel.on hm db HB.out.drewN dl|exact Hel.on hm db (Hel.on hm db HB.out.drewN dl) cm)
  (first|(go_at_call 164;refine(Ze _).mono ?_;rintro e1 w1 ⟨rfl,dl⟩)|(go_at_call 211;refine(k2_any x 2 i A B _).mono ?_;rintro e2 w2 ⟨rfl,cm⟩))
 have HC:=Lib.hid (Hel.on hm db (Hel.on hm db HB.out.drewN dl) cm)
 clear dl cm
 obtain⟨g1,g2,g3,g4,g5,g6,g7,g8⟩:=HC.out
 have og:w2.frozen? ⟨wb,i,none⟩=false:=by rw[g7.frozen (p:=⟨wb,i,none⟩) db,mu]
 have HG:=Lib.hid g7
 clear HC g7 g6 g4 g3 g1 h0 hx mu HB dk
 go_wp2_with fail
 go_still_tail 8,(by kernel_rfl)
 change wpList _ _ _ _ _ w2.drew
 go_wp2
 go_ret2
 exact⟨rfl,w2.drew,yL HG.out,rfl⟩
theorem do_cas(mm wb n n' i:Nat)(x B:Int)(w:World)(h0:w.cell? ⟨mm,0,none⟩=some (.slice (some ⟨wb,0,none⟩) n n'))
  (hx:w.cell? ⟨wb,i,none⟩=some (.int .u64 x)) (mu:w.frozen? ⟨wb,i,none⟩=false) (hi:i<n) (hm:mm<w.heap.size) (db:wb<w.heap.size) (hn:n<=1000000) :
  Calls Tryz.prog 103 #[.pointer (some ⟨mm,0,none⟩),.agg #[.int .u8 3,.int .i64 i,.int .u64 x,.int .u64 B]] w (WM w wb i B 1):=by
 have zo:decide ((i:Int)<0)=false:=by simp
 have fw:decide (n<=i)=false:=by simp;omega
 have HB:=Lib.hid (Hel.begin (kd:=3) (A:=x) (B:=B) h0 hx hm db)
 go_enter Tryz.func103,Tryz.ntmps103
 go_wp2
 have gq:(w.alloc (.cells #[.int .u8 3,.int .i64 i,.int .u64 x,.int .u64 B] 176)).cell? ⟨mm,0,none⟩=some (.slice (some ⟨wb,0,none⟩) n n'):=HB.out.2.2.2.2.1
 go_quiet ((go_at_call 163;exact Calls.quiet_of_same (wd mm wb n n' _ gq)))
 clear gq
 have dk : ∀w,(Instr.index 227 (.agg #[.nilFunc,.func (.func 210) #[] #[],.func (.func 211) #[] #[],.func (.func 212) #[] #[],.func (.func 213) #[] #[]]) (.int .u8 3)).run Tryz.prog w = .ok (.func (.func 212) #[] #[]) w:=fun w=>by kernel_rfl
 go_wp2_with fail
 go_region_held3 (fun w'=>w'.cell? ⟨w.heap.size,0,none⟩=some (.int .u8 3)/\w'.cell? ⟨w.heap.size,1,none⟩=some (.int .i64 i)/\w'.cell? ⟨w.heap.size,2,none⟩=some (.int .u64 x)/\w'.cell? ⟨w.heap.size,3,none⟩=some (.int .u64 B)/\w'.cell? ⟨mm,0,none⟩=some (.slice (some ⟨wb,0,none⟩) n n')/\w'.cell? ⟨wb,i,none⟩=some (.int .u64 x)/\Below w.heap.size w w'/\w.heap.size<w'.heap.size)
  (first|exact HB.out.drewN.drew|exact HB.out.drewN|exact Hel.on hm db HB.out.drewN dl|exact Hel.on hm db (Hel.on hm db HB.out.drewN dl) cm)
  (first|(go_at_call 164;refine(Ze _).mono ?_;rintro e1 w1 ⟨rfl,dl⟩)|(go_at_call 212;refine(k3_yes x 3 i B _).mono ?_;rintro e2 w2 ⟨rfl,cm⟩))
 have HC:=Lib.hid (Hel.on hm db (Hel.on hm db HB.out.drewN dl) cm)
 clear dl cm
 obtain⟨g1,g2,g3,g4,g5,g6,g7,g8⟩:=HC.out
 have og:w2.frozen? ⟨wb,i,none⟩=false:=by rw[g7.frozen (p:=⟨wb,i,none⟩) db,mu]
 have HG:=Lib.hid g7
 clear HC g7 g6 g4 g3 g1 h0 hx mu HB dk
 go_wp2_with fail
 go_still_tail 8,(by kernel_rfl)
 change wpList _ _ _ _ _ w2.drew
 go_wp2
 go_ret2
 exact⟨rfl,w2.drew,yL HG.out,rfl⟩
theorem xvL(mm wb n n' i:Nat)(x A B:Int)(w:World)(h0:w.cell? ⟨mm,0,none⟩=some (.slice (some ⟨wb,0,none⟩) n n'))
  (hx:w.cell? ⟨wb,i,none⟩=some (.int .u64 x)) (mu:w.frozen? ⟨wb,i,none⟩=false) (hi:i<n) (hm:mm<w.heap.size) (db:wb<w.heap.size) (hn:n<=1000000) (HN:Hid ((x==A)=false)/\Hid ((x != A)=true)) :
  Calls Tryz.prog 103 #[.pointer (some ⟨mm,0,none⟩),.agg #[.int .u8 3,.int .i64 i,.int .u64 A,.int .u64 B]] w (WM w wb i x 0):=by
 have zo:decide ((i:Int)<0)=false:=by simp
 have fw:decide (n<=i)=false:=by simp;omega
 have HB:=Lib.hid (Hel.begin (kd:=3) (A:=A) (B:=B) h0 hx hm db)
 go_enter Tryz.func103,Tryz.ntmps103
 go_wp2
 have gq:(w.alloc (.cells #[.int .u8 3,.int .i64 i,.int .u64 A,.int .u64 B] 176)).cell? ⟨mm,0,none⟩=some (.slice (some ⟨wb,0,none⟩) n n'):=HB.out.2.2.2.2.1
 go_quiet ((go_at_call 163;exact Calls.quiet_of_same (wd mm wb n n' _ gq)))
 clear gq
 have dk : ∀w,(Instr.index 227 (.agg #[.nilFunc,.func (.func 210) #[] #[],.func (.func 211) #[] #[],.func (.func 212) #[] #[],.func (.func 213) #[] #[]]) (.int .u8 3)).run Tryz.prog w = .ok (.func (.func 212) #[] #[]) w:=fun w=>by kernel_rfl
 go_wp2_with fail
 go_region_held3 (fun w'=>w'.cell? ⟨w.heap.size,0,none⟩=some (.int .u8 3)/\w'.cell? ⟨w.heap.size,1,none⟩=some (.int .i64 i)/\w'.cell? ⟨w.heap.size,2,none⟩=some (.int .u64 A)/\w'.cell? ⟨w.heap.size,3,none⟩=some (.int .u64 B)/\w'.cell? ⟨mm,0,none⟩=some (.slice (some ⟨wb,0,none⟩) n n')/\w'.cell? ⟨wb,i,none⟩=some (.int .u64 x)/\Below w.heap.size w w'/\w.heap.size<w'.heap.size)
  (first|exact HB.out.drewN.drew|exact HB.out.drewN|exact Hel.on hm db HB.out.drewN dl|exact Hel.on hm db (Hel.on hm db HB.out.drewN dl) cm)
  (first|(go_at_call 164;refine(Ze _).mono ?_;rintro e1 w1 ⟨rfl,dl⟩)|(go_at_call 212;refine(k3_no x 3 i A B _ HN.1.out HN.2.out).mono ?_;rintro e2 w2 ⟨rfl,cm⟩))
 have HC:=Lib.hid (Hel.on hm db (Hel.on hm db HB.out.drewN dl) cm)
 clear dl cm
 obtain⟨g1,g2,g3,g4,g5,g6,g7,g8⟩:=HC.out
 have og:w2.frozen? ⟨wb,i,none⟩=false:=by rw[g7.frozen (p:=⟨wb,i,none⟩) db,mu]
 have HG:=Lib.hid g7
 clear HC g7 g6 g4 g3 g1 h0 hx mu HB dk
 go_wp2_with fail
 go_still_tail 8,(by kernel_rfl)
 change wpList _ _ _ _ _ w2.drew
 go_wp2
 go_ret2
 exact⟨rfl,w2.drew,yL HG.out,rfl⟩
theorem do_add(mm wb n n' i:Nat)(x A B:Int)(w:World)(h0:w.cell? ⟨mm,0,none⟩=some (.slice (some ⟨wb,0,none⟩) n n'))
  (hx:w.cell? ⟨wb,i,none⟩=some (.int .u64 x)) (mu:w.frozen? ⟨wb,i,none⟩=false) (hi:i<n) (hm:mm<w.heap.size) (db:wb<w.heap.size) (hn:n<=1000000) :
  Calls Tryz.prog 103 #[.pointer (some ⟨mm,0,none⟩),.agg #[.int .u8 4,.int .i64 i,.int .u64 A,.int .u64 B]] w (WM w wb i (u64.wrap (x+A)) x):=by
 have zo:decide ((i:Int)<0)=false:=by simp
 have fw:decide (n<=i)=false:=by simp;omega
 have HB:=Lib.hid (Hel.begin (kd:=4) (A:=A) (B:=B) h0 hx hm db)
 go_enter Tryz.func103,Tryz.ntmps103
 go_wp2
 have gq:(w.alloc (.cells #[.int .u8 4,.int .i64 i,.int .u64 A,.int .u64 B] 176)).cell? ⟨mm,0,none⟩=some (.slice (some ⟨wb,0,none⟩) n n'):=HB.out.2.2.2.2.1
 go_quiet ((go_at_call 163;exact Calls.quiet_of_same (wd mm wb n n' _ gq)))
 clear gq
 have dk : ∀w,(Instr.index 227 (.agg #[.nilFunc,.func (.func 210) #[] #[],.func (.func 211) #[] #[],.func (.func 212) #[] #[],.func (.func 213) #[] #[]]) (.int .u8 4)).run Tryz.prog w = .ok (.func (.func 213) #[] #[]) w:=fun w=>by kernel_rfl
 go_wp2_with fail
 go_region_held3 (fun w'=>w'.cell? ⟨w.heap.size,0,none⟩=some (.int .u8 4)/\w'.cell? ⟨w.heap.size,1,none⟩=some (.int .i64 i)/\w'.cell? ⟨w.heap.size,2,none⟩=some (.int .u64 A)/\w'.cell? ⟨w.heap.size,3,none⟩=some (.int .u64 B)/\w'.cell? ⟨mm,0,none⟩=some (.slice (some ⟨wb,0,none⟩) n n')/\w'.cell? ⟨wb,i,none⟩=some (.int .u64 x)/\Below w.heap.size w w'/\w.heap.size<w'.heap.size)
  (first|exact HB.out.drewN.drew|exact HB.out.drewN|exact Hel.on hm db HB.out.drewN dl|exact Hel.on hm db (Hel.on hm db HB.out.drewN dl) cm)
  (first|(go_at_call 164;refine(Ze _).mono ?_;rintro e1 w1 ⟨rfl,dl⟩)|(go_at_call 213;refine(k4_any x 4 i A B _).mono ?_;rintro e2 w2 ⟨rfl,cm⟩))
 have HC:=Lib.hid (Hel.on hm db (Hel.on hm db HB.out.drewN dl) cm)
 clear dl cm
 obtain⟨g1,g2,g3,g4,g5,g6,g7,g8⟩:=HC.out
 have og:w2.frozen? ⟨wb,i,none⟩=false:=by rw[g7.frozen (p:=⟨wb,i,none⟩) db,mu]
 have HG:=Lib.hid g7
 clear HC g7 g6 g4 g3 g1 h0 hx mu HB dk
 go_wp2_with fail
 go_still_tail 8,(by kernel_rfl)
 change wpList _ _ _ _ _ w2.drew
 go_wp2
 go_ret2
 exact⟨rfl,w2.drew,yL HG.out,rfl⟩
theorem xfm(k:Int)(hk:k=1\/k=2\/k=3\/k=4)(mm wb n n':Nat)(at_ A B:Int)(w:World)(h0:w.cell? ⟨mm,0,none⟩=some (.slice (some ⟨wb,0,none⟩) n n'))(hm:mm<w.heap.size)(hn:n<=1000000)(J6:at_<0) :
  Calls Tryz.prog 103 #[.pointer (some ⟨mm,0,none⟩),.agg #[.int .u8 k,.int .i64 at_,.int .u64 A,.int .u64 B]] w (xbp w):=by
 have zo:decide (at_<0)=true:=by simp;omega
 have gq : ∀k,(w.alloc (.cells #[.int .u8 k,.int .i64 at_,.int .u64 A,.int .u64 B] 176)).cell? ⟨mm,0,none⟩=some (.slice (some ⟨wb,0,none⟩) n n'):=fun k=>by rw[World.cell?_alloc_past _ _ _ hm,h0]
 rcases hk with rfl|rfl|rfl|rfl
 all_goals
  go_enter Tryz.func103,Tryz.ntmps103
  go_wp2
  go_quiet ((go_at_call 163;exact Calls.quiet_of_same (wd mm wb n n' _ (gq _))))
  go_wp2
  go_ret2
  exact⟨rfl,by first|exact vE ((Below.refl _ _).alloc (dI _) _)|exact(Below.refl _ _).alloc (dI _) _⟩
theorem xfn(k:Int)(hk:k=1\/k=2\/k=3\/k=4)(mm wb n n':Nat)(at_ A B:Int)(w:World)(h0:w.cell? ⟨mm,0,none⟩=some (.slice (some ⟨wb,0,none⟩) n n'))(hm:mm<w.heap.size)(hn:n<=1000000)(Ae:0<=at_)(Gb:(n:Int)<=at_) :
  Calls Tryz.prog 103 #[.pointer (some ⟨mm,0,none⟩),.agg #[.int .u8 k,.int .i64 at_,.int .u64 A,.int .u64 B]] w (xbp w):=by
 have zo:decide (at_<0)=false:=by simp;omega
 have fw:decide ((n:Int)<=at_)=true:=by simp;omega
 have gq : ∀k,(w.alloc (.cells #[.int .u8 k,.int .i64 at_,.int .u64 A,.int .u64 B] 176)).cell? ⟨mm,0,none⟩=some (.slice (some ⟨wb,0,none⟩) n n'):=fun k=>by rw[World.cell?_alloc_past _ _ _ hm,h0]
 rcases hk with rfl|rfl|rfl|rfl
 all_goals
  go_enter Tryz.func103,Tryz.ntmps103
  go_wp2
  go_quiet ((go_at_call 163;exact Calls.quiet_of_same (wd mm wb n n' _ (gq _))))
  go_wp2
  go_ret2
  exact⟨rfl,by first|exact vE ((Below.refl _ _).alloc (dI _) _)|exact(Below.refl _ _).alloc (dI _) _⟩
theorem xxb(k:Int)(hk:k=5\/k=6)(mm wb n n':Nat)(at_ A B:Int)(w:World)(h0:w.cell? ⟨mm,1,none⟩=some (.slice (some ⟨wb,0,none⟩) n n'))(hm:mm<w.heap.size)(hn:n<=1000000)(J6:at_<0) :
  Calls Tryz.prog 103 #[.pointer (some ⟨mm,0,none⟩),.agg #[.int .u8 k,.int .i64 at_,.int .u64 A,.int .u64 B]] w (xbp w):=by
 have zo:decide (at_<0)=true:=by simp;omega
 have gq : ∀k,(w.alloc (.cells #[.int .u8 k,.int .i64 at_,.int .u64 A,.int .u64 B] 176)).cell? ⟨mm,1,none⟩=some (.slice (some ⟨wb,0,none⟩) n n'):=fun k=>by rw[World.cell?_alloc_past _ _ _ hm,h0]
 rcases hk with rfl|rfl
 all_goals
  go_enter Tryz.func103,Tryz.ntmps103
  go_wp2
  go_quiet ((go_at_call 165;exact Calls.quiet_of_same (Xe mm wb n n' _ (gq _))))
  go_wp2
  go_ret2
  exact⟨rfl,by first|exact vE ((Below.refl _ _).alloc (dI _) _)|exact(Below.refl _ _).alloc (dI _) _⟩
theorem xxc(k:Int)(hk:k=5\/k=6)(mm wb n n':Nat)(at_ A B:Int)(w:World)(h0:w.cell? ⟨mm,1,none⟩=some (.slice (some ⟨wb,0,none⟩) n n'))(hm:mm<w.heap.size)(hn:n<=1000000)(Ae:0<=at_)(Gb:(n:Int)<=at_) :
  Calls Tryz.prog 103 #[.pointer (some ⟨mm,0,none⟩),.agg #[.int .u8 k,.int .i64 at_,.int .u64 A,.int .u64 B]] w (xbp w):=by
 have zo:decide (at_<0)=false:=by simp;omega
 have fw:decide ((n:Int)<=at_)=true:=by simp;omega
 have gq : ∀k,(w.alloc (.cells #[.int .u8 k,.int .i64 at_,.int .u64 A,.int .u64 B] 176)).cell? ⟨mm,1,none⟩=some (.slice (some ⟨wb,0,none⟩) n n'):=fun k=>by rw[World.cell?_alloc_past _ _ _ hm,h0]
 rcases hk with rfl|rfl
 all_goals
  go_enter Tryz.func103,Tryz.ntmps103
  go_wp2
  go_quiet ((go_at_call 165;exact Calls.quiet_of_same (Xe mm wb n n' _ (gq _))))
  go_wp2
  go_ret2
  exact⟨rfl,by first|exact vE ((Below.refl _ _).alloc (dI _) _)|exact(Below.refl _ _).alloc (dI _) _⟩
end
section
open Go.RowKit Lx
theorem u64_in{x:Int}(h0:0<=x)(h1:x<=18446744073709551615):u64.wrap x=x:=by
 simp only[IntKind.wrap,IntKind.signed,IntKind.bits,Bool.false_and,Bool.false_eq_true,if_false];omega
theorem u8_in{x:Int}(h0:0<=x)(h1:x<=255):u8.wrap x=x:=by
 simp only[IntKind.wrap,IntKind.signed,IntKind.bits,Bool.false_and,Bool.false_eq_true,if_false];omega
def DidGet(w:World)(x:Int)(e:Ending)(w':World):Prop:=e = .returned (.tuple #[.int .u64 x,.bool true])/\Below w.heap.size w w'
def DidPut(w:World)(bb i:Nat)(now:Int)(e:Ending)(w':World):Prop:=
 e = .returned (.tuple #[.int .u64 0,.bool true])/\ ∃w1,Below w.heap.size w w1/\w'=w1.setCell ⟨bb,i,none⟩ (.int .u8 now)
theorem do_get(mm bb n n' i:Nat)(x A B:Int)(w:World)(h0:w.cell? ⟨mm,1,none⟩=some (.slice (some ⟨bb,0,none⟩) n n'))
  (hx:w.cell? ⟨bb,i,none⟩=some (.int .u8 x)) (hi:i<n) (hm:mm<w.heap.size) (ox:bb<w.heap.size) (hn:n<=1000000) (nf:0<=x) (Jb:x<=255) :
  Calls Tryz.prog 103 #[.pointer (some ⟨mm,0,none⟩),.agg #[.int .u8 5,.int .i64 i,.int .u64 A,.int .u64 B]] w (DidGet w x):=by
 have zo:decide ((i:Int)<0)=false:=by simp
 have fw:decide (n<=i)=false:=by simp;omega
 go_enter Tryz.func103,Tryz.ntmps103
 go_wp2
 have gq:(w.alloc (.cells #[.int .u8 5,.int .i64 i,.int .u64 A,.int .u64 B] 176)).cell? ⟨mm,1,none⟩=some (.slice (some ⟨bb,0,none⟩) n n'):=by rw[World.cell?_alloc_past _ _ _ hm,h0]
 have tg:(w.alloc (.cells #[.int .u8 5,.int .i64 i,.int .u64 A,.int .u64 B] 176)).cell? ⟨bb,i,none⟩=some (.int .u8 x):=by rw[World.cell?_alloc_past _ _ _ ox,hx]
 go_quiet ((go_at_call 165;exact Calls.quiet_of_same (Xe mm bb n n' _ gq)))
 have l9:u64.wrap x=x:=u64_in nf (by omega)
 have HB:Hid (Below w.heap.size w (w.alloc (.cells #[.int .u8 5,.int .i64 i,.int .u64 A,.int .u64 B] 176))):=Lib.hid ((Below.refl _ _).alloc (dI _) _)
 go_wp2_with fail
 go_quiet (fail)
 go_wp2
 go_ret2
 exact⟨rfl,vE (vE HB.out)⟩
theorem do_put(mm bb n n' i:Nat)(x A B:Int)(w:World)(h0:w.cell? ⟨mm,1,none⟩=some (.slice (some ⟨bb,0,none⟩) n n'))
  (hx:w.cell? ⟨bb,i,none⟩=some (.int .u8 x)) (mu:w.frozen? ⟨bb,i,none⟩=false) (hi:i<n) (hm:mm<w.heap.size) (ox:bb<w.heap.size) (hn:n<=1000000) (nf:0<=A) (Jb:A<=255) :
  Calls Tryz.prog 103 #[.pointer (some ⟨mm,0,none⟩),.agg #[.int .u8 6,.int .i64 i,.int .u64 A,.int .u64 B]] w (DidPut w bb i A):=by
 have zo:decide ((i:Int)<0)=false:=by simp
 have fw:decide (n<=i)=false:=by simp;omega
 go_enter Tryz.func103,Tryz.ntmps103
 go_wp2
 have gq:(w.alloc (.cells #[.int .u8 6,.int .i64 i,.int .u64 A,.int .u64 B] 176)).cell? ⟨mm,1,none⟩=some (.slice (some ⟨bb,0,none⟩) n n'):=by rw[World.cell?_alloc_past _ _ _ hm,h0]
 have tg:(w.alloc (.cells #[.int .u8 6,.int .i64 i,.int .u64 A,.int .u64 B] 176)).cell? ⟨bb,i,none⟩=some (.int .u8 x):=by rw[World.cell?_alloc_past _ _ _ ox,hx]
 have Mi:(w.alloc (.cells #[.int .u8 6,.int .i64 i,.int .u64 A,.int .u64 B] 176)).frozen? ⟨bb,i,none⟩=false:=by
  have:=((Below.refl w.heap.size w).alloc (dI _) (.cells #[.int .u8 6,.int .i64 i,.int .u64 A,.int .u64 B] 176)).frozen (p:=⟨bb,i,none⟩) ox
  rw[this,mu]
 go_quiet ((go_at_call 165;exact Calls.quiet_of_same (Xe mm bb n n' _ gq)))
 have l9:u8.wrap A=A:=u8_in nf Jb
 have k0:((w.alloc (.cells #[.int .u8 6,.int .i64 i,.int .u64 A,.int .u64 B] 176)).drewN nq).cell? ⟨w.heap.size,0,none⟩=some (.int .u8 6):=(show(w.alloc (.cells #[.int .u8 6,.int .i64 i,.int .u64 A,.int .u64 B] 176)).cell? ⟨w.heap.size,0,none⟩=some (.int .u8 6)by simp)
 have k1:((w.alloc (.cells #[.int .u8 6,.int .i64 i,.int .u64 A,.int .u64 B] 176)).drewN nq).cell? ⟨w.heap.size,1,none⟩=some (.int .i64 i):=(show(w.alloc (.cells #[.int .u8 6,.int .i64 i,.int .u64 A,.int .u64 B] 176)).cell? ⟨w.heap.size,1,none⟩=some (.int .i64 i)by simp)
 have k2:((w.alloc (.cells #[.int .u8 6,.int .i64 i,.int .u64 A,.int .u64 B] 176)).drewN nq).cell? ⟨w.heap.size,2,none⟩=some (.int .u64 A):=(show(w.alloc (.cells #[.int .u8 6,.int .i64 i,.int .u64 A,.int .u64 B] 176)).cell? ⟨w.heap.size,2,none⟩=some (.int .u64 A)by simp)
 have k3:((w.alloc (.cells #[.int .u8 6,.int .i64 i,.int .u64 A,.int .u64 B] 176)).drewN nq).cell? ⟨mm,1,none⟩=some (.slice (some ⟨bb,0,none⟩) n n'):=gq
 have k4:((w.alloc (.cells #[.int .u8 6,.int .i64 i,.int .u64 A,.int .u64 B] 176)).drewN nq).cell? ⟨bb,i,none⟩=some (.int .u8 x):=tg
 have k5:((w.alloc (.cells #[.int .u8 6,.int .i64 i,.int .u64 A,.int .u64 B] 176)).drewN nq).frozen? ⟨bb,i,none⟩=false:=Mi
 have HB:Hid (Below w.heap.size w ((w.alloc (.cells #[.int .u8 6,.int .i64 i,.int .u64 A,.int .u64 B] 176)).drewN nq)):=Lib.hid (vE ((Below.refl _ _).alloc (dI _) _))
 clear gq tg Mi
 generalize(w.alloc (.cells #[.int .u8 6,.int .i64 i,.int .u64 A,.int .u64 B] 176)).drewN nq=w2 at *
 go_wp2_with fail
 go_still_tail 10,(by kernel_rfl)
 change wpList _ _ _ _ _ w2.drew
 go_wp2
 go_ret2
 exact⟨rfl,w2.drew,yL HB.out,rfl⟩
end
section
open Go.RowKit Lx
structure Mem where
 words:List Int
 bytes:List Int
def atI(l:List Int):Int->Option Int
 | .ofNat n=>l[n]?
 | .negSucc _=>none
def putI(l:List Int)(a v:Int):List Int:=match a with
 | .ofNat n=>l.set n v
 | .negSucc _=>l
def acc(kd at_ A B:Int)(M:Mem):Option (Int×Mem):=
 if kd=1 then some ((atI M.words at_).getD 0,M)
 else if kd=2 then some (0,{M with words:=putI M.words at_ A})
 else if kd=3 then match atI M.words at_ with
  | some x=>if x=A then some (1,{M with words:=putI M.words at_ B})else some (0,M)
  | none=>some (0,M)
 else if kd=4 then match atI M.words at_ with
  | some x=>some (x,{M with words:=putI M.words at_ (u64.wrap (x+A))})
  | none=>some (0,M)
 else if kd=5 then match atI M.bytes at_ with
  | some x=>if 0<=x/\x<=255 then some (x,M)else none
  | none=>some (0,M)
 else if kd=6 then(if 0<=A/\A<=255 then some (0,{M with bytes:=putI M.bytes at_ A})else none)
 else none
structure MemAt(w:World)(mm wb bb:Nat)(M:Mem):Prop where
 mem:w.heap[mm]? = some (.cells #[.slice (some ⟨wb,0,none⟩) M.words.length M.words.length,.slice (some ⟨bb,0,none⟩) M.bytes.length M.bytes.length] 232 (0,0))
 words:w.heap[wb]? = some (.cells (M.words.map (Value.int .u64)).toArray 42 (0,0))
 bytes:w.heap[bb]? = some (.cells (M.bytes.map (Value.int .u8)).toArray 5 (0,0))
 ne:mm≠wb/\mm≠bb/\wb≠bb
 few:M.words.length<=1000000/\M.bytes.length<=1000000
theorem yl{w:World}{b:Nat}{o:Obj}(h:w.heap[b]? = some o):b<w.heap.size:=(Array.getElem?_eq_some_iff.1 h).1
theorem MemAt.of{w w':World}{mm wb bb:Nat}{M:Mem}(h:MemAt w mm wb bb M)(h1:w'.heap[mm]? = w.heap[mm]?)(h2:w'.heap[wb]? = w.heap[wb]?)(h3:w'.heap[bb]? = w.heap[bb]?):MemAt w' mm wb bb M:=
 ⟨h1.trans h.mem,h2.trans h.words,h3.trans h.bytes,h.ne,h.few⟩
theorem MemAt.below{w w':World}{mm wb bb:Nat}{M:Mem}(h:MemAt w mm wb bb M)(hb:Below w.heap.size w w'):MemAt w' mm wb bb M:=
 h.of (hb.block _ (yl h.mem)) (hb.block _ (yl h.words)) (hb.block _ (yl h.bytes))
theorem WN{w:World}{b o:Nat}{c:Array Value}{t:TypeId}(h:w.heap[b]? = some (.cells c t (0,0))):w.frozen? ⟨b,o,none⟩=false:=by
 simp[World.frozen?,h]
theorem xBK{w w1:World}{mm wb bb i:Nat}{M:Mem}{x v:Int}(h:MemAt w mm wb bb M)(hx:M.words[i]? = some x)(hb:Below w.heap.size w w1) :
  MemAt (w1.setCell ⟨wb,i,none⟩ (.int .u64 v)) mm wb bb {M with words:=M.words.set i v}/\Keeps (fun b=>b=wb\/b=bb) w (w1.setCell ⟨wb,i,none⟩ (.int .u64 v)):=by
 have h1:=h.below hb
 have e:=setCell_eq (o:=i) h1.words (.int .u64 v)
 have an:=yl h1.words
 obtain⟨n1,n2,n3⟩:=h1.ne
 have hk : ∀b,b≠wb->(w1.setCell ⟨wb,i,none⟩ (.int .u64 v)).heap[b]? = w1.heap[b]? :=by
  intro b aq
  rw[e]
  simp only
  rw[Array.getElem?_setIfInBounds,dA (fun h=>aq h.symm)]
 refine⟨⟨?_,?_,?_,h1.ne,?_⟩,⟨?_,?_,?_,?_,fun b pa hn =>?_⟩⟩
 .rw[hk mm n1];simpa using h1.mem
 .rw[e]
  simp only
  rw[Array.getElem?_setIfInBounds,dB rfl,dB an]
  simp[List.map_set]
 .rw[hk bb (fun h=>n3 h.symm)];exact h1.bytes
 .simpa using h1.few
 .rw[e];exact hb.os
 .rw[e];exact hb.tape
 .rw[e];exact hb.output
 .rw[e];simpa using hb.size
 .rw[hk b (fun h=>hn (.inl h))];exact hb.block b pa
theorem xBL{w w1:World}{mm wb bb i:Nat}{M:Mem}{x v:Int}(h:MemAt w mm wb bb M)(hx:M.bytes[i]? = some x)(hb:Below w.heap.size w w1) :
  MemAt (w1.setCell ⟨bb,i,none⟩ (.int .u8 v)) mm wb bb {M with bytes:=M.bytes.set i v}/\Keeps (fun b=>b=wb\/b=bb) w (w1.setCell ⟨bb,i,none⟩ (.int .u8 v)):=by
 have h1:=h.below hb
 have e:=setCell_eq (o:=i) h1.bytes (.int .u8 v)
 have an:=yl h1.bytes
 obtain⟨n1,n2,n3⟩:=h1.ne
 have hk : ∀b,b≠bb->(w1.setCell ⟨bb,i,none⟩ (.int .u8 v)).heap[b]? = w1.heap[b]? :=by
  intro b aq
  rw[e]
  simp only
  rw[Array.getElem?_setIfInBounds,dA (fun h=>aq h.symm)]
 refine⟨⟨?_,?_,?_,h1.ne,?_⟩,⟨?_,?_,?_,?_,fun b pa hn =>?_⟩⟩
 .rw[hk mm n2];simpa using h1.mem
 .rw[hk wb n3];exact h1.words
 .rw[e]
  simp only
  rw[Array.getElem?_setIfInBounds,dB rfl,dB an]
  simp[List.map_set]
 .simpa using h1.few
 .rw[e];exact hb.os
 .rw[e];exact hb.tape
 .rw[e];exact hb.output
 .rw[e];simpa using hb.size
 .rw[hk b (fun h=>hn (.inr h))];exact hb.block b pa
theorem Yj{S:Nat->Prop}{w w':World}(h:Below w.heap.size w w'):Keeps S w w':=⟨h.os,h.tape,h.output,h.size,fun b hb _=>h.block b hb⟩
def xvM(w:World)(mm wb bb:Nat)(told:Int)(M':Mem)(e:Ending)(w':World):Prop:=
 (∃ok,e = .returned (.tuple #[.int .u64 told,.bool ok]))/\MemAt w' mm wb bb M'/\Keeps (fun b=>b=wb\/b=bb) w w'
theorem Zg{w:World}{mm wb bb:Nat}{M:Mem}(h:MemAt w mm wb bb M){i:Nat}{x:Int}(hx:M.words[i]? = some x):w.cell? ⟨wb,i,none⟩=some (.int .u64 x):=by
 rw[cell_of h.words];simp[hx]
theorem xkH{w:World}{mm wb bb:Nat}{M:Mem}(h:MemAt w mm wb bb M){i:Nat}{x:Int}(hx:M.bytes[i]? = some x):w.cell? ⟨bb,i,none⟩=some (.int .u8 x):=by
 rw[cell_of h.bytes];simp[hx]
theorem vl{w:World}{mm wb bb:Nat}{M:Mem}(h:MemAt w mm wb bb M){e:Ending}{w':World}(hd:xbp w e w'):xvM w mm wb bb 0 M e w':=
 ⟨⟨false,hd.1⟩,h.below hd.2,Yj hd.2⟩
theorem Yk{w:World}{mm wb bb i:Nat}{M:Mem}{x now told:Int}(h:MemAt w mm wb bb M)(hx:M.words[i]? = some x){e:Ending}{w':World}(hd:WM w wb i now told e w'):xvM w mm wb bb told {M with words:=M.words.set i now} e w':=by
 obtain⟨rfl,w1,hb,rfl⟩:=hd
 obtain⟨h1,h2⟩:=xBK (v:=now) h hx hb
 exact⟨⟨true,rfl⟩,h1,h2⟩
theorem xr9{l:List Int}{i:Nat}{x:Int}(h:l[i]? = some x):l.set i x=l:=by
 obtain⟨h2,h3⟩:=List.getElem?_eq_some_iff.1 h
 rw[<- h3]
 exact List.set_getElem_self h2
theorem do_any(kd at_ A B:Int)(mm wb bb:Nat)(M M':Mem)(told:Int)(w:World)(h:MemAt w mm wb bb M)(hs:acc kd at_ A B M=some (told,M')) :
  Calls Tryz.prog 103 #[.pointer (some ⟨mm,0,none⟩),.agg #[.int .u8 kd,.int .i64 at_,.int .u64 A,.int .u64 B]] w (xvM w mm wb bb told M'):=by
 have hm:=yl h.mem
 have db:=yl h.words
 have ox:=yl h.bytes
 have c0:w.cell? ⟨mm,0,none⟩=some (.slice (some ⟨wb,0,none⟩) M.words.length M.words.length):=by rw[cell_of h.mem];rfl
 have c1:w.cell? ⟨mm,1,none⟩=some (.slice (some ⟨bb,0,none⟩) M.bytes.length M.bytes.length):=by rw[cell_of h.mem];rfl
 have fz : ∀i,w.frozen? ⟨wb,i,none⟩=false:=fun i=>WN h.words
 have Q4 : ∀i,w.frozen? ⟨bb,i,none⟩=false:=fun i=>WN h.bytes
 have f1:=h.few.1
 have f2:=h.few.2
 have nw : ∀n:Nat,M.words[n]? = none->(M.words.length:Int)<=(n:Int):=fun n hn=>by rw[List.getElem?_eq_none_iff]at hn;omega
 have nb : ∀n:Nat,M.bytes[n]? = none->(M.bytes.length:Int)<=(n:Int):=fun n hn=>by rw[List.getElem?_eq_none_iff]at hn;omega
 have lw : ∀ (n:Nat) x,M.words[n]? = some x->n<M.words.length:=fun n x hn=>(List.getElem?_eq_some_iff.1 hn).1
 have lb : ∀ (n:Nat) x,M.bytes[n]? = some x->n<M.bytes.length:=fun n x hn=>(List.getElem?_eq_some_iff.1 hn).1
 unfold acc at hs
 split at hs
 .rename_i hk;subst hk
  cases at_ with
  | negSucc m=>
   simp only[atI,Option.getD_none,oI,dH]at hs
   obtain⟨rfl,rfl⟩:=hs
   exact(xfm 1 (by omega) mm wb _ _ _ A B w c0 hm f1 (by omega)).mono fun e w' hd=>vl h hd
  | ofNat n=>
   cases hx:M.words[n]? with
   | none=>
    simp only[atI,hx,Option.getD_none,oI,dH]at hs
    obtain⟨rfl,rfl⟩:=hs
    exact(xfn 1 (by omega) mm wb _ _ _ A B w c0 hm f1 (by omega) (nw n hx)).mono fun e w' hd=>vl h hd
   | some x=>
    simp only[atI,hx,Option.getD_some,oI,dH]at hs
    obtain⟨rfl,rfl⟩:=hs
    refine(do_load mm wb _ _ n x A B w c0 (Zg h hx) (fz n) (lw n x hx) hm db f1).mono fun e w' hd =>?_
    have:=Yk h hx hd
    rwa [xr9 hx]at this
 .split at hs
  .rename_i _ hk;subst hk
   cases at_ with
   | negSucc m=>
    simp only[putI,oI,dH]at hs
    obtain⟨rfl,rfl⟩:=hs
    exact(xfm 2 (by omega) mm wb _ _ _ A B w c0 hm f1 (by omega)).mono fun e w' hd=>vl h hd
   | ofNat n=>
    simp only[putI,oI,dH]at hs
    obtain⟨rfl,rfl⟩:=hs
    cases hx:M.words[n]? with
    | none=>
     rw[List.set_eq_of_length_le (by have:=nw n hx;omega)]
     exact(xfn 2 (by omega) mm wb _ _ _ A B w c0 hm f1 (by omega) (nw n hx)).mono fun e w' hd=>vl h hd
    | some x=>exact(xBJ mm wb _ _ n x A B w c0 (Zg h hx) (fz n) (lw n x hx) hm db f1).mono fun e w' hd=>Yk h hx hd
  .split at hs
   .rename_i _ _ hk;subst hk
    cases at_ with
    | negSucc m=>
     simp only[atI,oI,dH]at hs
     obtain⟨rfl,rfl⟩:=hs
     exact(xfm 3 (by omega) mm wb _ _ _ A B w c0 hm f1 (by omega)).mono fun e w' hd=>vl h hd
    | ofNat n=>
     cases hx:M.words[n]? with
     | none=>
      simp only[atI,hx,oI,dH]at hs
      obtain⟨rfl,rfl⟩:=hs
      exact(xfn 3 (by omega) mm wb _ _ _ A B w c0 hm f1 (by omega) (nw n hx)).mono fun e w' hd=>vl h hd
     | some x=>
      simp only[atI,hx]at hs
      split at hs
      .rename_i hA;subst hA
       simp only[putI,oI,dH]at hs
       obtain⟨rfl,rfl⟩:=hs
       exact(do_cas mm wb _ _ n x B w c0 (Zg h hx) (fz n) (lw n x hx) hm db f1).mono fun e w' hd=>Yk h hx hd
      .rename_i hA
       simp only[oI,dH]at hs
       obtain⟨rfl,rfl⟩:=hs
       refine(xvL mm wb _ _ n x A B w c0 (Zg h hx) (fz n) (lw n x hx) hm db f1 ⟨Lib.hid (by simpa using hA),Lib.hid (by simpa using hA)⟩).mono fun e w' hd =>?_
       have:=Yk h hx hd
       rwa [xr9 hx]at this
   .split at hs
    .rename_i _ _ _ hk;subst hk
     cases at_ with
     | negSucc m=>
      simp only[atI,oI,dH]at hs
      obtain⟨rfl,rfl⟩:=hs
      exact(xfm 4 (by omega) mm wb _ _ _ A B w c0 hm f1 (by omega)).mono fun e w' hd=>vl h hd
     | ofNat n=>
      cases hx:M.words[n]? with
      | none=>
       simp only[atI,hx,oI,dH]at hs
       obtain⟨rfl,rfl⟩:=hs
       exact(xfn 4 (by omega) mm wb _ _ _ A B w c0 hm f1 (by omega) (nw n hx)).mono fun e w' hd=>vl h hd
      | some x=>
       simp only[atI,hx,putI,oI,dH]at hs
       obtain⟨rfl,rfl⟩:=hs
       exact(do_add mm wb _ _ n x A B w c0 (Zg h hx) (fz n) (lw n x hx) hm db f1).mono fun e w' hd=>Yk h hx hd
    .split at hs
     .rename_i _ _ _ _ hk;subst hk
      cases at_ with
      | negSucc m=>
       simp only[atI,oI,dH]at hs
       obtain⟨rfl,rfl⟩:=hs
       exact(xxb 5 (by omega) mm bb _ _ _ A B w c1 hm f2 (by omega)).mono fun e w' hd=>vl h hd
      | ofNat n=>
       cases hx:M.bytes[n]? with
       | none=>
        simp only[atI,hx,oI,dH]at hs
        obtain⟨rfl,rfl⟩:=hs
        exact(xxc 5 (by omega) mm bb _ _ _ A B w c1 hm f2 (by omega) (nb n hx)).mono fun e w' hd=>vl h hd
       | some x=>
        simp only[atI,hx]at hs
        split at hs
        .rename_i Mu
         simp only[oI,dH]at hs
         obtain⟨rfl,rfl⟩:=hs
         exact(do_get mm bb _ _ n x A B w c1 (xkH h hx) (lb n x hx) hm ox f2 Mu.1 Mu.2).mono fun e w' hd=>⟨⟨true,hd.1⟩,h.below hd.2,Yj hd.2⟩
        .cases hs
     .split at hs
      .rename_i _ _ _ _ _ hk;subst hk
       split at hs
       .rename_i hA
        cases at_ with
        | negSucc m=>
         simp only[putI,oI,dH]at hs
         obtain⟨rfl,rfl⟩:=hs
         exact(xxb 6 (by omega) mm bb _ _ _ A B w c1 hm f2 (by omega)).mono fun e w' hd=>vl h hd
        | ofNat n=>
         simp only[putI,oI,dH]at hs
         obtain⟨rfl,rfl⟩:=hs
         cases hx:M.bytes[n]? with
         | none=>
          rw[List.set_eq_of_length_le (by have:=nb n hx;omega)]
          exact(xxc 6 (by omega) mm bb _ _ _ A B w c1 hm f2 (by omega) (nb n hx)).mono fun e w' hd=>vl h hd
         | some x=>
          refine(do_put mm bb _ _ n x A B w c1 (xkH h hx) (Q4 n) (lb n x hx) hm ox f2 hA.1 hA.2).mono fun e w' hd =>?_
          obtain⟨rfl,w1,hb,rfl⟩:=hd
          obtain⟨h1,h2⟩:=xBL (v:=A) h hx hb
          exact⟨⟨true,rfl⟩,h1,h2⟩
       .cases hs
      .cases hs
end
section
open Go.RowKit Lx
structure WayAt(w:World)(wy mm wb bb:Nat)(n:Int)(M:Mem):Prop where
 way:w.heap[wy]? = some (.cells #[.pointer (some ⟨mm,0,none⟩),.int .i64 n] 87 (0,0))
 mem:MemAt w mm wb bb M
 ne:wy≠mm/\wy≠wb/\wy≠bb
theorem xc3{w:World}{b o:Nat}{c:Array Value}{t:TypeId}{f:Nat×Nat}(h:w.heap[b]? = some (.cells c t f))(v:Value) :
  (w.setCell ⟨b,o,none⟩ v).heap[b]? = some (.cells (c.setIfInBounds o v) t f)/\(∀k,k≠b->(w.setCell ⟨b,o,none⟩ v).heap[k]? = w.heap[k]?)/\(w.setCell ⟨b,o,none⟩ v).heap.size=w.heap.size/\(w.setCell ⟨b,o,none⟩ v).os=w.os/\(w.setCell ⟨b,o,none⟩ v).tape=w.tape/\(w.setCell ⟨b,o,none⟩ v).output=w.output:=by
 have e:=setCell_eq (o:=o) h v
 rw[e]
 refine⟨?_,fun k hk =>?_,?_,rfl,rfl,rfl⟩
 .simp only
  rw[Array.getElem?_setIfInBounds,dB rfl,dB (yl h)]
 .simp only
  rw[Array.getElem?_setIfInBounds,dA (fun h=>hk h.symm)]
 .simp
theorem xzs{w:World}{b o:Nat}{c:Array Value}{t:TypeId}{f:Nat×Nat}(h:w.heap[b]? = some (.cells c t f))(v:Value):Keeps (fun k=>k=b) w (w.setCell ⟨b,o,none⟩ v):=by
 obtain⟨_,h2,h3,h4,h5,h6⟩:=xc3 (o:=o) h v
 exact⟨h4,h5,h6,Nat.le_of_eq h3.symm,fun k _ hk=>h2 k hk⟩
def DidWay(w:World)(wy mm wb bb:Nat)(told n:Int)(M':Mem)(e:Ending)(w':World):Prop:=
 e = .returned (.int .u64 told)/\WayAt w' wy mm wb bb n M'/\Keeps (fun b=>b=wy\/b=wb\/b=bb) w w'
theorem WO(kd at_ A B:Int)(wy mm wb bb:Nat)(n:Int)(M M':Mem)(told:Int)(w:World)(h:WayAt w wy mm wb bb n M)(hs:acc kd at_ A B M=some (told,M')) :
  Calls Tryz.prog 55 #[.pointer (some ⟨wy,0,none⟩),.int .u8 kd,.int .i64 at_,.int .u64 A,.int .u64 B] w (DidWay w wy mm wb bb told (wrap64 (n+1)) M'):=by
 have c0:w.cell? ⟨wy,0,none⟩=some (.pointer (some ⟨mm,0,none⟩)):=by rw[cell_of h.way];rfl
 have c1:w.cell? ⟨wy,1,none⟩=some (.int .i64 n):=by rw[cell_of h.way];rfl
 have fz:w.frozen? ⟨wy,1,none⟩=false:=WN h.way
 obtain⟨s1,s2,s3,s4,s5,s6⟩:=xc3 (o:=1) h.way (.int .i64 (wrap64 (n+1)))
 have hM:MemAt (w.setCell ⟨wy,1,none⟩ (.int .i64 (wrap64 (n+1)))) mm wb bb M:=h.mem.of (s2 mm (fun e=>h.ne.1 e.symm)) (s2 wb (fun e=>h.ne.2.1 e.symm)) (s2 bb (fun e=>h.ne.2.2 e.symm))
 have HK:=Lib.hid (xzs (o:=1) h.way (.int .i64 (wrap64 (n+1))))
 have HM:=Lib.hid hM
 have HS:=Lib.hid hs
 have HN:=Lib.hid h.ne
 have H1:=Lib.hid s1
 have an:=yl s1
 have HL:=Lib.hid an
 clear hM hs h s1 s2 s3 s4 s5 s6 an
 go_enter Tryz.func55,Tryz.ntmps55
 go_wp2_with (go_at_call 103;refine(do_any kd at_ A B mm wb bb M M' told _ HM.out HS.out).mono ?_;rintro e1 w1 ⟨⟨ok,rfl⟩,hM1,iw⟩;have HM1:=Lib.hid hM1;have HK1:=Lib.hid iw;clear hM1 iw)
 go_ret
 refine⟨rfl,⟨?_,HM1.out,HN.out⟩,HK.out.mono (fun b hb =>.inl hb) |>.trans HK1.out (fun b hb =>.inl (.inr hb))⟩
 rw[HK1.out.block wy HL.out (fun h=>by rcases h with h|h;exact HN.out.2.1 h;exact HN.out.2.2 h),H1.out]
 rfl
end
section
open Go.RowKit Lx
structure DS where
 m:Mem
 self:Int
 steps:Int
 told:Option (List C)
def ToldAt(w:World)(d:Nat):Option Nat->Option (List C)->Prop
 | none,none=>True
 | some b,some l =>∃vs,denL (pvD d) [] l=some vs/\w.heap[b]? = some (.cells vs.toArray 47 (0,0))
 | _,_=>False
structure DirAt(w:World)(d wy mm wb bb:Nat)(td:Option Nat)(s:DS):Prop where
 dir:w.heap[d]? = some (.cells #[.pointer (some ⟨wy,0,none⟩),.int .i64 s.self,.pointer (td.map fun b=>⟨b,0,none⟩)] 90 (0,0))
 way:WayAt w wy mm wb bb s.steps s.m
 told:ToldAt w d td s.told
 ne:d≠wy/\d≠mm/\d≠wb/\d≠bb
 tne : ∀b,td=some b->b≠d/\b≠wy/\b≠mm/\b≠wb/\b≠bb
def InD(d wy mm wb bb:Nat)(td:Option Nat)(b:Nat):Prop:=b=d\/b=wy\/b=mm\/b=wb\/b=bb\/td=some b
theorem DirAt.told_lt{w:World}{d wy mm wb bb:Nat}{td:Option Nat}{s:DS}(h:DirAt w d wy mm wb bb td s){b:Nat}(hb:td=some b):b<w.heap.size:=by
 have:=h.told
 subst hb
 cases ht:s.told with
 | none=>rw[ht]at this;exact this.elim
 | some l=>rw[ht]at this;obtain⟨vs,_,hw⟩:=this;exact yl hw
theorem DirAt.of{w w':World}{d wy mm wb bb:Nat}{td:Option Nat}{s:DS}(h:DirAt w d wy mm wb bb td s)(hs : ∀b,InD d wy mm wb bb td b->w'.heap[b]? = w.heap[b]?):DirAt w' d wy mm wb bb td s:=by
 refine⟨(hs d (.inl rfl)).trans h.dir,⟨(hs wy (.inr (.inl rfl))).trans h.way.way,h.way.mem.of (hs mm (.inr (.inr (.inl rfl)))) (hs wb (.inr (.inr (.inr (.inl rfl))))) (hs bb (.inr (.inr (.inr (.inr (.inl rfl)))))),h.way.ne⟩,?_,h.ne,h.tne⟩
 have ht:=h.told
 cases mb:td with
 | none=>
  rw[mb]at ht
  cases ce:s.told with
  | none=>trivial
  | some l=>rw[ce]at ht;exact ht.elim
 | some b=>
  rw[mb]at ht
  cases ce:s.told with
  | none=>rw[ce]at ht;exact ht.elim
  | some l=>
   rw[ce]at ht
   obtain⟨vs,h1,h2⟩:=ht
   exact⟨vs,h1,(hs b (.inr (.inr (.inr (.inr (.inr mb)))))).trans h2⟩
theorem DirAt.lt{w:World}{d wy mm wb bb:Nat}{td:Option Nat}{s:DS}(h:DirAt w d wy mm wb bb td s) : ∀b,InD d wy mm wb bb td b->b<w.heap.size:=by
 rintro b (rfl|rfl|rfl|rfl|rfl|hb)
 .exact yl h.dir
 .exact yl h.way.way
 .exact yl h.way.mem.mem
 .exact yl h.way.mem.words
 .exact yl h.way.mem.bytes
 .exact h.told_lt hb
theorem jd{w w':World}{d wy mm wb bb:Nat}{td:Option Nat}{s:DS}{n:Int}{M':Mem}(h:DirAt w d wy mm wb bb td s)(hW:WayAt w' wy mm wb bb n M')(hk:Keeps (fun b=>b=wy\/b=wb\/b=bb) w w') :
  DirAt w' d wy mm wb bb td {s with m:=M',steps:=n}/\Keeps (InD d wy mm wb bb td) w w':=by
 refine⟨⟨?_,hW,?_,h.ne,h.tne⟩,hk.mono ?_⟩
 .rw[hk.block d (yl h.dir) (by rintro (e|e|e);exact h.ne.1 e;exact h.ne.2.2.1 e;exact h.ne.2.2.2 e)]
  exact h.dir
 .have ht:=h.told
  cases mb:td with
  | none=>
   rw[mb]at ht
   show ToldAt w' d none s.told
   cases ce:s.told with
   | none=>trivial
   | some l=>rw[ce]at ht;exact ht.elim
  | some b=>
   show ToldAt w' d (some b) s.told
   have hn:=h.tne b mb
   have hl:=h.told_lt mb
   rw[mb]at ht
   cases ce:s.told with
   | none=>rw[ce]at ht;exact ht.elim
   | some l=>
    rw[ce]at ht
    obtain⟨vs,h1,h2⟩:=ht
    refine⟨vs,h1,?_⟩
    rw[hk.block b hl (by rintro (e|e|e);exact hn.2.1 e;exact hn.2.2.2.1 e;exact hn.2.2.2.2 e)]
    exact h2
 .rintro b (rfl|rfl|rfl)
  .exact .inr (.inl rfl)
  .exact .inr (.inr (.inr (.inl rfl)))
  .exact .inr (.inr (.inr (.inr (.inl rfl))))
def DidM(w:World)(d wy mm wb bb:Nat)(td:Option Nat)(s':DS)(v:Value)(e:Ending)(w':World):Prop:=
 e = .returned v/\DirAt w' d wy mm wb bb td s'/\Keeps (InD d wy mm wb bb td) w w'
section
variable{w:World}{d wy mm wb bb:Nat}{td:Option Nat}{s:DS}
theorem m_load(h:DirAt w d wy mm wb bb td s)(at_ told:Int)(M':Mem)(hs:acc 1 at_ 0 0 s.m=some (told,M')) :
  Calls Tryz.prog 279 #[.pointer (some ⟨d,0,none⟩),.int .i64 at_] w (DidM w d wy mm wb bb td {s with m:=M',steps:=wrap64 (s.steps+1)} (.int .u64 told)):=by
 have c0:w.cell? ⟨d,0,none⟩=some (.pointer (some ⟨wy,0,none⟩)):=by rw[cell_of h.dir];rfl
 have HH:=Lib.hid h
 have HS:=Lib.hid hs
 clear h hs
 go_enter Tryz.func279,Tryz.ntmps279
 go_wp2_with (first|(go_at_call 46;refine(Xd d wy _ c0).mono ?_;rintro e w' ⟨rfl,rfl⟩)|(go_at_call 55;refine(WO 1 at_ 0 0 wy mm wb bb s.steps s.m M' told _ HH.out.way HS.out).mono ?_;rintro e1 w1 ⟨rfl,hW,hK⟩;have HA:=Lib.hid (jd HH.out hW hK);clear hW hK))
 go_ret
 exact⟨rfl,HA.out.1,HA.out.2⟩
theorem m_add(h:DirAt w d wy mm wb bb td s)(at_ A told:Int)(M':Mem)(hs:acc 4 at_ A 0 s.m=some (told,M')) :
  Calls Tryz.prog 276 #[.pointer (some ⟨d,0,none⟩),.int .i64 at_,.int .u64 A] w (DidM w d wy mm wb bb td {s with m:=M',steps:=wrap64 (s.steps+1)} (.int .u64 told)):=by
 have c0:w.cell? ⟨d,0,none⟩=some (.pointer (some ⟨wy,0,none⟩)):=by rw[cell_of h.dir];rfl
 have HH:=Lib.hid h
 have HS:=Lib.hid hs
 clear h hs
 go_enter Tryz.func276,Tryz.ntmps276
 go_wp2_with (first|(go_at_call 46;refine(Xd d wy _ c0).mono ?_;rintro e w' ⟨rfl,rfl⟩)|(go_at_call 55;refine(WO 4 at_ A 0 wy mm wb bb s.steps s.m M' told _ HH.out.way HS.out).mono ?_;rintro e1 w1 ⟨rfl,hW,hK⟩;have HA:=Lib.hid (jd HH.out hW hK);clear hW hK))
 go_ret
 exact⟨rfl,HA.out.1,HA.out.2⟩
theorem m_store(h:DirAt w d wy mm wb bb td s)(at_ A told:Int)(M':Mem)(hs:acc 2 at_ A 0 s.m=some (told,M')) :
  Calls Tryz.prog 281 #[.pointer (some ⟨d,0,none⟩),.int .i64 at_,.int .u64 A] w (DidM w d wy mm wb bb td {s with m:=M',steps:=wrap64 (s.steps+1)} (.tuple #[])):=by
 have c0:w.cell? ⟨d,0,none⟩=some (.pointer (some ⟨wy,0,none⟩)):=by rw[cell_of h.dir];rfl
 have HH:=Lib.hid h
 have HS:=Lib.hid hs
 clear h hs
 go_enter Tryz.func281,Tryz.ntmps281
 go_wp2_with (first|(go_at_call 46;refine(Xd d wy _ c0).mono ?_;rintro e w' ⟨rfl,rfl⟩)|(go_at_call 55;refine(WO 2 at_ A 0 wy mm wb bb s.steps s.m M' told _ HH.out.way HS.out).mono ?_;rintro e1 w1 ⟨rfl,hW,hK⟩;have HA:=Lib.hid (jd HH.out hW hK);clear hW hK))
 refine bodyPost_ret (v :=.tuple #[]) (by simp[results,Tryz.results281,go_sem]) rfl ?_
 exact⟨rfl,HA.out.1,HA.out.2⟩
theorem m_cas(h:DirAt w d wy mm wb bb td s)(at_ A B told:Int)(M':Mem)(hs:acc 3 at_ A B s.m=some (told,M')) :
  Calls Tryz.prog 277 #[.pointer (some ⟨d,0,none⟩),.int .i64 at_,.int .u64 A,.int .u64 B] w (DidM w d wy mm wb bb td {s with m:=M',steps:=wrap64 (s.steps+1)} (.bool (told==1))):=by
 have c0:w.cell? ⟨d,0,none⟩=some (.pointer (some ⟨wy,0,none⟩)):=by rw[cell_of h.dir];rfl
 have HH:=Lib.hid h
 have HS:=Lib.hid hs
 clear h hs
 go_enter Tryz.func277,Tryz.ntmps277
 go_wp2_with (first|(go_at_call 46;refine(Xd d wy _ c0).mono ?_;rintro e w' ⟨rfl,rfl⟩)|(go_at_call 55;refine(WO 3 at_ A B wy mm wb bb s.steps s.m M' told _ HH.out.way HS.out).mono ?_;rintro e1 w1 ⟨rfl,hW,hK⟩;have HA:=Lib.hid (jd HH.out hW hK);clear hW hK))
 go_ret
 exact⟨rfl,HA.out.1,HA.out.2⟩
theorem m_get(h:DirAt w d wy mm wb bb td s)(at_ told:Int)(M':Mem)(hs:acc 5 at_ 0 0 s.m=some (told,M'))(h0:0<=told)(h1:told<=255) :
  Calls Tryz.prog 33 #[.pointer (some ⟨d,0,none⟩),.int .i64 at_] w (DidM w d wy mm wb bb td {s with m:=M',steps:=wrap64 (s.steps+1)} (.int .u8 told)):=by
 have c0:w.cell? ⟨d,0,none⟩=some (.pointer (some ⟨wy,0,none⟩)):=by rw[cell_of h.dir];rfl
 have HH:=Lib.hid h
 have HS:=Lib.hid hs
 clear h hs
 go_enter Tryz.func33,Tryz.ntmps33
 go_wp2_with (first|(go_at_call 46;refine(Xd d wy _ c0).mono ?_;rintro e w' ⟨rfl,rfl⟩)|(go_at_call 55;refine(WO 5 at_ 0 0 wy mm wb bb s.steps s.m M' told _ HH.out.way HS.out).mono ?_;rintro e1 w1 ⟨rfl,hW,hK⟩;have HA:=Lib.hid (jd HH.out hW hK);clear hW hK))
 go_ret
 exact⟨rfl,HA.out.1,HA.out.2⟩
theorem m_put(h:DirAt w d wy mm wb bb td s)(at_ A told:Int)(M':Mem)(hs:acc 6 at_ A 0 s.m=some (told,M'))(h0:0<=A)(h1:A<=255) :
  Calls Tryz.prog 23 #[.pointer (some ⟨d,0,none⟩),.int .i64 at_,.int .u8 A] w (DidM w d wy mm wb bb td {s with m:=M',steps:=wrap64 (s.steps+1)} (.tuple #[])):=by
 have c0:w.cell? ⟨d,0,none⟩=some (.pointer (some ⟨wy,0,none⟩)):=by rw[cell_of h.dir];rfl
 have HH:=Lib.hid h
 have HS:=Lib.hid hs
 clear h hs
 go_enter Tryz.func23,Tryz.ntmps23
 go_wp2_with (first|(go_at_call 46;refine(Xd d wy _ c0).mono ?_;rintro e w' ⟨rfl,rfl⟩)|(go_at_call 55;refine(WO 6 at_ A 0 wy mm wb bb s.steps s.m M' told _ HH.out.way HS.out).mono ?_;rintro e1 w1 ⟨rfl,hW,hK⟩;have HA:=Lib.hid (jd HH.out hW hK);clear hW hK))
 refine bodyPost_ret (v :=.tuple #[]) (by simp[results,Tryz.results23,go_sem]) rfl ?_
 exact⟨rfl,HA.out.1,HA.out.2⟩
end
def dacc(kd at_ A B:Int)(s:DS):Option (Int×DS):=match acc kd at_ A B s.m with
 | some (x,M')=>some (x,{s with m:=M',steps:=i64.wrap (s.steps+1)})
 | none=>none
def yn:PStep DS:=fun o=>match o with
 | .load a=>fun s=>dacc 1 a 0 0 s
 | .store a v=>fun s=>(dacc 2 a v 0 s).map fun r=>((),r.2)
 | .cas a x y=>fun s=>(dacc 3 a x y s).map fun r=>(r.1==1,r.2)
 | .add a v=>fun s=>dacc 4 a v 0 s
 | .get a=>fun s=>dacc 5 a 0 0 s
 | .put a b=>fun s=>(dacc 6 a b 0 s).map fun r=>((),r.2)
 | .self=>fun s=>some (s.self,s)
 | .steps=>fun s=>some (s.steps,s)
 | .tell r=>fun s=>some ((),{s with told:=some r})
theorem xzt(n:Int):i64.wrap n=wrap64 n:=by rw[IntKind.wrap_i64];simp only[wrap64]
theorem WP{kd at_ A B:Int}{s s':DS}{x:Int}(h:dacc kd at_ A B s=some (x,s')) : ∃M',acc kd at_ A B s.m=some (x,M')/\s' = {s with m:=M',steps:=wrap64 (s.steps+1)}:=by
 unfold dacc at h
 split at h
 .rename_i y M' hy
  cases h
  exact⟨M',hy,by rw[xzt]⟩
 .cases h
theorem xzu{at_ A B:Int}{M:Mem}{r:Int×Mem}(h:acc 6 at_ A B M=some r):0<=A/\A<=255:=by
 simp only[acc]at h
 split at h
 .rename_i h6;omega
 .split at h
  .rename_i h6;omega
  .split at h
   .rename_i h6;omega
   .split at h
    .rename_i h6;omega
    .split at h
     .rename_i h6;omega
     .split at h
      .split at h
       .assumption
       .cases h
      .cases h
theorem xzv{at_ x:Int}{M M':Mem}(h:acc 5 at_ 0 0 M=some (x,M')):0<=x/\x<=255:=by
 simp only[acc,show ¬ (5:Int)=1 by decide,show ¬ (5:Int)=2 by decide,show ¬ (5:Int)=3 by decide,show ¬ (5:Int)=4 by decide,if_false,if_true]at h
 split at h
 .split at h
  .rename_i h1
   cases h;exact h1
  .cases h
 .cases h;decide
theorem m_tell{w:World}{d wy mm wb bb:Nat}{td:Option Nat}{s:DS}(h:DirAt w d wy mm wb bb td s)(l:List C)(vs:List Value)(hl:denL (pvD d) [] l=some vs) :
  Calls Tryz.prog 282 #[.pointer (some ⟨d,0,none⟩),.agg vs.toArray] w fun e w'=>e = .returned (.tuple #[])/\DirAt w' d wy mm wb bb (some w.heap.size) {s with told:=some l}/\Keeps (InD d wy mm wb bb td) w w':=by
 have hd:=yl h.dir
 have e1:(w.alloc (.cells vs.toArray 47)).heap[d]? = w.heap[d]? :=by rw[Lx.heap_alloc,Array.getElem?_push,dA (by omega)]
 have Dw:(w.alloc (.cells vs.toArray 47)).heap[d]? = some (.cells #[.pointer (some ⟨wy,0,none⟩),.int .i64 s.self,.pointer (td.map fun b=>⟨b,0,none⟩)] 90 (0,0)):=e1.trans h.dir
 have c2:(w.alloc (.cells vs.toArray 47)).cell? ⟨d,2,none⟩=some (.pointer (td.map fun b=>⟨b,0,none⟩)):=by rw[cell_of Dw];rfl
 have fz:(w.alloc (.cells vs.toArray 47)).frozen? ⟨d,2,none⟩=false:=WN Dw
 have HF:Hid (DirAt ((w.setCell ⟨d,2,none⟩ (.pointer (some ⟨w.heap.size,0,none⟩))).alloc (.cells vs.toArray 47)) d wy mm wb bb (some w.heap.size) {s with told:=some l}/\Keeps (InD d wy mm wb bb td) w ((w.setCell ⟨d,2,none⟩ (.pointer (some ⟨w.heap.size,0,none⟩))).alloc (.cells vs.toArray 47))):=by
  refine Lib.hid ?_
  obtain⟨s1,s2,s3,s4,s5,s6⟩:=xc3 (o:=2) h.dir (.pointer (some ⟨w.heap.size,0,none⟩))
  have l1:=yl h.way.way
  have l2:=yl h.way.mem.mem
  have l3:=yl h.way.mem.words
  have l4:=yl h.way.mem.bytes
  obtain⟨n1,n2,n3,n4⟩:=h.ne
  have pu : ∀b,b<w.heap.size->(((w.setCell ⟨d,2,none⟩ (.pointer (some ⟨w.heap.size,0,none⟩))).alloc (.cells vs.toArray 47))).heap[b]? = (w.setCell ⟨d,2,none⟩ (.pointer (some ⟨w.heap.size,0,none⟩))).heap[b]? :=by
   intro b hb
   rw[Lx.heap_alloc,Array.getElem?_push,dA (by omega)]
  have old : ∀b,b<w.heap.size->b≠d->(((w.setCell ⟨d,2,none⟩ (.pointer (some ⟨w.heap.size,0,none⟩))).alloc (.cells vs.toArray 47))).heap[b]? = w.heap[b]? :=fun b hb aq=>(pu b hb).trans (s2 b aq)
  refine⟨⟨?_,⟨(old wy l1 (fun e=>n1 e.symm)).trans h.way.way,h.way.mem.of (old mm l2 (fun e=>n2 e.symm)) (old wb l3 (fun e=>n3 e.symm)) (old bb l4 (fun e=>n4 e.symm)),h.way.ne⟩,?_,h.ne,?_⟩,?_⟩
  .rw[pu d hd,s1];rfl
  .refine⟨vs,hl,?_⟩
   rw[Lx.heap_alloc,Array.getElem?_push,dB (by omega)]
  .intro b hb
   cases hb
   exact⟨by omega,by omega,by omega,by omega,by omega⟩
  .refine⟨s4,s5,s6,by rw[Lx.heap_alloc];simp,fun b hb hn=>old b hb fun e=>hn (.inl e)⟩
 clear h Dw e1
 go_enter Tryz.func282,Tryz.ntmps282
 go_wp2
 refine bodyPost_end (v :=.tuple #[]) (by simp[results,Tryz.results282,go_sem]) rfl ?_
 exact⟨rfl,HF.out.1,HF.out.2⟩
theorem xzw{name:String}{args:List V}{p:POp}(h:popOf name args=some p) :
  (name = "Self" /\ args = []/\p = .self)\/(name = "Steps" /\ args = []/\p = .steps)\/(∃a,name = "Load" /\ args = [.c (.int .i64 a)]/\p = .load a)\/(∃a,name = "Get" /\ args = [.c (.int .i64 a)]/\p = .get a)\/
  (∃a b,name = "Store" /\ args = [.c (.int .i64 a),.c (.int .u64 b)]/\p = .store a b)\/(∃a b,name = "Add" /\ args = [.c (.int .i64 a),.c (.int .u64 b)]/\p = .add a b)\/
  (∃a b,name = "Put" /\ args = [.c (.int .i64 a),.c (.int .u8 b)]/\p = .put a b)\/(∃a b c,name = "CAS" /\ args = [.c (.int .i64 a),.c (.int .u64 b),.c (.int .u64 c)]/\p = .cas a b c)\/
  (∃l,name = "Tell" /\ args = [.agg l]/\p = .tell l):=by
 unfold popOf at h
 split at h
 .split at h
  .cases h;exact .inl ⟨‹_›,rfl,rfl⟩
  .split at h
   .cases h;exact .inr (.inl ⟨‹_›,rfl,rfl⟩)
   .cases h
 .split at h
  .cases h;exact .inr (.inr (.inl ⟨_,‹_›,rfl,rfl⟩))
  .split at h
   .cases h;exact .inr (.inr (.inr (.inl ⟨_,‹_›,rfl,rfl⟩)))
   .cases h
 .split at h
  .cases h;exact .inr (.inr (.inr (.inr (.inl ⟨_,_,‹_›,rfl,rfl⟩))))
  .split at h
   .cases h;exact .inr (.inr (.inr (.inr (.inr (.inl ⟨_,_,‹_›,rfl,rfl⟩)))))
   .cases h
 .split at h
  .cases h;exact .inr (.inr (.inr (.inr (.inr (.inr (.inl ⟨_,_,‹_›,rfl,rfl⟩))))))
  .cases h
 .split at h
  .cases h;exact .inr (.inr (.inr (.inr (.inr (.inr (.inr (.inl ⟨_,_,_,‹_›,rfl,rfl⟩)))))))
  .cases h
 .split at h
  .split at h
   .cases h;exact .inr (.inr (.inr (.inr (.inr (.inr (.inr (.inr ⟨_,‹_›,rfl,rfl⟩)))))))
   .cases h
  .cases h
 .cases h
def DRep(d wy mm wb bb:Nat)(s:DS)(F:Nat->Prop)(w:World):Prop :=∃td,DirAt w d wy mm wb bb td s/\ ∀b,F b↔InD d wy mm wb bb td b
theorem ky{d wy mm wb bb:Nat}{td:Option Nat}{s':DS}{F:Nat->Prop}{w w':World}(hF : ∀b,F b↔InD d wy mm wb bb td b)(h:DirAt w' d wy mm wb bb td s')(hk:Keeps (InD d wy mm wb bb td) w w') : ∃F',DRep d wy mm wb bb s' F' w'/\Keeps F w w'/\ ∀b,F' b->F b\/w.heap.size<=b:=
 ⟨F,⟨td,h,hF⟩,hk.mono fun b hb=>(hF b).2 hb,fun b hb =>.inl hb⟩
theorem xsa{d wy mm wb bb:Nat}{name:String}{args:List V}{p:POp}{s s':DS}{x:p.Ans}{F:Nat->Prop}{w:World}{vs:List Value}(hp:popOf name args=some p)(hs:yn p s=some (x,s'))(hv:allSome (denV (pvD d) []) args=some vs)(hR:DRep d wy mm wb bb s F w) :
  ∃f recv rv,(∀w,(callMethod (pvD d) name vs.toArray).run Tryz.prog w = .ok (.enter f (#[recv]++vs.toArray)) w)/\Flat (pvD d) (ansV p x) rv/\
   Calls Tryz.prog f (#[recv]++vs.toArray) w fun e w'=>e = .returned rv/\ ∃F',DRep d wy mm wb bb s' F' w'/\Keeps F w w'/\ ∀b,F' b->F b\/w.heap.size<=b:=by
 obtain⟨td,hD,hF⟩:=hR
 rcases xzw hp with⟨rfl,rfl,rfl⟩|⟨rfl,rfl,rfl⟩|⟨a,rfl,rfl,rfl⟩|⟨a,rfl,rfl,rfl⟩|⟨a,b,rfl,rfl,rfl⟩|⟨a,b,rfl,rfl,rfl⟩|⟨a,b,rfl,rfl,rfl⟩|⟨a,b,c,rfl,rfl,rfl⟩|⟨l,rfl,rfl,rfl⟩
 .simp only[allSome,oI]at hv;subst hv
  simp only[yn,oI,dH]at hs
  obtain⟨rfl,rfl⟩:=hs
  refine⟨_,_,.int .i64 s.self,xkG d [],fun e=>rfl,(xBI d s.self w (by rw[cell_of hD.dir];rfl)).mono ?_⟩
  rintro e w' ⟨rfl,rfl⟩
  exact⟨rfl,ky hF hD (Keeps.refl _ _)⟩
 .simp only[allSome,oI]at hv;subst hv
  simp only[yn,oI,dH]at hs
  obtain⟨rfl,rfl⟩:=hs
  refine⟨_,_,.int .i64 s.steps,xh8 d [],fun e=>rfl,(xzr d wy s.steps w (by rw[cell_of hD.dir];rfl) (by rw[cell_of hD.way.way];rfl)).mono ?_⟩
  rintro e w' ⟨rfl,rfl⟩
  exact⟨rfl,ky hF hD (Keeps.refl _ _)⟩
 .simp only[allSome,denV,den,oI]at hv;subst hv
  obtain⟨M',h1,rfl⟩:=WP (show dacc 1 a 0 0 s=some (x,s')from hs)
  refine⟨_,_,.int .u64 x,xkF d [.int .i64 a],fun e=>rfl,(m_load hD a x M' h1).mono ?_⟩
  rintro e w' ⟨rfl,h2,h3⟩
  exact⟨rfl,ky hF h2 h3⟩
 .simp only[allSome,denV,den,oI]at hv;subst hv
  obtain⟨M',h1,rfl⟩:=WP (show dacc 5 a 0 0 s=some (x,s')from hs)
  have hr:=xzv h1
  refine⟨_,_,.int .u8 x,xh6 d [.int .i64 a],fun e=>rfl,(m_get hD a x M' h1 hr.1 hr.2).mono ?_⟩
  rintro e w' ⟨rfl,h2,h3⟩
  exact⟨rfl,ky hF h2 h3⟩
 .simp only[allSome,denV,den,oI]at hv;subst hv
  simp only[yn,oM]at hs
  obtain⟨⟨y,s1⟩,h0,h9⟩:=hs
  cases h9
  obtain⟨M',h1,rfl⟩:=WP h0
  refine⟨_,_,.tuple #[],xh5 d [.int .i64 a,.int .u64 b],fun e=>rfl,(m_store hD a b y M' h1).mono ?_⟩
  rintro e w' ⟨rfl,h2,h3⟩
  exact⟨rfl,ky hF h2 h3⟩
 .simp only[allSome,denV,den,oI]at hv;subst hv
  obtain⟨M',h1,rfl⟩:=WP (show dacc 4 a b 0 s=some (x,s')from hs)
  refine⟨_,_,.int .u64 x,xr8 d [.int .i64 a,.int .u64 b],fun e=>rfl,(m_add hD a b x M' h1).mono ?_⟩
  rintro e w' ⟨rfl,h2,h3⟩
  exact⟨rfl,ky hF h2 h3⟩
 .simp only[allSome,denV,den,oI]at hv;subst hv
  simp only[yn,oM]at hs
  obtain⟨⟨y,s1⟩,h0,h9⟩:=hs
  cases h9
  obtain⟨M',h1,rfl⟩:=WP h0
  have hr:=xzu h1
  refine⟨_,_,.tuple #[],xh7 d [.int .i64 a,.int .u8 b],fun e=>rfl,(m_put hD a b y M' h1 hr.1 hr.2).mono ?_⟩
  rintro e w' ⟨rfl,h2,h3⟩
  exact⟨rfl,ky hF h2 h3⟩
 .simp only[allSome,denV,den,oI]at hv;subst hv
  simp only[yn,oM]at hs
  obtain⟨⟨y,s1⟩,h0,h9⟩:=hs
  cases h9
  obtain⟨M',h1,rfl⟩:=WP h0
  refine⟨_,_,.bool (y==1),xr7 d [.int .i64 a,.int .u64 b,.int .u64 c],fun e=>rfl,(m_cas hD a b c y M' h1).mono ?_⟩
  rintro e w' ⟨rfl,h2,h3⟩
  exact⟨rfl,ky hF h2 h3⟩
 .simp only[allSome,denV]at hv
  cases hl:denL (pvD d) [] l with
  | none=>rw[hl]at hv;simp at hv
  | some us=>
   rw[hl]at hv
   simp only[dL,oI]at hv
   subst hv
   simp only[yn,oI,dH]at hs
   obtain⟨_,rfl⟩:=hs
   refine⟨_,_,.tuple #[],xzo d [.agg us.toArray],fun e=>rfl,(m_tell hD l us hl).mono ?_⟩
   rintro e w' ⟨rfl,h2,h3⟩
   refine⟨rfl,InD d wy mm wb bb (some w.heap.size),⟨_,h2,fun b=>Iff.rfl⟩,h3.mono fun b hb=>(hF b).2 hb,?_⟩
   rintro b (h|h|h|h|h|h)
   .exact .inl ((hF b).2 (.inl h))
   .exact .inl ((hF b).2 (.inr (.inl h)))
   .exact .inl ((hF b).2 (.inr (.inr (.inl h))))
   .exact .inl ((hF b).2 (.inr (.inr (.inr (.inl h)))))
   .exact .inl ((hF b).2 (.inr (.inr (.inr (.inr (.inl h))))))
   .cases h;exact .inr (dI _)
def Dir(d wy mm wb bb:Nat):Port Tryz.prog DS where
 pv:=pvD d
 t:= 32
 u :=.pointer (some ⟨d,0,none⟩)
 isIface:=rfl
 step:=yn
 Rep:=DRep d wy mm wb bb
 lt:=fun⟨td,h,hF⟩ b hb=>h.lt b ((hF b).1 hb)
 stable:=fun⟨td,h,hF⟩ hs=>⟨td,h.of (fun b hb=>hs b ((hF b).2 hb)),hF⟩
 sure:=fun name h w=>sureD d name h w
 does:=fun hp hs hv hR=>xsa hp hs hv hR
def DidC(w:World)(d wy mm wb bb:Nat)(td:Option Nat)(s':DS)(v:Value)(e:Ending)(w':World):Prop:=
 e = .returned v/\(∃zf,DirAt w' d wy mm wb bb zf s'/\ ∀b,zf=some b->td=some b\/w.heap.size<=b)/\Keeps (InD d wy mm wb bb td) w w'
theorem xsb{d wy mm wb bb:Nat}{td:Option Nat}{s s':DS}{w:World}{f:FuncId}{m:List V->Heap->Option Sum}(hs:SoundF (Dir d wy mm wb bb) f m){args:List V}{S:Sum}(hm:m args []=some S){vs:List Value}(hv:allSome (denV (pvD d) []) args=some vs)
  (hD:DirAt w d wy mm wb bb td s) {x:S.α} (hr:S.t.run yn s=some (x,s')) {v:V} (hf:S.f x=some (v,[])) {rv:Value} (hd : ∀e,denV (pvD d) e v=some rv):Calls Tryz.prog f vs.toArray w (DidC w d wy mm wb bb td s' rv):=by
 refine(hs.2 args [] S hm [] w s (InD d wy mm wb bb td) vs (xnD _ w) hv ⟨td,hD,fun b=>Iff.rfl⟩ (fun b h=>(kP b h).elim) x v [] s' hr hf).mono ?_
 rintro en w' ⟨e',F',Ck,rfl,_,iz,_,⟨zf,hD',hF'⟩,_,hk,hn⟩
 have h1:=hd e'
 have h2:denV (pvD d) e' v=some Ck:=iz
 rw[h1,oI]at h2
 subst h2
 refine⟨rfl,⟨zf,hD',fun b hb =>?_⟩,hk.mono fun b hb =>?_⟩
 .have aq:=hD'.tne b hb
  rcases hn true b (.inr ((hF' b).2 (.inr (.inr (.inr (.inr (.inr hb)))))))with h|h|h
  .exact(kP b h).elim
  .rcases h with h|h|h|h|h|h
   .exact absurd h aq.1
   .exact absurd h aq.2.1
   .exact absurd h aq.2.2.1
   .exact absurd h aq.2.2.2.1
   .exact absurd h aq.2.2.2.2
   .exact .inl h
  .exact .inr h
 .rcases hb with h|h
  .exact(kP b h).elim
  .exact h
end
section
open Go.RowKit Lx
def MadeMem(w:World)(n k:Nat)(e:Ending)(w':World):Prop :=∃mm wb bb,e = .returned (.tuple #[.pointer (some ⟨mm,0,none⟩),.int .i64 0])/\MemAt w' mm wb bb ⟨List.replicate n 0,List.replicate k 0⟩/\Below w.heap.size w w'/\w.heap.size<=mm/\w.heap.size<=wb/\w.heap.size<=bb
theorem xxd {n k mm wb bb:Nat} {w':World} (h1:w'.heap[mm]? = some (.cells #[.slice (some ⟨wb,0,none⟩) n n,.slice (some ⟨bb,0,none⟩) k k] 232 (0,0)))
  (h2:w'.heap[wb]? = some (.cells (List.replicate n (Value.int .u64 0)).toArray 42 (0,0))) (h3:w'.heap[bb]? = some (.cells (List.replicate k (Value.int .u8 0)).toArray 5 (0,0))) (aq:mm≠wb/\mm≠bb/\wb≠bb) (hn:n<=1000000) (hk:k<=1000000) :
  MemAt w' mm wb bb ⟨List.replicate n 0,List.replicate k 0⟩:=
 ⟨by simpa using h1,by simpa using h2,by simpa using h3,aq,by simpa using ⟨hn,hk⟩⟩
theorem xsc(v:Value)(n:Nat):madeCells #[v] n=(List.replicate n v).toArray:=by
 unfold madeCells
 apply Array.ext
 .simp
 .intro i h1 h2
  simp[Nat.mod_one]
theorem xxe{t:TypeId}{n b:Nat}{z:Value}(h1:(Tryz.prog.info? t).map (fun i=>(i.size,i.bytes))=some (n,b))(h2:(Tryz.prog.info? t).bind (·.zero)=some z) : ∃i,Tryz.prog.info? t=some i/\i.zero=some z/\i.size=n/\i.bytes=b:=by
 cases h : Tryz.prog.info? t with
 | none=>rw[h]at h1;simp at h1
 | some i=>
  rw[h]at h1 h2
  simp only[dL,oI,dH,Option.bind_some]at h1 h2
  exact⟨i,rfl,h2,h1.1,h1.2⟩
theorem xvN(n:Nat)(hn:n<=1000000)(w:World):(Instr.makeSlice 229 (.int .i64 n) (.int .i64 n)).run Tryz.prog w = .ok (.slice (some ⟨w.heap.size,0,none⟩) n n) (w.alloc (.cells (List.replicate n (Value.int .u64 0)).toArray 42)):=by
 obtain⟨i,h1,h2,h3,h4⟩:=xxe (t:= 42) (n:=1) (b:=8) (z :=.int .u64 0) (by kernel_rfl) (by kernel_rfl)
 have:=run_make (P:= Tryz.prog) w 229 42 i _ (by kernel_rfl) h1 h2 .i64 .i64 n n (by omega) (by omega) (by rw[h4];omega) (by omega)
 rw[this,h3]
 simp only[Int.toNat_natCast,Nat.mul_one]
 rw[show(Value.int u64 0).cells = #[Value.int .u64 0]from rfl,xsc]
theorem xvO(n:Nat)(hn:n<=1000000)(w:World):(Instr.makeSlice 230 (.int .i64 n) (.int .i64 n)).run Tryz.prog w = .ok (.slice (some ⟨w.heap.size,0,none⟩) n n) (w.alloc (.cells (List.replicate n (Value.int .u8 0)).toArray 5)):=by
 obtain⟨i,h1,h2,h3,h4⟩:=xxe (t:= 5) (n:=1) (b:=1) (z :=.int .u8 0) (by kernel_rfl) (by kernel_rfl)
 have:=run_make (P:= Tryz.prog) w 230 5 i _ (by kernel_rfl) h1 h2 .i64 .i64 n n (by omega) (by omega) (by rw[h4];omega) (by omega)
 rw[this,h3]
 simp only[Int.toNat_natCast,Nat.mul_one]
 rw[show(Value.int u8 0).cells = #[Value.int .u8 0]from rfl,xsc]
theorem mem_new(n k:Nat)(hn:n<=1000000)(hk:k<=1000000)(w:World):Calls Tryz.prog 125 #[.int .i64 n,.int .i64 k] w (MadeMem w n k):=by
 have d1:decide ((n:Int)<0)=false:=by simp
 have d2:decide ((k:Int)<0)=false:=by simp
 have d3:decide (2097152<n)=false:=by simp;omega
 have d4:decide (1048576<k)=false:=by simp;omega
 have m1:=xvN n hn
 have m2:=xvO k hk
 go_enter Tryz.func125,Tryz.ntmps125
 go_wp2
 go_region
 .go_wp2
  go_ret2
  refine⟨w.heap.size+1+1,w.heap.size,w.heap.size+1,rfl,xxd ?_ ?_ ?_ ⟨by omega,by omega,by omega⟩ hn hk,yL ((((Below.refl _ _).alloc (dI _) _).alloc (by simp) _).alloc (by simp;try omega) _),by omega,by omega,by omega⟩
  .show(((w.heap.push _).push _).push _)[w.heap.size+1+1]? = _
   rw[Array.getElem?_push,dB (by simp)]
  .show(((w.heap.push _).push _).push _)[w.heap.size]? = _
   rw[Array.getElem?_push,dA (by simp;omega),Array.getElem?_push,dA (by simp),Array.getElem?_push,dB rfl];simp
  .show(((w.heap.push _).push _).push _)[w.heap.size+1]? = _
   rw[Array.getElem?_push,dA (by simp),Array.getElem?_push,dB (by simp)];simp
 .go_wp2
  go_ret2
  refine⟨w.heap.size+1+1,w.heap.size+1,w.heap.size,rfl,xxd ?_ ?_ ?_ ⟨by omega,by omega,by omega⟩ hn hk,yL ((((Below.refl _ _).alloc (dI _) _).alloc (by simp) _).alloc (by simp;try omega) _),by omega,by omega,by omega⟩
  .show(((w.heap.push _).push _).push _)[w.heap.size+1+1]? = _
   rw[Array.getElem?_push,dB (by simp)]
  .show(((w.heap.push _).push _).push _)[w.heap.size+1]? = _
   rw[Array.getElem?_push,dA (by simp),Array.getElem?_push,dB (by simp)];simp
  .show(((w.heap.push _).push _).push _)[w.heap.size]? = _
   rw[Array.getElem?_push,dA (by simp;omega),Array.getElem?_push,dA (by simp),Array.getElem?_push,dB rfl];simp
end
section
open Go.RowKit Lx
def Yl(H:Heap):Option DS:=match H with
 | some ⟨[.ptr 1 0,.int .i64 self,td],t0,false,none⟩::some ⟨[.ptr 2 0,.int .i64 n],t1,false,none⟩::some ⟨[.sl 3 0 a a',.sl 4 0 b b'],t2,false,none⟩::some ⟨[],t3,false,some (.col .u64 W)⟩::some ⟨[],t4,false,some (.col .u8 B)⟩::R=>
  if t0 = 90 /\ t1 = 87 /\ t2 = 232 /\ t3 = 42 /\ t4 = 5 /\ a'=a/\b'=b then
   if W.length=a/\B.length=b/\a<=1000000/\b<=1000000 then
    match td,R with
    | .nilp,[]=>some ⟨⟨W,B⟩,self,n,none⟩
    | .ptr 5 0,[some ⟨l,t5,false,none⟩]=>if t5 = 47 /\ l.all yx=true then some ⟨⟨W,B⟩,self,n,some l⟩else none
    | _,_=>none
   else none
  else none
 | _=>none
theorem wv(pv:Value)(e:Env)(k:IntKind) : ∀l:List Int,denL pv e (l.map (.int k))=some (l.map (Value.int k))
 | []=>rfl
 | x::l=>by simp only[List.map_cons,denL,den,wv pv e k l]
def baseD(s:DS)(td:C):Heap :=[some ⟨[.ptr 1 0,.int .i64 s.self,td], 90,false,none⟩,some ⟨[.ptr 2 0,.int .i64 s.steps], 87,false,none⟩,some ⟨[.sl 3 0 s.m.words.length s.m.words.length,.sl 4 0 s.m.bytes.length s.m.bytes.length], 232,false,none⟩,some ⟨[], 42,false,some (.col .u64 s.m.words)⟩,some ⟨[], 5,false,some (.col .u8 s.m.bytes)⟩]
def Xf(n:Nat)(s:DS):Option Heap:=match s.told with
 | none=>if n=5 then some (baseD s .nilp)else none
 | some l=>if 5<=n/\l.all yx=true then some (baseD s (.ptr n 0)++(List.replicate (n-5) none ++ [some ⟨l, 47,false,none⟩]))else none
theorem xsd{H:Heap}{s:DS}(h:Yl H=some s):(s.m.words.length<=1000000/\s.m.bytes.length<=1000000)/\((s.told=none/\H=baseD s .nilp)\/ ∃l,s.told=some l/\l.all yx=true/\H=baseD s (.ptr 5 0) ++ [some ⟨l, 47,false,none⟩]):=by
 unfold Yl at h
 split at h
 .rename_i self td t0 n t1 a a' b b' t2 t3 W t4 B R
  split at h
  .rename_i hc
   obtain⟨rfl,rfl,rfl,rfl,rfl,rfl,rfl⟩:=hc
   split at h
   .rename_i hd
    obtain⟨rfl,rfl,h1,h2⟩:=hd
    split at h
    .cases h
     exact⟨⟨h1,h2⟩,.inl ⟨rfl,rfl⟩⟩
    .rename_i l t5
     split at h
     .rename_i h5
      obtain⟨rfl,h6⟩:=h5
      cases h
      exact⟨⟨h1,h2⟩,.inr ⟨l,rfl,h6,rfl⟩⟩
     .cases h
    .cases h
   .cases h
  .cases h
 .cases h
theorem xh9{pv pv':Value}{e e':Env} : ∀ {l:List C} {us:List Value},l.all yx=true->denL pv e l=some us->denL pv' e' l=some us
 | [],us,_,h=>by simpa[denL]using h
 | c::l,us,hf,h=>by
  simp only[List.all_cons,dK]at hf
  simp only[denL]at h |-
  have hc:den pv' e' c=den pv e c:=by cases c<;>first|rfl|(simp[yx]at hf)
  rw[hc]
  cases hd:den pv e c with
  | none=>rw[hd]at h;cases h
  | some v=>
   rw[hd]at h
   simp only at h |-
   cases hl:denL pv e l with
   | none=>rw[hl]at h;cases h
   | some vs=>rw[hl]at h;rw[xh9 hf.2 hl];exact h
theorem WQ(pv:Value)(e:Env) : ∀ {l:List C},l.all yx=true ->∃us,denL pv e l=some us
 | [],_=>⟨[],rfl⟩
 | c::l,hf=>by
  simp only[List.all_cons,dK]at hf
  obtain⟨us,hu⟩:=WQ pv e hf.2
  have hc : ∃v,den pv e c=some v:=by cases c<;>first|exact⟨_,rfl⟩|(simp[yx]at hf)
  obtain⟨v,hv⟩:=hc
  exact⟨v::us,by simp only[denL,hv,hu]⟩
theorem Ko{e:Env}{H:Heap}{w:World}{s:DS}(E:Emb NP.pv e H w)(h:Yl H=some s) :
  ∃r0 r1 r2 r3 r4 td,e[0]? = some r0/\e[1]? = some r1/\e[2]? = some r2/\e[3]? = some r3/\e[4]? = some r4/\DirAt w r0.1 r1.1 r2.1 r3.1 r4.1 td s/\(∀q b,InD r0.1 r1.1 r2.1 r3.1 r4.1 td b->Own q e H b):=by
 obtain⟨⟨f1,f2⟩,hH⟩:=xsd h
 have b0 : ∃td,blkAt H 0=some ⟨[.ptr 1 0,.int .i64 s.self,td], 90,false,none⟩/\((s.told=none/\td = .nilp)\/ ∃l,s.told=some l/\l.all yx=true/\td = .ptr 5 0/\blkAt H 5=some ⟨l, 47,false,none⟩):=by
  rcases hH with⟨h1,rfl⟩|⟨l,h1,h2,rfl⟩
  .exact⟨.nilp,rfl,.inl ⟨h1,rfl⟩⟩
  .exact⟨.ptr 5 0,rfl,.inr ⟨l,h1,h2,rfl,rfl⟩⟩
 have b1:blkAt H 1=some ⟨[.ptr 2 0,.int .i64 s.steps], 87,false,none⟩:=by rcases hH with⟨_,rfl⟩|⟨l,_,_,rfl⟩<;>rfl
 have b2:blkAt H 2=some ⟨[.sl 3 0 s.m.words.length s.m.words.length,.sl 4 0 s.m.bytes.length s.m.bytes.length], 232,false,none⟩:=by rcases hH with⟨_,rfl⟩|⟨l,_,_,rfl⟩<;>rfl
 have b3:blkAt H 3=some ⟨[], 42,false,some (.col .u64 s.m.words)⟩:=by rcases hH with⟨_,rfl⟩|⟨l,_,_,rfl⟩<;>rfl
 have b4:blkAt H 4=some ⟨[], 5,false,some (.col .u8 s.m.bytes)⟩:=by rcases hH with⟨_,rfl⟩|⟨l,_,_,rfl⟩<;>rfl
 clear hH
 obtain⟨td,b0,mb⟩:=b0
 obtain⟨r0,c0,t0,e0,d0,w0,g0,_⟩:=E.row 0 _ b0 rfl rfl
 obtain⟨r1,c1,t1,e1,d1,w1,g1,_⟩:=E.row 1 _ b1 rfl rfl
 obtain⟨r2,c2,t2,e2,d2,w2,g2,_⟩:=E.row 2 _ b2 rfl rfl
 obtain⟨r3,c3,t3,e3,d3,w3,g3,_⟩:=E.row 3 _ b3 rfl rfl
 obtain⟨r4,c4,t4,e4,d4,w4,g4,_⟩:=E.row 4 _ b4 rfl rfl
 obtain rfl:=g0 rfl
 obtain rfl:=g1 rfl
 obtain rfl:=g2 rfl
 obtain rfl:=g3 rfl
 obtain rfl:=g4 rfl
 simp only[List.append_nil]at w0 w1 w2 w3 w4
 have ne : ∀ {i j:Nat} {k k':Blk} {r r':Nat×Nat},blkAt H i=some k->blkAt H j=some k'->e[i]? = some r->e[j]? = some r'->i≠j->k.win=none->k.virt=false->k'.virt=false->r.1≠r'.1:=fun hi hj hr dw aq hk hv ft h=>aq (E.inj _ _ _ _ _ _ hi hj hr dw h hv ft (.inl hk))
 have Md:=ne b0 b1 e0 e1 (by decide) rfl rfl rfl
 have Mc:=ne b0 b2 e0 e2 (by decide) rfl rfl rfl
 have Mb:=ne b0 b3 e0 e3 (by decide) rfl rfl rfl
 have Ma:=ne b0 b4 e0 e4 (by decide) rfl rfl rfl
 have n12:=ne b1 b2 e1 e2 (by decide) rfl rfl rfl
 have n13:=ne b1 b3 e1 e3 (by decide) rfl rfl rfl
 have n14:=ne b1 b4 e1 e4 (by decide) rfl rfl rfl
 have n23:=ne b2 b3 e2 e3 (by decide) rfl rfl rfl
 have n24:=ne b2 b4 e2 e4 (by decide) rfl rfl rfl
 have n34:=ne b3 b4 e3 e4 (by decide) rfl rfl rfl
 simp only[Blk.real,denL,den,e1,e2,e3,e4,dL,oI]at d0 d1 d2
 simp only[Blk.real,Tab.cells,wv,oI]at d3 d4
 subst d1 d2 d3 d4
 have hW:WayAt w r1.1 r2.1 r3.1 r4.1 s.steps s.m:=⟨w1,⟨w2,w3,w4,⟨n23,n24,n34⟩,⟨f1,f2⟩⟩,⟨n12,n13,n14⟩⟩
 rcases mb with⟨ht,rfl⟩|⟨l,ht,hl,rfl,b5⟩
 .simp only[den,oI]at d0
  subst d0
  refine⟨r0,r1,r2,r3,r4,none,e0,e1,e2,e3,e4,⟨w0,hW,by rw[ht];trivial,⟨Md,Mc,Mb,Ma⟩,fun b hb=>by cases hb⟩,?_⟩
  rintro q b (rfl|rfl|rfl|rfl|rfl|hb)
  .exact⟨0,_,r0,b0,e0,rfl,rfl,fun _=>rfl⟩
  .exact⟨1,_,r1,b1,e1,rfl,rfl,fun _=>rfl⟩
  .exact⟨2,_,r2,b2,e2,rfl,rfl,fun _=>rfl⟩
  .exact⟨3,_,r3,b3,e3,rfl,rfl,fun _=>rfl⟩
  .exact⟨4,_,r4,b4,e4,rfl,rfl,fun _=>rfl⟩
  .cases hb
 .obtain⟨r5,c5,t5,e5,d5,w5,g5,_⟩:=E.row 5 _ b5 rfl rfl
  obtain rfl:=g5 rfl
  simp only[List.append_nil]at w5
  simp only[den,e5,dL,oI]at d0
  subst d0
  refine⟨r0,r1,r2,r3,r4,some r5.1,e0,e1,e2,e3,e4,⟨w0,hW,?_,⟨Md,Mc,Mb,Ma⟩,fun b hb =>?_⟩,?_⟩
  .rw[ht];exact⟨c5,xh9 hl d5,w5⟩
  .cases hb
   exact⟨ne b5 b0 e5 e0 (by decide) rfl rfl rfl,ne b5 b1 e5 e1 (by decide) rfl rfl rfl,ne b5 b2 e5 e2 (by decide) rfl rfl rfl,ne b5 b3 e5 e3 (by decide) rfl rfl rfl,ne b5 b4 e5 e4 (by decide) rfl rfl rfl⟩
  .rintro q b (rfl|rfl|rfl|rfl|rfl|hb)
   .exact⟨0,_,r0,b0,e0,rfl,rfl,fun _=>rfl⟩
   .exact⟨1,_,r1,b1,e1,rfl,rfl,fun _=>rfl⟩
   .exact⟨2,_,r2,b2,e2,rfl,rfl,fun _=>rfl⟩
   .exact⟨3,_,r3,b3,e3,rfl,rfl,fun _=>rfl⟩
   .exact⟨4,_,r4,b4,e4,rfl,rfl,fun _=>rfl⟩
   .cases hb;exact⟨5,_,r5,b5,e5,rfl,rfl,fun _=>rfl⟩
def xc4:V1->Bool
 | .c x=>yx x
 | .agg l=>l.all yx
def flatV:V->Bool
 | .c x=>yx x
 | .agg l=>l.all yx
 | .tup l=>l.all xc4
theorem xvP{pv pv':Value}{e e':Env}{x:V1}(h:xc4 x=true):yV pv' e' x=yV pv e x:=by
 cases x with
 | c x=>exact xbG h
 | agg l=>simp only[yV,qH (pv:=pv) (pv':=pv') (e:=e) (e':=e') (show l.all yx=true from h)]
theorem allSome_congr{α β:Type}{f g:α->Option β} : ∀ {l:List α},(∀x∈l,f x=g x)->allSome f l=allSome g l
 | [],_=>rfl
 | x::l,h=>by
  have ih:allSome f l=allSome g l:=allSome_congr fun y hy=>h y (List.mem_cons_of_mem _ hy)
  simp only[allSome,h x (by simp),ih]
theorem je{pv pv':Value}{e e':Env}{x:V}(h:flatV x=true):denV pv' e' x=denV pv e x:=by
 cases x with
 | c x=>exact xbG h
 | agg l=>simp only[denV,qH (pv:=pv) (pv':=pv') (e:=e) (e':=e') (show l.all yx=true from h)]
 | tup l=>
  simp only[denV]
  rw[allSome_congr fun y hy=>xvP (pv:=pv) (pv':=pv') (e:=e) (e':=e') (List.all_eq_true.1 (show l.all xc4=true from h) y hy)]
theorem xse(pv:Value)(e:Env){x:V1}(h:xc4 x=true) : ∃rv,yV pv e x=some rv:=by
 cases x with
 | c x=>cases x<;>first|exact⟨_,rfl⟩|(simp[xc4,yx]at h)
 | agg l=>obtain⟨us,hu⟩:=WQ pv e (show l.all yx=true from h);exact⟨.agg us.toArray,by simp only[yV,hu,dL]⟩
theorem xia(pv:Value)(e:Env){x:V}(h:flatV x=true) : ∃rv,denV pv e x=some rv:=by
 cases x with
 | c x=>cases x<;>first|exact⟨_,rfl⟩|(simp[flatV,yx]at h)
 | agg l=>obtain⟨us,hu⟩:=WQ pv e (show l.all yx=true from h);exact⟨.agg us.toArray,by simp only[denV,hu,dL]⟩
 | tup l=>
  have : ∀l:List V1,l.all xc4=true ->∃us,allSome (yV pv e) l=some us:=by
   intro l
   induction l with
   | nil=>intro _;exact⟨[],rfl⟩
   | cons x l ih=>
    intro h
    simp only[List.all_cons,dK]at h
    obtain⟨a,ha⟩:=xse pv e h.1
    obtain⟨us,hu⟩:=ih h.2
    exact⟨a::us,by simp only[allSome,ha,hu]⟩
  obtain⟨us,hu⟩:=this l h
  exact⟨.tuple us.toArray,by simp only[denV,hu,dL]⟩
theorem Kp{pv pv':Value}{e e':Env}{l:List V}(h:l.all flatV=true):allSome (denV pv' e') l=allSome (denV pv e) l:=
 allSome_congr fun y hy=>je (List.all_eq_true.1 h y hy)
theorem xvQ{e:Env}{H1:Heap}{w':World}{s:DS}{r0 r1 r2 r3 r4:Nat×Nat}{td:Option Nat}(h5:5<=e.length)(e0:e[0]? = some r0)(e1:e[1]? = some r1)(e2:e[2]? = some r2)(e3:e[3]? = some r3)(e4:e[4]? = some r4)
  (hD:DirAt w' r0.1 r1.1 r2.1 r3.1 r4.1 td s) (hw:Xf e.length s=some H1) : ∃e',Ext e e'/\Emb NP.pv e' H1 w'/\ ∀q b,Own q e' H1 b->InD r0.1 r1.1 r2.1 r3.1 r4.1 td b:=by
 obtain⟨n0,n1,n2,n3⟩:=hD.ne
 obtain⟨n4,n5,n6⟩:=hD.way.ne
 obtain⟨n7,n8,n9⟩:=hD.way.mem.ne
 have ht:=hD.told
 have cf : [r0.1,r1.1,r2.1,r3.1,r4.1].Nodup:=by simp;omega
 unfold Xf at hw
 split at hw
 .rename_i hs
  split at hw
  .rename_i hn
   cases hw
   have mb:td=none:=by
    cases td with
    | none=>rfl
    | some b=>rw[hs]at ht;exact ht.elim
   subst mb
   have ba : ∀i k,blkAt (baseD s .nilp) i=some k->(i=0/\k=⟨[.ptr 1 0,.int .i64 s.self,.nilp], 90,false,none⟩)\/(i=1/\k=⟨[.ptr 2 0,.int .i64 s.steps], 87,false,none⟩)\/(i=2/\k=⟨[.sl 3 0 s.m.words.length s.m.words.length,.sl 4 0 s.m.bytes.length s.m.bytes.length], 232,false,none⟩)\/(i=3/\k=⟨[], 42,false,some (.col .u64 s.m.words)⟩)\/(i=4/\k=⟨[], 5,false,some (.col .u8 s.m.bytes)⟩):=by
    intro i k h
    match i with
    | 0=>cases h;exact .inl ⟨rfl,rfl⟩
    | 1=>cases h;exact .inr (.inl ⟨rfl,rfl⟩)
    | 2=>cases h;exact .inr (.inr (.inl ⟨rfl,rfl⟩))
    | 3=>cases h;exact .inr (.inr (.inr (.inl ⟨rfl,rfl⟩)))
    | 4=>cases h;exact .inr (.inr (.inr (.inr ⟨rfl,rfl⟩)))
    | i+5=>simp[baseD,blkAt]at h
   have hi : ∀i r,i<5->e[i]? = some r ->[r0.1,r1.1,r2.1,r3.1,r4.1][i]? = some r.1:=by
    intro i r an hr
    match i,an with
    | 0,_=>rw[e0]at hr;cases hr;rfl
    | 1,_=>rw[e1]at hr;cases hr;rfl
    | 2,_=>rw[e2]at hr;cases hr;rfl
    | 3,_=>rw[e3]at hr;cases hr;rfl
    | 4,_=>rw[e4]at hr;cases hr;rfl
   refine⟨e,Ext.refl e,⟨by rw[hn];rfl,fun i k hk =>?_,fun i j k k' r r' hk cw hr dw he _ _ =>?_,fun i k hk=>by rcases ba i k hk with⟨_,rfl⟩|⟨_,rfl⟩|⟨_,rfl⟩|⟨_,rfl⟩|⟨_,rfl⟩<;>exact fun t ht=>by first|rfl|cases ht⟩,?_⟩
   .rcases ba i k hk with⟨rfl,rfl⟩|⟨rfl,rfl⟩|⟨rfl,rfl⟩|⟨rfl,rfl⟩|⟨rfl,rfl⟩
    .exact⟨r0,[.pointer (some ⟨r1.1,0,none⟩),.int .i64 s.self,.pointer none],e0,by simp only[Blk.real,denL,den,e1,dL],Lies.mk (tl :=[]) rfl (by simpa using hD.dir) (fun _=>rfl) (fun h=>by cases h)⟩
    .exact⟨r1,[.pointer (some ⟨r2.1,0,none⟩),.int .i64 s.steps],e1,by simp only[Blk.real,denL,den,e2,dL],Lies.mk (tl :=[]) rfl (by simpa using hD.way.way) (fun _=>rfl) (fun h=>by cases h)⟩
    .exact⟨r2,[.slice (some ⟨r3.1,0,none⟩) s.m.words.length s.m.words.length,.slice (some ⟨r4.1,0,none⟩) s.m.bytes.length s.m.bytes.length],e2,by simp only[Blk.real,denL,den,e3,e4,dL],Lies.mk (tl :=[]) rfl (by simpa using hD.way.mem.mem) (fun _=>rfl) (fun h=>by cases h)⟩
    .exact⟨r3,s.m.words.map (Value.int .u64),e3,wv _ _ _ _,Lies.mk (tl :=[]) rfl (by simpa using hD.way.mem.words) (fun _=>rfl) (fun h=>by cases h)⟩
    .exact⟨r4,s.m.bytes.map (Value.int .u8),e4,wv _ _ _ _,Lies.mk (tl :=[]) rfl (by simpa using hD.way.mem.bytes) (fun _=>rfl) (fun h=>by cases h)⟩
   .have a1:i<5:=by rcases ba i k hk with⟨h,_⟩|⟨h,_⟩|⟨h,_⟩|⟨h,_⟩|⟨h,_⟩<;>omega
    have a2:j<5:=by rcases ba j k' cw with⟨h,_⟩|⟨h,_⟩|⟨h,_⟩|⟨h,_⟩|⟨h,_⟩<;>omega
    exact .inl ((List.getElem?_inj (by simpa using a1) cf).1 ((hi i r a1 hr).trans ((congrArg some he).trans (hi j r' a2 dw).symm)))
   .rintro q b ⟨i,k,r,hk,hr,rfl,_⟩
    have a1:i<5:=by rcases ba i k hk with⟨h,_⟩|⟨h,_⟩|⟨h,_⟩|⟨h,_⟩|⟨h,_⟩<;>omega
    have hm:=List.mem_of_getElem? (hi i r a1 hr)
    simp only[List.mem_cons,List.not_mem_nil,or_false]at hm
    unfold InD
    rcases hm with h|h|h|h|h<;>simp[h]
  .cases hw
 .rename_i l hs
  split at hw
  .rename_i hn
   obtain⟨hn,hl⟩:=hn
   cases hw
   obtain⟨b5,mb⟩ : ∃b,td=some b:=by
    cases td with
    | none=>rw[hs]at ht;exact ht.elim
    | some b=>exact⟨b,rfl⟩
   subst mb
   rw[hs]at ht
   obtain⟨vs,t1,t2⟩:=ht
   have n10:=hD.tne b5 rfl
   have hx:Ext e (e ++ [(b5,0)]):=⟨_,rfl⟩
   have u9:(e ++ [(b5,0)])[e.length]? = some (b5,0):=by simp
   have ba : ∀i k,blkAt (baseD s (.ptr e.length 0)++(List.replicate (e.length-5) none ++ [some ⟨l, 47,false,none⟩])) i=some k->(i=0/\k=⟨[.ptr 1 0,.int .i64 s.self,.ptr e.length 0], 90,false,none⟩)\/(i=1/\k=⟨[.ptr 2 0,.int .i64 s.steps], 87,false,none⟩)\/(i=2/\k=⟨[.sl 3 0 s.m.words.length s.m.words.length,.sl 4 0 s.m.bytes.length s.m.bytes.length], 232,false,none⟩)\/(i=3/\k=⟨[], 42,false,some (.col .u64 s.m.words)⟩)\/(i=4/\k=⟨[], 5,false,some (.col .u8 s.m.bytes)⟩)\/(i=e.length/\k=⟨l, 47,false,none⟩):=by
    intro i k h
    match i with
    | 0=>cases h;exact .inl ⟨rfl,rfl⟩
    | 1=>cases h;exact .inr (.inl ⟨rfl,rfl⟩)
    | 2=>cases h;exact .inr (.inr (.inl ⟨rfl,rfl⟩))
    | 3=>cases h;exact .inr (.inr (.inr (.inl ⟨rfl,rfl⟩)))
    | 4=>cases h;exact .inr (.inr (.inr (.inr (.inl ⟨rfl,rfl⟩))))
    | i+5=>
     have h':blkAt (List.replicate (e.length-5) none ++ [some ⟨l, 47,false,none⟩]) i=some k:=h
     rw[yf]at h'
     by_cases hi:i<e.length-5
     .rw[List.getElem?_append_left (by simpa using hi),List.getElem?_replicate]at h'
      simp[hi]at h'
     .rw[List.getElem?_append_right (by simpa using hi)]at h'
      simp only[List.length_replicate]at h'
      by_cases dy:i=e.length-5
      .subst dy
       simp at h'
       exact .inr (.inr (.inr (.inr (.inr ⟨by omega,h'.symm⟩))))
      .rw[List.getElem?_eq_none (by simp;omega)]at h'
       cases h'
   have g0:=hx.get e0
   have g1:=hx.get e1
   have g2:=hx.get e2
   have g3:=hx.get e3
   have g4:=hx.get e4
   have hi : ∀i r,i<5->(e ++ [(b5,0)])[i]? = some r ->[r0.1,r1.1,r2.1,r3.1,r4.1][i]? = some r.1:=by
    intro i r an hr
    match i,an with
    | 0,_=>rw[g0]at hr;cases hr;rfl
    | 1,_=>rw[g1]at hr;cases hr;rfl
    | 2,_=>rw[g2]at hr;cases hr;rfl
    | 3,_=>rw[g3]at hr;cases hr;rfl
    | 4,_=>rw[g4]at hr;cases hr;rfl
   have hc : ∀i k r,blkAt (baseD s (.ptr e.length 0)++(List.replicate (e.length-5) none ++ [some ⟨l, 47,false,none⟩])) i=some k->(e ++ [(b5,0)])[i]? = some r->(i<5/\ [r0.1,r1.1,r2.1,r3.1,r4.1][i]? = some r.1)\/(i=e.length/\r.1=b5):=by
    intro i k r hk hr
    rcases ba i k hk with⟨h,_⟩|⟨h,_⟩|⟨h,_⟩|⟨h,_⟩|⟨h,_⟩|⟨h,_⟩
    case' inr.inr.inr.inr.inr=>right;subst h;rw[u9]at hr;cases hr;exact⟨rfl,rfl⟩
    all_goals exact .inl ⟨by omega,hi i r (by omega) hr⟩
   refine⟨e ++ [(b5,0)],hx,⟨by simp[baseD];omega,fun i k hk =>?_,fun i j k k' r r' hk cw hr dw he _ _ =>?_,fun i k hk=>by rcases ba i k hk with⟨_,rfl⟩|⟨_,rfl⟩|⟨_,rfl⟩|⟨_,rfl⟩|⟨_,rfl⟩|⟨_,rfl⟩<;>exact fun t ht=>by first|rfl|cases ht⟩,?_⟩
   .rcases ba i k hk with⟨rfl,rfl⟩|⟨rfl,rfl⟩|⟨rfl,rfl⟩|⟨rfl,rfl⟩|⟨rfl,rfl⟩|⟨rfl,rfl⟩
    .exact⟨r0,[.pointer (some ⟨r1.1,0,none⟩),.int .i64 s.self,.pointer (some ⟨b5,0,none⟩)],g0,by simp only[Blk.real,denL,den,g1,u9,dL],Lies.mk (tl :=[]) rfl (by simpa using hD.dir) (fun _=>rfl) (fun h=>by cases h)⟩
    .exact⟨r1,[.pointer (some ⟨r2.1,0,none⟩),.int .i64 s.steps],g1,by simp only[Blk.real,denL,den,g2,dL],Lies.mk (tl :=[]) rfl (by simpa using hD.way.way) (fun _=>rfl) (fun h=>by cases h)⟩
    .exact⟨r2,[.slice (some ⟨r3.1,0,none⟩) s.m.words.length s.m.words.length,.slice (some ⟨r4.1,0,none⟩) s.m.bytes.length s.m.bytes.length],g2,by simp only[Blk.real,denL,den,g3,g4,dL],Lies.mk (tl :=[]) rfl (by simpa using hD.way.mem.mem) (fun _=>rfl) (fun h=>by cases h)⟩
    .exact⟨r3,s.m.words.map (Value.int .u64),g3,wv _ _ _ _,Lies.mk (tl :=[]) rfl (by simpa using hD.way.mem.words) (fun _=>rfl) (fun h=>by cases h)⟩
    .exact⟨r4,s.m.bytes.map (Value.int .u8),g4,wv _ _ _ _,Lies.mk (tl :=[]) rfl (by simpa using hD.way.mem.bytes) (fun _=>rfl) (fun h=>by cases h)⟩
    .exact⟨(b5,0),vs,u9,xh9 hl t1,Lies.mk (tl :=[]) rfl (by simpa using t2) (fun _=>rfl) (fun h=>by cases h)⟩
   .rcases hc i k r hk hr with⟨a1,c1⟩|⟨a1,c1⟩<;>rcases hc j k' r' cw dw with⟨a2,c2⟩|⟨a2,c2⟩
    .exact .inl ((List.getElem?_inj (by simpa using a1) cf).1 (c1.trans ((congrArg some he).trans c2.symm)))
    .rw[he,c2]at c1
     have hm:=List.mem_of_getElem? c1
     simp only[List.mem_cons,List.not_mem_nil,or_false]at hm
     omega
    .rw[<- he,c1]at c2
     have hm:=List.mem_of_getElem? c2
     simp only[List.mem_cons,List.not_mem_nil,or_false]at hm
     omega
    .exact .inl (by omega)
   .rintro q b ⟨i,k,r,hk,hr,rfl,_⟩
    rcases hc i k r hk hr with⟨a1,c1⟩|⟨a1,c1⟩
    .have hm:=List.mem_of_getElem? c1
     simp only[List.mem_cons,List.not_mem_nil,or_false]at hm
     unfold InD
     rcases hm with h|h|h|h|h<;>simp[h]
    .rw[c1];exact .inr (.inr (.inr (.inr (.inr rfl))))
  .cases hw
theorem xkI{H:Heap}{s:DS}(h:Yl H=some s):5<=H.length:=by
 obtain⟨_,⟨_,rfl⟩|⟨l,_,_,rfl⟩⟩:=xsd h<;>simp[baseD]
theorem xoy{e:Env}{H H1:Heap}{w w':World}{s s':DS}{r0 r1 r2 r3 r4:Nat×Nat}{td zf:Option Nat}{v:V}{rv:Value}{F:Nat->Prop}(E:Emb NP.pv e H w)(ol:Yl H=some s)(e0:e[0]? = some r0)(e1:e[1]? = some r1)(e2:e[2]? = some r2)(e3:e[3]? = some r3)(e4:e[4]? = some r4)
  (ax : ∀q b,InD r0.1 r1.1 r2.1 r3.1 r4.1 td b->Own q e H b) (hD':DirAt w' r0.1 r1.1 r2.1 r3.1 r4.1 zf s') (l9:Xf H.length s'=some H1) (mb : ∀b,zf=some b->td=some b\/w.heap.size<=b) (hk:Keeps (InD r0.1 r1.1 r2.1 r3.1 r4.1 td) w w') (hv : ∀e,denV NP.pv e v=some rv) :
  ∃e' F' Ck,(Ending.returned rv) = .returned Ck/\Ext e e'/\denV NP.pv e' v=some Ck/\Emb NP.pv e' H1 w'/\NP.Rep () F' w'/\(∀b,Own false e' H1 b ->¬F' b)/\Keeps (fun b=>Own true e H b\/F b) w w'/\ ∀q b,Own q e' H1 b\/F' b->Own q e H b\/F b\/w.heap.size<=b:=by
 have h5:=xkI ol
 rw[E.len]at h5 l9
 obtain⟨e',hx,E',ho⟩:=xvQ h5 e0 e1 e2 e3 e4 hD' l9
 refine⟨e',fun _=>False,rv,rfl,hx,hv e',E',fun b hb=>hb,fun b _ hb=>hb,hk.mono fun b hb =>.inl (ax _ b hb),fun q b hb =>?_⟩
 rcases hb with hb|hb
 .rcases ho _ b hb with h|h|h|h|h|h
  .exact .inl (ax _ b (.inl h))
  .exact .inl (ax _ b (.inr (.inl h)))
  .exact .inl (ax _ b (.inr (.inr (.inl h))))
  .exact .inl (ax _ b (.inr (.inr (.inr (.inl h)))))
  .exact .inl (ax _ b (.inr (.inr (.inr (.inr (.inl h))))))
  .rcases mb b h with h'|h'
   .exact .inl (ax _ b (.inr (.inr (.inr (.inr (.inr h'))))))
   .exact .inr (.inr h')
 .exact hb.elim
def viaD(m:Sm):Sm:=fun args H=>match args with
 | .c (.ifc t (.ptr 0 0))::rest=>if t = 32 /\ rest.all flatV=true then
   match Yl H,m (.c .port::rest) [] with
   | some s,some S=>match S.t.run yn s with
    | some (x,s')=>match S.f x with
     | some (v,[])=>match flatV v,Xf H.length s' with
      | true,some H1=>some (mkS Unit (.ret ()) fun _=>some (v,H1))
      | _,_=>none
     | _=>none
    | none=>none
   | _,_=>none
  else none
 | _=>none
theorem xzx{f:FuncId}{m:Sm}(hs : ∀d wy mm wb bb,SoundF (Dir d wy mm wb bb) f m):SoundF NP f (viaD m):=by
 refine⟨(hs 0 0 0 0 0).1,?_⟩
 intro args H S hS e w s0 F vs E hv hR hF x v H' s' hrun cx
 unfold viaD at hS
 split at hS
 .rename_i t rest
  split at hS
  .rename_i hc
   obtain⟨rfl,la⟩:=hc
   split at hS
   .rename_i s S0 ol hm
    split at hS
    .rename_i x0 s1 gk
     split at hS
     .rename_i v0 Dt
      split at hS
      .rename_i H1 mw l9
       cases hS
       simp only[T.run,oI,dH]at hrun cx
       obtain⟨rfl,rfl⟩:=cx
       obtain⟨r0,r1,r2,r3,r4,td,e0,e1,e2,e3,e4,hD,ax⟩:=Ko E ol
       have ft:allSome (denV (pvD r0.1) []) (.c .port::rest)=some vs:=by
        simp only[allSome,denV,den,e0,dL,pvD]at hv |-
        rw[Kp (pv:=NP.pv) (e:=e) la]
        exact hv
       obtain⟨rv,fm⟩:=xia NP.pv e mw
       refine(xsb (hs r0.1 r1.1 r2.1 r3.1 r4.1) hm ft hD gk Dt (fun e'=>(je mw).trans fm)).mono ?_
       rintro en w' ⟨rfl,⟨zf,hD',mb⟩,hk⟩
       exact xoy E ol e0 e1 e2 e3 e4 ax hD' l9 mb hk (fun e'=>(je mw).trans fm)
      .cases hS
     .cases hS
    .cases hS
   .cases hS
  .cases hS
 .cases hS
def viaM(name:String):Sm:=fun args H=>match args with
 | .c (.ptr 0 0)::rest=>if rest.all flatV=true then
   match Yl H,popOf name rest with
   | some s,some p=>match yn p s with
    | some (x,s')=>match flatV (ansV p x),Xf H.length s' with
     | true,some H1=>some (mkS Unit (.ret ()) fun _=>some (ansV p x,H1))
     | _,_=>none
    | none=>none
   | _,_=>none
  else none
 | _=>none
theorem yQ {f:FuncId} {name:String} (hb : ∃fn c,(Tryz.prog).funcs[f]? = some fn/\(fn.name == "runtime.NumGoroutine")=false/\fn.body=some c) (hn : ∀d (args:List Value) w,(callMethod (pvD d) name args.toArray).run Tryz.prog w = .ok (.enter f (#[.pointer (some ⟨d,0,none⟩)]++args.toArray)) w):SoundF NP f (viaM name):=by
 refine⟨hb,?_⟩
 intro args H S hS e w s0 F vs E hv hR hF x v H' s' hrun cx
 unfold viaM at hS
 split at hS
 .rename_i rest
  split at hS
  .rename_i la
   split at hS
   .rename_i s p ol hp
    split at hS
    .rename_i x0 s1 gk
     split at hS
     .rename_i H1 mw l9
      cases hS
      simp only[T.run,oI,dH]at hrun cx
      obtain⟨rfl,rfl⟩:=cx
      obtain⟨r0,r1,r2,r3,r4,td,e0,e1,e2,e3,e4,hD,ax⟩:=Ko E ol
      simp only[allSome,denV,den,e0,dL]at hv
      split at hv
      .rename_i us C7
       cases hv
       have ft:allSome (denV (pvD r0.1) []) rest=some us:=by rw[Kp (pv:=NP.pv) (e:=e) la];exact C7
       obtain⟨f',recv,rv,hm,P9,hc⟩:=xsa (d:=r0.1) (wy:=r1.1) (mm:=r2.1) (wb:=r3.1) (bb:=r4.1) (F:=InD r0.1 r1.1 r2.1 r3.1 r4.1 td) (w:=w) hp gk ft ⟨td,hD,fun b=>Iff.rfl⟩
       have h1:=(hm w).symm.trans (hn r0.1 us w)
       simp only[Result.ok.injEq,and_true]at h1
       have h2:=Next.enter.inj h1
       obtain⟨rfl,h2⟩:=h2
       rw[h2]at hc
       have zc:Calls Tryz.prog f' (Value.pointer (some ⟨r0.1,0,none⟩)::us).toArray w fun e w'=>e = .returned rv/\ ∃F',DRep r0.1 r1.1 r2.1 r3.1 r4.1 s1 F' w'/\Keeps (InD r0.1 r1.1 r2.1 r3.1 r4.1 td) w w'/\ ∀b,F' b->InD r0.1 r1.1 r2.1 r3.1 r4.1 td b\/w.heap.size<=b:=by simpa using hc
       refine zc.mono ?_
       rintro en w' ⟨rfl,F',⟨zf,hD',hF'⟩,hk,Bl⟩
       refine xoy E ol e0 e1 e2 e3 e4 ax hD' l9 (fun b hb =>?_) hk (fun e' =>?_)
       .have aq:=hD'.tne b hb
        rcases Bl b ((hF' b).2 (.inr (.inr (.inr (.inr (.inr hb))))))with h|h
        .rcases h with h|h|h|h|h|h
         .exact absurd h aq.1
         .exact absurd h aq.2.1
         .exact absurd h aq.2.2.1
         .exact absurd h aq.2.2.2.1
         .exact absurd h aq.2.2.2.2
         .exact .inl h
        .exact .inr h
       .exact(je mw).trans (P9 e')
      .cases hv
     .cases hS
    .cases hS
   .cases hS
  .cases hS
 .cases hS
end
end Go.Proofs.YtcicjcggclhbfaaGreat
