/- Part. -/
import Derived.Test.YtaegelbaghaooaaGreatCbM3
import Derived.Deep.QuietTactic
import Derived.BigQuiet
import Derived.Deep.RegionHeld3
import Derived.RegionTactic
import Derived.StillTailTactics
import Derived.Laws.MakeOwn
set_option linter.all false
open Go.IntKind (i64 u64 u32 u8)
set_option maxRecDepth 1000000
namespace Go.Proofs.YtaegelbaghaooaaGreat
section
open Go.RowKit Lx
theorem xvn(mm wb n n':Nat)(w:World)(h0:w.cell? ⟨mm,0,none⟩=some (.slice (some ⟨wb,0,none⟩) n n')) :
  Calls Tryz.prog 184 #[.pointer (some ⟨mm,0,none⟩)] w fun e w'=>e = .returned (.int .i64 n)/\w=w':=by
 go_enter Tryz.func184,Tryz.ntmps184
 go_wp2
 go_ret
 exact⟨rfl,rfl⟩
theorem xvo(mm bb k k':Nat)(w:World)(h1:w.cell? ⟨mm,1,none⟩=some (.slice (some ⟨bb,0,none⟩) k k')) :
  Calls Tryz.prog 186 #[.pointer (some ⟨mm,0,none⟩)] w fun e w'=>e = .returned (.int .i64 k)/\w=w':=by
 go_enter Tryz.func186,Tryz.ntmps186
 go_wp2
 go_ret
 exact⟨rfl,rfl⟩
theorem qX(d wy:Nat)(w:World)(h0:w.cell? ⟨d,0,none⟩=some (.pointer (some ⟨wy,0,none⟩))) :
  Calls Tryz.prog 104 #[.pointer (some ⟨d,0,none⟩)] w fun e w'=>e = .returned (.pointer (some ⟨wy,0,none⟩))/\w=w':=by
 go_enter Tryz.func104,Tryz.ntmps104
 go_wp2
 go_ret
 exact⟨rfl,rfl⟩
theorem xxn(d:Nat)(s:Int)(w:World)(h0:w.cell? ⟨d,1,none⟩=some (.int .i64 s)) :
  Calls Tryz.prog 307 #[.pointer (some ⟨d,0,none⟩)] w fun e w'=>e = .returned (.int .i64 s)/\w=w':=by
 go_enter Tryz.func307,Tryz.ntmps307
 go_wp2
 go_ret
 exact⟨rfl,rfl⟩
theorem xvp(d wy:Nat)(s:Int)(w:World)(h0:w.cell? ⟨d,0,none⟩=some (.pointer (some ⟨wy,0,none⟩)))(h1:w.cell? ⟨wy,1,none⟩=some (.int .i64 s)) :
  Calls Tryz.prog 43 #[.pointer (some ⟨d,0,none⟩)] w fun e w'=>e = .returned (.int .i64 s)/\w=w':=by
 go_enter Tryz.func43,Tryz.ntmps43
 go_wp2_with (go_at_call 104;refine(qX d wy _ h0).mono ?_;rintro e w' ⟨rfl,rfl⟩)
 go_ret
 exact⟨rfl,rfl⟩
theorem k1_any(x kd at_ A B:Int)(w:World) :
  Calls Tryz.prog 244 #[.int .u64 x,.agg #[.int .u8 kd,.int .i64 at_,.int .u64 A,.int .u64 B]] w fun e w'=>e = .returned (.tuple #[.int .u64 x,.int .u64 x])/\Below w.heap.size w w':=by
 go_enter Tryz.func244,Tryz.ntmps244
 go_wp2
 go_ret2
 exact⟨rfl,by first|exact Below.refl _ _|exact(Below.refl _ _).alloc (Nat.le_refl _) _⟩
theorem k2_any(x kd at_ A B:Int)(w:World) :
  Calls Tryz.prog 245 #[.int .u64 x,.agg #[.int .u8 kd,.int .i64 at_,.int .u64 A,.int .u64 B]] w fun e w'=>e = .returned (.tuple #[.int .u64 A,.int .u64 0])/\Below w.heap.size w w':=by
 go_enter Tryz.func245,Tryz.ntmps245
 go_wp2
 go_ret2
 exact⟨rfl,by first|exact Below.refl _ _|exact(Below.refl _ _).alloc (Nat.le_refl _) _⟩
theorem k3_yes(x kd at_ B:Int)(w:World) :
  Calls Tryz.prog 246 #[.int .u64 x,.agg #[.int .u8 kd,.int .i64 at_,.int .u64 x,.int .u64 B]] w fun e w'=>e = .returned (.tuple #[.int .u64 B,.int .u64 1])/\Below w.heap.size w w':=by
 go_enter Tryz.func246,Tryz.ntmps246
 go_wp2
 go_ret2
 exact⟨rfl,by first|exact Below.refl _ _|exact(Below.refl _ _).alloc (Nat.le_refl _) _⟩
theorem k3_no(x kd at_ A B:Int)(w:World)(h:(x==A)=false)(h':(x != A)=true) :
  Calls Tryz.prog 246 #[.int .u64 x,.agg #[.int .u8 kd,.int .i64 at_,.int .u64 A,.int .u64 B]] w fun e w'=>e = .returned (.tuple #[.int .u64 x,.int .u64 0])/\Below w.heap.size w w':=by
 go_enter Tryz.func246,Tryz.ntmps246
 go_wp2
 go_ret2
 exact⟨rfl,by first|exact Below.refl _ _|exact(Below.refl _ _).alloc (Nat.le_refl _) _⟩
theorem k4_any(x kd at_ A B:Int)(w:World) :
  Calls Tryz.prog 247 #[.int .u64 x,.agg #[.int .u8 kd,.int .i64 at_,.int .u64 A,.int .u64 B]] w fun e w'=>e = .returned (.tuple #[.int .u64 (u64.wrap (x+A)),.int .u64 x])/\Below w.heap.size w w':=by
 go_enter Tryz.func247,Tryz.ntmps247
 go_wp2
 go_ret2
 exact⟨rfl,by first|exact Below.refl _ _|exact(Below.refl _ _).alloc (Nat.le_refl _) _⟩
theorem qd(w:World):Calls Tryz.prog 185 #[] w fun e w'=>e = .returned (.agg #[.nilFunc,.func (.func 244) #[] #[],.func (.func 245) #[] #[],.func (.func 246) #[] #[],.func (.func 247) #[] #[]])/\Below w.heap.size w w':=
 Lx.calls_flat (m:=inl Tryz.prog (fun _=>none) 1 Tryz.f185) (args :=[]) (vs :=[]) (x:=(.agg [.nilf,.fn 244 [],.fn 245 [],.fn 246 [],.fn 247 []],[]))
  (xbF (fun f m h=>by cases h) mixed Tryz.func185 (by kernel_rfl) (by kernel_rfl) 1) rfl rfl (by kernel_rfl) rfl (fun e=>by kernel_rfl) w
end
section
open Go.RowKit Lx
theorem yd(mm wb n n':Nat)(w:World)(h0:w.cell? ⟨mm,0,none⟩=some (.slice (some ⟨wb,0,none⟩) n n')) :
  Calls Tryz.prog 184 #[.pointer (some ⟨mm,0,none⟩)] w fun e w'=>e = .returned (.int .i64 n)/\w'=w:=(xvn mm wb n n' w h0).mono fun e w' h=>⟨h.1,h.2.symm⟩
def YD(w:World)(wb i:Nat)(now told:Int)(e:Ending)(w':World):Prop:=
 e = .returned (.tuple #[.int .u64 told,.bool true])/\ ∃w1,Below w.heap.size w w1/\w'=w1.setCell ⟨wb,i,none⟩ (.int .u64 now)
theorem qe{w w1:World}(hb:Below w.heap.size w w1){b o:Nat}{v:Value}(h:w.cell? ⟨b,o,none⟩=some v)(hlt:b<w.heap.size):w1.cell? ⟨b,o,none⟩=some v:=by
 rw[hb.cell (p:=⟨b,o,none⟩) hlt,h]
theorem xN{B n:Nat}{w w1:World}(h:Below B w w1):Below B w (w1.drewN n):=⟨h.os,h.tape,h.output,h.size,h.block⟩
theorem yx{B:Nat}{w w1:World}(h:Below B w w1):Below B w w1.drew:=⟨h.os,h.tape,h.output,h.size,h.block⟩
def Hel(w:World)(k mm wb n n' i:Nat)(kd x A B:Int)(w':World):Prop:=w'.cell? ⟨k,0,none⟩=some (.int .u8 kd)/\w'.cell? ⟨k,1,none⟩=some (.int .i64 i)/\w'.cell? ⟨k,2,none⟩=some (.int .u64 A)/\w'.cell? ⟨k,3,none⟩=some (.int .u64 B)/\w'.cell? ⟨mm,0,none⟩=some (.slice (some ⟨wb,0,none⟩) n n')/\w'.cell? ⟨wb,i,none⟩=some (.int .u64 x)/\Below w.heap.size w w'/\w.heap.size<w'.heap.size
section
variable{w w1 w2:World}{mm wb n n' i:Nat}{kd x A B:Int}
theorem Hel.begin(h0:w.cell? ⟨mm,0,none⟩=some (.slice (some ⟨wb,0,none⟩) n n'))(hx:w.cell? ⟨wb,i,none⟩=some (.int .u64 x))(hm:mm<w.heap.size)(hwb:wb<w.heap.size) :
  Hel w w.heap.size mm wb n n' i kd x A B (w.alloc (.cells #[.int .u8 kd,.int .i64 i,.int .u64 A,.int .u64 B] 171)):=by
 refine⟨by simp,by simp,by simp,by simp,?_,?_,(Below.refl _ _).alloc (Nat.le_refl _) _,by rw[Lx.heap_alloc];simp⟩
 ·rw[World.cell?_alloc_past _ _ _ hm,h0]
 ·rw[World.cell?_alloc_past _ _ _ hwb,hx]
theorem Hel.drewN{k m:Nat}(h:Hel w k mm wb n n' i kd x A B w1):Hel w k mm wb n n' i kd x A B (w1.drewN m):=⟨h.1,h.2.1,h.2.2.1,h.2.2.2.1,h.2.2.2.2.1,h.2.2.2.2.2.1,xN h.2.2.2.2.2.2.1,h.2.2.2.2.2.2.2⟩
theorem Hel.drew{k:Nat}(h:Hel w k mm wb n n' i kd x A B w1):Hel w k mm wb n n' i kd x A B w1.drew:=⟨h.1,h.2.1,h.2.2.1,h.2.2.2.1,h.2.2.2.2.1,h.2.2.2.2.2.1,yx h.2.2.2.2.2.2.1,h.2.2.2.2.2.2.2⟩
theorem Hel.on(hm:mm<w.heap.size)(hwb:wb<w.heap.size)(h:Hel w w.heap.size mm wb n n' i kd x A B w1)(hb:Below w1.heap.size w1 w2):Hel w w.heap.size mm wb n n' i kd x A B w2:=by
 obtain⟨h1,h2,h3,h4,h5,h6,h7,h8⟩:=h
 have:=hb.size
 exact⟨qe hb h1 h8,qe hb h2 h8,qe hb h3 h8,qe hb h4 h8,qe hb h5 (by omega),qe hb h6 (by omega),h7.trans (hb.mono (by omega)),by omega⟩
end
theorem do_load(mm wb n n' i:Nat)(x A B:Int)(w:World)(h0:w.cell? ⟨mm,0,none⟩=some (.slice (some ⟨wb,0,none⟩) n n'))
  (hx:w.cell? ⟨wb,i,none⟩=some (.int .u64 x)) (hfz:w.frozen? ⟨wb,i,none⟩=false) (hi:i<n) (hm:mm<w.heap.size) (hwb:wb<w.heap.size) (hn:n<=1000000) :
  Calls Tryz.prog 106 #[.pointer (some ⟨mm,0,none⟩),.agg #[.int .u8 1,.int .i64 i,.int .u64 A,.int .u64 B]] w (YD w wb i x x):=by
 have hd1:decide ((i:Int)<0)=false:=by simp
 have hd2:decide (n<=i)=false:=by simp;omega
 have HB:=Lib.hid (Hel.begin (kd:=1) (A:=A) (B:=B) h0 hx hm hwb)
 go_enter Tryz.func106,Tryz.ntmps106
 go_wp2
 have h0':(w.alloc (.cells #[.int .u8 1,.int .i64 i,.int .u64 A,.int .u64 B] 171)).cell? ⟨mm,0,none⟩=some (.slice (some ⟨wb,0,none⟩) n n'):=HB.out.2.2.2.2.1
 go_quiet ((go_at_call 184;exact Calls.quiet_of_same (yd mm wb n n' _ h0')))
 clear h0'
 have hidx : ∀w,(Instr.index 250 (.agg #[.nilFunc,.func (.func 244) #[] #[],.func (.func 245) #[] #[],.func (.func 246) #[] #[],.func (.func 247) #[] #[]]) (.int .u8 1)).run Tryz.prog w = .ok (.func (.func 244) #[] #[]) w:=fun w=>by kernel_rfl
 go_wp2_with fail
 go_region_held3 (fun w'=>w'.cell? ⟨w.heap.size,0,none⟩=some (.int .u8 1)/\w'.cell? ⟨w.heap.size,1,none⟩=some (.int .i64 i)/\w'.cell? ⟨w.heap.size,2,none⟩=some (.int .u64 A)/\w'.cell? ⟨w.heap.size,3,none⟩=some (.int .u64 B)/\w'.cell? ⟨mm,0,none⟩=some (.slice (some ⟨wb,0,none⟩) n n')/\w'.cell? ⟨wb,i,none⟩=some (.int .u64 x)/\Below w.heap.size w w'/\w.heap.size<w'.heap.size)
  (first|exact HB.out.drewN.drew|exact HB.out.drewN|exact Hel.on hm hwb (HB.out.drewN) hb1|exact Hel.on hm hwb (Hel.on hm hwb (HB.out.drewN) hb1) hb2)
  (first|(go_at_call 185;refine(qd _).mono ?_;rintro e1 w1 ⟨rfl,hb1⟩)|(go_at_call 244;refine(k1_any x 1 i A B _).mono ?_;rintro e2 w2 ⟨rfl,hb2⟩))
 have HC:=Lib.hid (Hel.on hm hwb (Hel.on hm hwb (HB.out.drewN) hb1) hb2)
 clear hb1 hb2
 obtain⟨g1,g2,g3,g4,g5,g6,g7,g8⟩:=HC.out
 have hz2:w2.frozen? ⟨wb,i,none⟩=false:=by rw[g7.frozen (p:=⟨wb,i,none⟩) hwb,hfz]
 have HG:=Lib.hid g7
 clear HC g7 g6 g4 g3 g1 h0 hx hfz HB hidx
 go_wp2_with fail
 go_still_tail 8,(by kernel_rfl)
 change wpList _ _ _ _ _ w2.drew
 go_wp2
 go_ret2
 exact⟨rfl,w2.drew,yx HG.out,rfl⟩
/-! printed -/
theorem ww(mm wb n n':Nat)(w:World)(h0:w.cell? ⟨mm,1,none⟩=some (.slice (some ⟨wb,0,none⟩) n n')) :
  Calls Tryz.prog 186 #[.pointer (some ⟨mm,0,none⟩)] w fun e w'=>e = .returned (.int .i64 n)/\w'=w:=(xvo mm wb n n' w h0).mono fun e w' h=>⟨h.1,h.2.symm⟩
def vi(w:World)(e:Ending)(w':World):Prop:=e = .returned (.tuple #[.int .u64 0,.bool false])/\Below w.heap.size w w'
theorem xxo(mm wb n n' i:Nat)(x A B:Int)(w:World)(h0:w.cell? ⟨mm,0,none⟩=some (.slice (some ⟨wb,0,none⟩) n n'))
  (hx:w.cell? ⟨wb,i,none⟩=some (.int .u64 x)) (hfz:w.frozen? ⟨wb,i,none⟩=false) (hi:i<n) (hm:mm<w.heap.size) (hwb:wb<w.heap.size) (hn:n<=1000000) :
  Calls Tryz.prog 106 #[.pointer (some ⟨mm,0,none⟩),.agg #[.int .u8 2,.int .i64 i,.int .u64 A,.int .u64 B]] w (YD w wb i (A) (0)):=by
 have hd1:decide ((i:Int)<0)=false:=by simp
 have hd2:decide (n<=i)=false:=by simp;omega
 have HB:=Lib.hid (Hel.begin (kd:=2) (A:=A) (B:=B) h0 hx hm hwb)
 go_enter Tryz.func106,Tryz.ntmps106
 go_wp2
 have h0':(w.alloc (.cells #[.int .u8 2,.int .i64 i,.int .u64 A,.int .u64 B] 171)).cell? ⟨mm,0,none⟩=some (.slice (some ⟨wb,0,none⟩) n n'):=HB.out.2.2.2.2.1
 go_quiet ((go_at_call 184;exact Calls.quiet_of_same (yd mm wb n n' _ h0')))
 clear h0'
 have hidx : ∀w,(Instr.index 250 (.agg #[.nilFunc,.func (.func 244) #[] #[],.func (.func 245) #[] #[],.func (.func 246) #[] #[],.func (.func 247) #[] #[]]) (.int .u8 2)).run Tryz.prog w = .ok (.func (.func 245) #[] #[]) w:=fun w=>by kernel_rfl
 go_wp2_with fail
 go_region_held3 (fun w'=>w'.cell? ⟨w.heap.size,0,none⟩=some (.int .u8 2)/\w'.cell? ⟨w.heap.size,1,none⟩=some (.int .i64 i)/\w'.cell? ⟨w.heap.size,2,none⟩=some (.int .u64 A)/\w'.cell? ⟨w.heap.size,3,none⟩=some (.int .u64 B)/\w'.cell? ⟨mm,0,none⟩=some (.slice (some ⟨wb,0,none⟩) n n')/\w'.cell? ⟨wb,i,none⟩=some (.int .u64 x)/\Below w.heap.size w w'/\w.heap.size<w'.heap.size)
  (first|exact HB.out.drewN.drew|exact HB.out.drewN|exact Hel.on hm hwb (HB.out.drewN) hb1|exact Hel.on hm hwb (Hel.on hm hwb (HB.out.drewN) hb1) hb2)
  (first|(go_at_call 185;refine(qd _).mono ?_;rintro e1 w1 ⟨rfl,hb1⟩)|(go_at_call 245;refine(k2_any x 2 i A B _).mono ?_;rintro e2 w2 ⟨rfl,hb2⟩))
 have HC:=Lib.hid (Hel.on hm hwb (Hel.on hm hwb (HB.out.drewN) hb1) hb2)
 clear hb1 hb2
 obtain⟨g1,g2,g3,g4,g5,g6,g7,g8⟩:=HC.out
 have hz2:w2.frozen? ⟨wb,i,none⟩=false:=by rw[g7.frozen (p:=⟨wb,i,none⟩) hwb,hfz]
 have HG:=Lib.hid g7
 clear HC g7 g6 g4 g3 g1 h0 hx hfz HB hidx
 go_wp2_with fail
 go_still_tail 8,(by kernel_rfl)
 change wpList _ _ _ _ _ w2.drew
 go_wp2
 go_ret2
 exact⟨rfl,w2.drew,yx HG.out,rfl⟩
theorem do_cas(mm wb n n' i:Nat)(x B:Int)(w:World)(h0:w.cell? ⟨mm,0,none⟩=some (.slice (some ⟨wb,0,none⟩) n n'))
  (hx:w.cell? ⟨wb,i,none⟩=some (.int .u64 x)) (hfz:w.frozen? ⟨wb,i,none⟩=false) (hi:i<n) (hm:mm<w.heap.size) (hwb:wb<w.heap.size) (hn:n<=1000000) :
  Calls Tryz.prog 106 #[.pointer (some ⟨mm,0,none⟩),.agg #[.int .u8 3,.int .i64 i,.int .u64 x,.int .u64 B]] w (YD w wb i (B) (1)):=by
 have hd1:decide ((i:Int)<0)=false:=by simp
 have hd2:decide (n<=i)=false:=by simp;omega
 have HB:=Lib.hid (Hel.begin (kd:=3) (A:=x) (B:=B) h0 hx hm hwb)
 go_enter Tryz.func106,Tryz.ntmps106
 go_wp2
 have h0':(w.alloc (.cells #[.int .u8 3,.int .i64 i,.int .u64 x,.int .u64 B] 171)).cell? ⟨mm,0,none⟩=some (.slice (some ⟨wb,0,none⟩) n n'):=HB.out.2.2.2.2.1
 go_quiet ((go_at_call 184;exact Calls.quiet_of_same (yd mm wb n n' _ h0')))
 clear h0'
 have hidx : ∀w,(Instr.index 250 (.agg #[.nilFunc,.func (.func 244) #[] #[],.func (.func 245) #[] #[],.func (.func 246) #[] #[],.func (.func 247) #[] #[]]) (.int .u8 3)).run Tryz.prog w = .ok (.func (.func 246) #[] #[]) w:=fun w=>by kernel_rfl
 go_wp2_with fail
 go_region_held3 (fun w'=>w'.cell? ⟨w.heap.size,0,none⟩=some (.int .u8 3)/\w'.cell? ⟨w.heap.size,1,none⟩=some (.int .i64 i)/\w'.cell? ⟨w.heap.size,2,none⟩=some (.int .u64 x)/\w'.cell? ⟨w.heap.size,3,none⟩=some (.int .u64 B)/\w'.cell? ⟨mm,0,none⟩=some (.slice (some ⟨wb,0,none⟩) n n')/\w'.cell? ⟨wb,i,none⟩=some (.int .u64 x)/\Below w.heap.size w w'/\w.heap.size<w'.heap.size)
  (first|exact HB.out.drewN.drew|exact HB.out.drewN|exact Hel.on hm hwb (HB.out.drewN) hb1|exact Hel.on hm hwb (Hel.on hm hwb (HB.out.drewN) hb1) hb2)
  (first|(go_at_call 185;refine(qd _).mono ?_;rintro e1 w1 ⟨rfl,hb1⟩)|(go_at_call 246;refine(k3_yes x 3 i B _).mono ?_;rintro e2 w2 ⟨rfl,hb2⟩))
 have HC:=Lib.hid (Hel.on hm hwb (Hel.on hm hwb (HB.out.drewN) hb1) hb2)
 clear hb1 hb2
 obtain⟨g1,g2,g3,g4,g5,g6,g7,g8⟩:=HC.out
 have hz2:w2.frozen? ⟨wb,i,none⟩=false:=by rw[g7.frozen (p:=⟨wb,i,none⟩) hwb,hfz]
 have HG:=Lib.hid g7
 clear HC g7 g6 g4 g3 g1 h0 hx hfz HB hidx
 go_wp2_with fail
 go_still_tail 8,(by kernel_rfl)
 change wpList _ _ _ _ _ w2.drew
 go_wp2
 go_ret2
 exact⟨rfl,w2.drew,yx HG.out,rfl⟩
theorem xr9(mm wb n n' i:Nat)(x A B:Int)(w:World)(h0:w.cell? ⟨mm,0,none⟩=some (.slice (some ⟨wb,0,none⟩) n n'))
  (hx:w.cell? ⟨wb,i,none⟩=some (.int .u64 x)) (hfz:w.frozen? ⟨wb,i,none⟩=false) (hi:i<n) (hm:mm<w.heap.size) (hwb:wb<w.heap.size) (hn:n<=1000000) (HN:Hid ((x==A)=false)/\Hid ((x != A)=true)) :
  Calls Tryz.prog 106 #[.pointer (some ⟨mm,0,none⟩),.agg #[.int .u8 3,.int .i64 i,.int .u64 A,.int .u64 B]] w (YD w wb i (x) (0)):=by
 have hd1:decide ((i:Int)<0)=false:=by simp
 have hd2:decide (n<=i)=false:=by simp;omega
 have HB:=Lib.hid (Hel.begin (kd:=3) (A:=A) (B:=B) h0 hx hm hwb)
 go_enter Tryz.func106,Tryz.ntmps106
 go_wp2
 have h0':(w.alloc (.cells #[.int .u8 3,.int .i64 i,.int .u64 A,.int .u64 B] 171)).cell? ⟨mm,0,none⟩=some (.slice (some ⟨wb,0,none⟩) n n'):=HB.out.2.2.2.2.1
 go_quiet ((go_at_call 184;exact Calls.quiet_of_same (yd mm wb n n' _ h0')))
 clear h0'
 have hidx : ∀w,(Instr.index 250 (.agg #[.nilFunc,.func (.func 244) #[] #[],.func (.func 245) #[] #[],.func (.func 246) #[] #[],.func (.func 247) #[] #[]]) (.int .u8 3)).run Tryz.prog w = .ok (.func (.func 246) #[] #[]) w:=fun w=>by kernel_rfl
 go_wp2_with fail
 go_region_held3 (fun w'=>w'.cell? ⟨w.heap.size,0,none⟩=some (.int .u8 3)/\w'.cell? ⟨w.heap.size,1,none⟩=some (.int .i64 i)/\w'.cell? ⟨w.heap.size,2,none⟩=some (.int .u64 A)/\w'.cell? ⟨w.heap.size,3,none⟩=some (.int .u64 B)/\w'.cell? ⟨mm,0,none⟩=some (.slice (some ⟨wb,0,none⟩) n n')/\w'.cell? ⟨wb,i,none⟩=some (.int .u64 x)/\Below w.heap.size w w'/\w.heap.size<w'.heap.size)
  (first|exact HB.out.drewN.drew|exact HB.out.drewN|exact Hel.on hm hwb (HB.out.drewN) hb1|exact Hel.on hm hwb (Hel.on hm hwb (HB.out.drewN) hb1) hb2)
  (first|(go_at_call 185;refine(qd _).mono ?_;rintro e1 w1 ⟨rfl,hb1⟩)|(go_at_call 246;refine(k3_no x 3 i A B _ HN.1.out HN.2.out).mono ?_;rintro e2 w2 ⟨rfl,hb2⟩))
 have HC:=Lib.hid (Hel.on hm hwb (Hel.on hm hwb (HB.out.drewN) hb1) hb2)
 clear hb1 hb2
 obtain⟨g1,g2,g3,g4,g5,g6,g7,g8⟩:=HC.out
 have hz2:w2.frozen? ⟨wb,i,none⟩=false:=by rw[g7.frozen (p:=⟨wb,i,none⟩) hwb,hfz]
 have HG:=Lib.hid g7
 clear HC g7 g6 g4 g3 g1 h0 hx hfz HB hidx
 go_wp2_with fail
 go_still_tail 8,(by kernel_rfl)
 change wpList _ _ _ _ _ w2.drew
 go_wp2
 go_ret2
 exact⟨rfl,w2.drew,yx HG.out,rfl⟩
theorem do_add(mm wb n n' i:Nat)(x A B:Int)(w:World)(h0:w.cell? ⟨mm,0,none⟩=some (.slice (some ⟨wb,0,none⟩) n n'))
  (hx:w.cell? ⟨wb,i,none⟩=some (.int .u64 x)) (hfz:w.frozen? ⟨wb,i,none⟩=false) (hi:i<n) (hm:mm<w.heap.size) (hwb:wb<w.heap.size) (hn:n<=1000000) :
  Calls Tryz.prog 106 #[.pointer (some ⟨mm,0,none⟩),.agg #[.int .u8 4,.int .i64 i,.int .u64 A,.int .u64 B]] w (YD w wb i (u64.wrap (x+A)) (x)):=by
 have hd1:decide ((i:Int)<0)=false:=by simp
 have hd2:decide (n<=i)=false:=by simp;omega
 have HB:=Lib.hid (Hel.begin (kd:=4) (A:=A) (B:=B) h0 hx hm hwb)
 go_enter Tryz.func106,Tryz.ntmps106
 go_wp2
 have h0':(w.alloc (.cells #[.int .u8 4,.int .i64 i,.int .u64 A,.int .u64 B] 171)).cell? ⟨mm,0,none⟩=some (.slice (some ⟨wb,0,none⟩) n n'):=HB.out.2.2.2.2.1
 go_quiet ((go_at_call 184;exact Calls.quiet_of_same (yd mm wb n n' _ h0')))
 clear h0'
 have hidx : ∀w,(Instr.index 250 (.agg #[.nilFunc,.func (.func 244) #[] #[],.func (.func 245) #[] #[],.func (.func 246) #[] #[],.func (.func 247) #[] #[]]) (.int .u8 4)).run Tryz.prog w = .ok (.func (.func 247) #[] #[]) w:=fun w=>by kernel_rfl
 go_wp2_with fail
 go_region_held3 (fun w'=>w'.cell? ⟨w.heap.size,0,none⟩=some (.int .u8 4)/\w'.cell? ⟨w.heap.size,1,none⟩=some (.int .i64 i)/\w'.cell? ⟨w.heap.size,2,none⟩=some (.int .u64 A)/\w'.cell? ⟨w.heap.size,3,none⟩=some (.int .u64 B)/\w'.cell? ⟨mm,0,none⟩=some (.slice (some ⟨wb,0,none⟩) n n')/\w'.cell? ⟨wb,i,none⟩=some (.int .u64 x)/\Below w.heap.size w w'/\w.heap.size<w'.heap.size)
  (first|exact HB.out.drewN.drew|exact HB.out.drewN|exact Hel.on hm hwb (HB.out.drewN) hb1|exact Hel.on hm hwb (Hel.on hm hwb (HB.out.drewN) hb1) hb2)
  (first|(go_at_call 185;refine(qd _).mono ?_;rintro e1 w1 ⟨rfl,hb1⟩)|(go_at_call 247;refine(k4_any x 4 i A B _).mono ?_;rintro e2 w2 ⟨rfl,hb2⟩))
 have HC:=Lib.hid (Hel.on hm hwb (Hel.on hm hwb (HB.out.drewN) hb1) hb2)
 clear hb1 hb2
 obtain⟨g1,g2,g3,g4,g5,g6,g7,g8⟩:=HC.out
 have hz2:w2.frozen? ⟨wb,i,none⟩=false:=by rw[g7.frozen (p:=⟨wb,i,none⟩) hwb,hfz]
 have HG:=Lib.hid g7
 clear HC g7 g6 g4 g3 g1 h0 hx hfz HB hidx
 go_wp2_with fail
 go_still_tail 8,(by kernel_rfl)
 change wpList _ _ _ _ _ w2.drew
 go_wp2
 go_ret2
 exact⟨rfl,w2.drew,yx HG.out,rfl⟩
theorem xvq(mm wb n n':Nat)(at_ A B:Int)(w:World)(h0:w.cell? ⟨mm,0,none⟩=some (.slice (some ⟨wb,0,none⟩) n n'))(hm:mm<w.heap.size)(hn:n<=1000000)(hneg:at_<0) :
  Calls Tryz.prog 106 #[.pointer (some ⟨mm,0,none⟩),.agg #[.int .u8 1,.int .i64 at_,.int .u64 A,.int .u64 B]] w (vi w):=by
 have hd1:decide (at_<0)=true:=by simp;omega
 go_enter Tryz.func106,Tryz.ntmps106
 go_wp2
 have h0':(w.alloc (.cells #[.int .u8 1,.int .i64 at_,.int .u64 A,.int .u64 B] 171)).cell? ⟨mm,0,none⟩=some (.slice (some ⟨wb,0,none⟩) n n'):=by rw[World.cell?_alloc_past _ _ _ hm,h0]
 go_quiet ((go_at_call 184;exact Calls.quiet_of_same (yd mm wb n n' _ h0')))
 go_wp2
 go_ret2
 exact⟨rfl,by first|exact xN ((Below.refl _ _).alloc (Nat.le_refl _) _)|exact(Below.refl _ _).alloc (Nat.le_refl _) _⟩
theorem xvr(mm wb n n':Nat)(at_ A B:Int)(w:World)(h0:w.cell? ⟨mm,0,none⟩=some (.slice (some ⟨wb,0,none⟩) n n'))(hm:mm<w.heap.size)(hn:n<=1000000)(hpos:0<=at_)(hge:(n:Int)<=at_) :
  Calls Tryz.prog 106 #[.pointer (some ⟨mm,0,none⟩),.agg #[.int .u8 1,.int .i64 at_,.int .u64 A,.int .u64 B]] w (vi w):=by
 have hd1:decide (at_<0)=false:=by simp;omega
 have hd2:decide ((n:Int)<=at_)=true:=by simp;omega
 go_enter Tryz.func106,Tryz.ntmps106
 go_wp2
 have h0':(w.alloc (.cells #[.int .u8 1,.int .i64 at_,.int .u64 A,.int .u64 B] 171)).cell? ⟨mm,0,none⟩=some (.slice (some ⟨wb,0,none⟩) n n'):=by rw[World.cell?_alloc_past _ _ _ hm,h0]
 go_quiet ((go_at_call 184;exact Calls.quiet_of_same (yd mm wb n n' _ h0')))
 go_wp2
 go_ret2
 exact⟨rfl,by first|exact xN ((Below.refl _ _).alloc (Nat.le_refl _) _)|exact(Below.refl _ _).alloc (Nat.le_refl _) _⟩
theorem xvs(mm wb n n':Nat)(at_ A B:Int)(w:World)(h0:w.cell? ⟨mm,0,none⟩=some (.slice (some ⟨wb,0,none⟩) n n'))(hm:mm<w.heap.size)(hn:n<=1000000)(hneg:at_<0) :
  Calls Tryz.prog 106 #[.pointer (some ⟨mm,0,none⟩),.agg #[.int .u8 2,.int .i64 at_,.int .u64 A,.int .u64 B]] w (vi w):=by
 have hd1:decide (at_<0)=true:=by simp;omega
 go_enter Tryz.func106,Tryz.ntmps106
 go_wp2
 have h0':(w.alloc (.cells #[.int .u8 2,.int .i64 at_,.int .u64 A,.int .u64 B] 171)).cell? ⟨mm,0,none⟩=some (.slice (some ⟨wb,0,none⟩) n n'):=by rw[World.cell?_alloc_past _ _ _ hm,h0]
 go_quiet ((go_at_call 184;exact Calls.quiet_of_same (yd mm wb n n' _ h0')))
 go_wp2
 go_ret2
 exact⟨rfl,by first|exact xN ((Below.refl _ _).alloc (Nat.le_refl _) _)|exact(Below.refl _ _).alloc (Nat.le_refl _) _⟩
theorem xvt(mm wb n n':Nat)(at_ A B:Int)(w:World)(h0:w.cell? ⟨mm,0,none⟩=some (.slice (some ⟨wb,0,none⟩) n n'))(hm:mm<w.heap.size)(hn:n<=1000000)(hpos:0<=at_)(hge:(n:Int)<=at_) :
  Calls Tryz.prog 106 #[.pointer (some ⟨mm,0,none⟩),.agg #[.int .u8 2,.int .i64 at_,.int .u64 A,.int .u64 B]] w (vi w):=by
 have hd1:decide (at_<0)=false:=by simp;omega
 have hd2:decide ((n:Int)<=at_)=true:=by simp;omega
 go_enter Tryz.func106,Tryz.ntmps106
 go_wp2
 have h0':(w.alloc (.cells #[.int .u8 2,.int .i64 at_,.int .u64 A,.int .u64 B] 171)).cell? ⟨mm,0,none⟩=some (.slice (some ⟨wb,0,none⟩) n n'):=by rw[World.cell?_alloc_past _ _ _ hm,h0]
 go_quiet ((go_at_call 184;exact Calls.quiet_of_same (yd mm wb n n' _ h0')))
 go_wp2
 go_ret2
 exact⟨rfl,by first|exact xN ((Below.refl _ _).alloc (Nat.le_refl _) _)|exact(Below.refl _ _).alloc (Nat.le_refl _) _⟩
theorem xvu(mm wb n n':Nat)(at_ A B:Int)(w:World)(h0:w.cell? ⟨mm,0,none⟩=some (.slice (some ⟨wb,0,none⟩) n n'))(hm:mm<w.heap.size)(hn:n<=1000000)(hneg:at_<0) :
  Calls Tryz.prog 106 #[.pointer (some ⟨mm,0,none⟩),.agg #[.int .u8 3,.int .i64 at_,.int .u64 A,.int .u64 B]] w (vi w):=by
 have hd1:decide (at_<0)=true:=by simp;omega
 go_enter Tryz.func106,Tryz.ntmps106
 go_wp2
 have h0':(w.alloc (.cells #[.int .u8 3,.int .i64 at_,.int .u64 A,.int .u64 B] 171)).cell? ⟨mm,0,none⟩=some (.slice (some ⟨wb,0,none⟩) n n'):=by rw[World.cell?_alloc_past _ _ _ hm,h0]
 go_quiet ((go_at_call 184;exact Calls.quiet_of_same (yd mm wb n n' _ h0')))
 go_wp2
 go_ret2
 exact⟨rfl,by first|exact xN ((Below.refl _ _).alloc (Nat.le_refl _) _)|exact(Below.refl _ _).alloc (Nat.le_refl _) _⟩
theorem xvv(mm wb n n':Nat)(at_ A B:Int)(w:World)(h0:w.cell? ⟨mm,0,none⟩=some (.slice (some ⟨wb,0,none⟩) n n'))(hm:mm<w.heap.size)(hn:n<=1000000)(hpos:0<=at_)(hge:(n:Int)<=at_) :
  Calls Tryz.prog 106 #[.pointer (some ⟨mm,0,none⟩),.agg #[.int .u8 3,.int .i64 at_,.int .u64 A,.int .u64 B]] w (vi w):=by
 have hd1:decide (at_<0)=false:=by simp;omega
 have hd2:decide ((n:Int)<=at_)=true:=by simp;omega
 go_enter Tryz.func106,Tryz.ntmps106
 go_wp2
 have h0':(w.alloc (.cells #[.int .u8 3,.int .i64 at_,.int .u64 A,.int .u64 B] 171)).cell? ⟨mm,0,none⟩=some (.slice (some ⟨wb,0,none⟩) n n'):=by rw[World.cell?_alloc_past _ _ _ hm,h0]
 go_quiet ((go_at_call 184;exact Calls.quiet_of_same (yd mm wb n n' _ h0')))
 go_wp2
 go_ret2
 exact⟨rfl,by first|exact xN ((Below.refl _ _).alloc (Nat.le_refl _) _)|exact(Below.refl _ _).alloc (Nat.le_refl _) _⟩
theorem xvw(mm wb n n':Nat)(at_ A B:Int)(w:World)(h0:w.cell? ⟨mm,0,none⟩=some (.slice (some ⟨wb,0,none⟩) n n'))(hm:mm<w.heap.size)(hn:n<=1000000)(hneg:at_<0) :
  Calls Tryz.prog 106 #[.pointer (some ⟨mm,0,none⟩),.agg #[.int .u8 4,.int .i64 at_,.int .u64 A,.int .u64 B]] w (vi w):=by
 have hd1:decide (at_<0)=true:=by simp;omega
 go_enter Tryz.func106,Tryz.ntmps106
 go_wp2
 have h0':(w.alloc (.cells #[.int .u8 4,.int .i64 at_,.int .u64 A,.int .u64 B] 171)).cell? ⟨mm,0,none⟩=some (.slice (some ⟨wb,0,none⟩) n n'):=by rw[World.cell?_alloc_past _ _ _ hm,h0]
 go_quiet ((go_at_call 184;exact Calls.quiet_of_same (yd mm wb n n' _ h0')))
 go_wp2
 go_ret2
 exact⟨rfl,by first|exact xN ((Below.refl _ _).alloc (Nat.le_refl _) _)|exact(Below.refl _ _).alloc (Nat.le_refl _) _⟩
theorem xvx(mm wb n n':Nat)(at_ A B:Int)(w:World)(h0:w.cell? ⟨mm,0,none⟩=some (.slice (some ⟨wb,0,none⟩) n n'))(hm:mm<w.heap.size)(hn:n<=1000000)(hpos:0<=at_)(hge:(n:Int)<=at_) :
  Calls Tryz.prog 106 #[.pointer (some ⟨mm,0,none⟩),.agg #[.int .u8 4,.int .i64 at_,.int .u64 A,.int .u64 B]] w (vi w):=by
 have hd1:decide (at_<0)=false:=by simp;omega
 have hd2:decide ((n:Int)<=at_)=true:=by simp;omega
 go_enter Tryz.func106,Tryz.ntmps106
 go_wp2
 have h0':(w.alloc (.cells #[.int .u8 4,.int .i64 at_,.int .u64 A,.int .u64 B] 171)).cell? ⟨mm,0,none⟩=some (.slice (some ⟨wb,0,none⟩) n n'):=by rw[World.cell?_alloc_past _ _ _ hm,h0]
 go_quiet ((go_at_call 184;exact Calls.quiet_of_same (yd mm wb n n' _ h0')))
 go_wp2
 go_ret2
 exact⟨rfl,by first|exact xN ((Below.refl _ _).alloc (Nat.le_refl _) _)|exact(Below.refl _ _).alloc (Nat.le_refl _) _⟩
theorem xvy(mm wb n n':Nat)(at_ A B:Int)(w:World)(h0:w.cell? ⟨mm,1,none⟩=some (.slice (some ⟨wb,0,none⟩) n n'))(hm:mm<w.heap.size)(hn:n<=1000000)(hneg:at_<0) :
  Calls Tryz.prog 106 #[.pointer (some ⟨mm,0,none⟩),.agg #[.int .u8 5,.int .i64 at_,.int .u64 A,.int .u64 B]] w (vi w):=by
 have hd1:decide (at_<0)=true:=by simp;omega
 go_enter Tryz.func106,Tryz.ntmps106
 go_wp2
 have h0':(w.alloc (.cells #[.int .u8 5,.int .i64 at_,.int .u64 A,.int .u64 B] 171)).cell? ⟨mm,1,none⟩=some (.slice (some ⟨wb,0,none⟩) n n'):=by rw[World.cell?_alloc_past _ _ _ hm,h0]
 go_quiet ((go_at_call 186;exact Calls.quiet_of_same (ww mm wb n n' _ h0')))
 go_wp2
 go_ret2
 exact⟨rfl,by first|exact xN ((Below.refl _ _).alloc (Nat.le_refl _) _)|exact(Below.refl _ _).alloc (Nat.le_refl _) _⟩
theorem xvz(mm wb n n':Nat)(at_ A B:Int)(w:World)(h0:w.cell? ⟨mm,1,none⟩=some (.slice (some ⟨wb,0,none⟩) n n'))(hm:mm<w.heap.size)(hn:n<=1000000)(hpos:0<=at_)(hge:(n:Int)<=at_) :
  Calls Tryz.prog 106 #[.pointer (some ⟨mm,0,none⟩),.agg #[.int .u8 5,.int .i64 at_,.int .u64 A,.int .u64 B]] w (vi w):=by
 have hd1:decide (at_<0)=false:=by simp;omega
 have hd2:decide ((n:Int)<=at_)=true:=by simp;omega
 go_enter Tryz.func106,Tryz.ntmps106
 go_wp2
 have h0':(w.alloc (.cells #[.int .u8 5,.int .i64 at_,.int .u64 A,.int .u64 B] 171)).cell? ⟨mm,1,none⟩=some (.slice (some ⟨wb,0,none⟩) n n'):=by rw[World.cell?_alloc_past _ _ _ hm,h0]
 go_quiet ((go_at_call 186;exact Calls.quiet_of_same (ww mm wb n n' _ h0')))
 go_wp2
 go_ret2
 exact⟨rfl,by first|exact xN ((Below.refl _ _).alloc (Nat.le_refl _) _)|exact(Below.refl _ _).alloc (Nat.le_refl _) _⟩
theorem xvA(mm wb n n':Nat)(at_ A B:Int)(w:World)(h0:w.cell? ⟨mm,1,none⟩=some (.slice (some ⟨wb,0,none⟩) n n'))(hm:mm<w.heap.size)(hn:n<=1000000)(hneg:at_<0) :
  Calls Tryz.prog 106 #[.pointer (some ⟨mm,0,none⟩),.agg #[.int .u8 6,.int .i64 at_,.int .u64 A,.int .u64 B]] w (vi w):=by
 have hd1:decide (at_<0)=true:=by simp;omega
 go_enter Tryz.func106,Tryz.ntmps106
 go_wp2
 have h0':(w.alloc (.cells #[.int .u8 6,.int .i64 at_,.int .u64 A,.int .u64 B] 171)).cell? ⟨mm,1,none⟩=some (.slice (some ⟨wb,0,none⟩) n n'):=by rw[World.cell?_alloc_past _ _ _ hm,h0]
 go_quiet ((go_at_call 186;exact Calls.quiet_of_same (ww mm wb n n' _ h0')))
 go_wp2
 go_ret2
 exact⟨rfl,by first|exact xN ((Below.refl _ _).alloc (Nat.le_refl _) _)|exact(Below.refl _ _).alloc (Nat.le_refl _) _⟩
theorem xvB(mm wb n n':Nat)(at_ A B:Int)(w:World)(h0:w.cell? ⟨mm,1,none⟩=some (.slice (some ⟨wb,0,none⟩) n n'))(hm:mm<w.heap.size)(hn:n<=1000000)(hpos:0<=at_)(hge:(n:Int)<=at_) :
  Calls Tryz.prog 106 #[.pointer (some ⟨mm,0,none⟩),.agg #[.int .u8 6,.int .i64 at_,.int .u64 A,.int .u64 B]] w (vi w):=by
 have hd1:decide (at_<0)=false:=by simp;omega
 have hd2:decide ((n:Int)<=at_)=true:=by simp;omega
 go_enter Tryz.func106,Tryz.ntmps106
 go_wp2
 have h0':(w.alloc (.cells #[.int .u8 6,.int .i64 at_,.int .u64 A,.int .u64 B] 171)).cell? ⟨mm,1,none⟩=some (.slice (some ⟨wb,0,none⟩) n n'):=by rw[World.cell?_alloc_past _ _ _ hm,h0]
 go_quiet ((go_at_call 186;exact Calls.quiet_of_same (ww mm wb n n' _ h0')))
 go_wp2
 go_ret2
 exact⟨rfl,by first|exact xN ((Below.refl _ _).alloc (Nat.le_refl _) _)|exact(Below.refl _ _).alloc (Nat.le_refl _) _⟩
end
section
open Go.RowKit Lx
theorem u64_in{x:Int}(h0:0<=x)(h1:x<=18446744073709551615):u64.wrap x=x:=by
 simp only[IntKind.wrap,IntKind.signed,IntKind.bits,Bool.false_and,Bool.false_eq_true,if_false];omega
theorem u8_in{x:Int}(h0:0<=x)(h1:x<=255):u8.wrap x=x:=by
 simp only[IntKind.wrap,IntKind.signed,IntKind.bits,Bool.false_and,Bool.false_eq_true,if_false];omega
def DidGet(w:World)(x:Int)(e:Ending)(w':World):Prop:=e = .returned (.tuple #[.int .u64 x,.bool true])/\Below w.heap.size w w'
def DidPut(w:World)(bb i:Nat)(now:Int)(e:Ending)(w':World):Prop:=
 e = .returned (.tuple #[.int .u64 0,.bool true])/\ ∃w1,Below w.heap.size w w1/\w'=w1.setCell ⟨bb,i,none⟩ (.int .u8 now)
theorem do_get(mm bb n n' i:Nat)(x A B:Int)(w:World)(h0:w.cell? ⟨mm,1,none⟩=some (.slice (some ⟨bb,0,none⟩) n n'))
  (hx:w.cell? ⟨bb,i,none⟩=some (.int .u8 x)) (hi:i<n) (hm:mm<w.heap.size) (hbb:bb<w.heap.size) (hn:n<=1000000) (hx0:0<=x) (hx1:x<=255) :
  Calls Tryz.prog 106 #[.pointer (some ⟨mm,0,none⟩),.agg #[.int .u8 5,.int .i64 i,.int .u64 A,.int .u64 B]] w (DidGet w x):=by
 have hd1:decide ((i:Int)<0)=false:=by simp
 have hd2:decide (n<=i)=false:=by simp;omega
 go_enter Tryz.func106,Tryz.ntmps106
 go_wp2
 have h0':(w.alloc (.cells #[.int .u8 5,.int .i64 i,.int .u64 A,.int .u64 B] 171)).cell? ⟨mm,1,none⟩=some (.slice (some ⟨bb,0,none⟩) n n'):=by rw[World.cell?_alloc_past _ _ _ hm,h0]
 have hx':(w.alloc (.cells #[.int .u8 5,.int .i64 i,.int .u64 A,.int .u64 B] 171)).cell? ⟨bb,i,none⟩=some (.int .u8 x):=by rw[World.cell?_alloc_past _ _ _ hbb,hx]
 go_quiet ((go_at_call 186;exact Calls.quiet_of_same (ww mm bb n n' _ h0')))
 have hwr:u64.wrap x=x:=u64_in hx0 (by omega)
 have HB:Hid (Below w.heap.size w (w.alloc (.cells #[.int .u8 5,.int .i64 i,.int .u64 A,.int .u64 B] 171))):=Lib.hid ((Below.refl _ _).alloc (Nat.le_refl _) _)
 go_wp2_with fail
 go_quiet (fail)
 go_wp2
 go_ret2
 exact⟨rfl,xN (xN HB.out)⟩
theorem do_put(mm bb n n' i:Nat)(x A B:Int)(w:World)(h0:w.cell? ⟨mm,1,none⟩=some (.slice (some ⟨bb,0,none⟩) n n'))
  (hx:w.cell? ⟨bb,i,none⟩=some (.int .u8 x)) (hfz:w.frozen? ⟨bb,i,none⟩=false) (hi:i<n) (hm:mm<w.heap.size) (hbb:bb<w.heap.size) (hn:n<=1000000) (hx0:0<=A) (hx1:A<=255) :
  Calls Tryz.prog 106 #[.pointer (some ⟨mm,0,none⟩),.agg #[.int .u8 6,.int .i64 i,.int .u64 A,.int .u64 B]] w (DidPut w bb i A):=by
 have hd1:decide ((i:Int)<0)=false:=by simp
 have hd2:decide (n<=i)=false:=by simp;omega
 go_enter Tryz.func106,Tryz.ntmps106
 go_wp2
 have h0':(w.alloc (.cells #[.int .u8 6,.int .i64 i,.int .u64 A,.int .u64 B] 171)).cell? ⟨mm,1,none⟩=some (.slice (some ⟨bb,0,none⟩) n n'):=by rw[World.cell?_alloc_past _ _ _ hm,h0]
 have hx':(w.alloc (.cells #[.int .u8 6,.int .i64 i,.int .u64 A,.int .u64 B] 171)).cell? ⟨bb,i,none⟩=some (.int .u8 x):=by rw[World.cell?_alloc_past _ _ _ hbb,hx]
 have hz':(w.alloc (.cells #[.int .u8 6,.int .i64 i,.int .u64 A,.int .u64 B] 171)).frozen? ⟨bb,i,none⟩=false:=by
  have:=((Below.refl w.heap.size w).alloc (Nat.le_refl _) (.cells #[.int .u8 6,.int .i64 i,.int .u64 A,.int .u64 B] 171)).frozen (p:=⟨bb,i,none⟩) hbb
  rw[this,hfz]
 go_quiet ((go_at_call 186;exact Calls.quiet_of_same (ww mm bb n n' _ h0')))
 have hwr:u8.wrap A=A:=u8_in hx0 hx1
 have k0:((w.alloc (.cells #[.int .u8 6,.int .i64 i,.int .u64 A,.int .u64 B] 171)).drewN nq).cell? ⟨w.heap.size,0,none⟩=some (.int .u8 6):=(show(w.alloc (.cells #[.int .u8 6,.int .i64 i,.int .u64 A,.int .u64 B] 171)).cell? ⟨w.heap.size,0,none⟩=some (.int .u8 6)by simp)
 have k1:((w.alloc (.cells #[.int .u8 6,.int .i64 i,.int .u64 A,.int .u64 B] 171)).drewN nq).cell? ⟨w.heap.size,1,none⟩=some (.int .i64 i):=(show(w.alloc (.cells #[.int .u8 6,.int .i64 i,.int .u64 A,.int .u64 B] 171)).cell? ⟨w.heap.size,1,none⟩=some (.int .i64 i)by simp)
 have k2:((w.alloc (.cells #[.int .u8 6,.int .i64 i,.int .u64 A,.int .u64 B] 171)).drewN nq).cell? ⟨w.heap.size,2,none⟩=some (.int .u64 A):=(show(w.alloc (.cells #[.int .u8 6,.int .i64 i,.int .u64 A,.int .u64 B] 171)).cell? ⟨w.heap.size,2,none⟩=some (.int .u64 A)by simp)
 have k3:((w.alloc (.cells #[.int .u8 6,.int .i64 i,.int .u64 A,.int .u64 B] 171)).drewN nq).cell? ⟨mm,1,none⟩=some (.slice (some ⟨bb,0,none⟩) n n'):=h0'
 have k4:((w.alloc (.cells #[.int .u8 6,.int .i64 i,.int .u64 A,.int .u64 B] 171)).drewN nq).cell? ⟨bb,i,none⟩=some (.int .u8 x):=hx'
 have k5:((w.alloc (.cells #[.int .u8 6,.int .i64 i,.int .u64 A,.int .u64 B] 171)).drewN nq).frozen? ⟨bb,i,none⟩=false:=hz'
 have HB:Hid (Below w.heap.size w ((w.alloc (.cells #[.int .u8 6,.int .i64 i,.int .u64 A,.int .u64 B] 171)).drewN nq)):=Lib.hid (xN ((Below.refl _ _).alloc (Nat.le_refl _) _))
 clear h0' hx' hz'
 generalize(w.alloc (.cells #[.int .u8 6,.int .i64 i,.int .u64 A,.int .u64 B] 171)).drewN nq=w2 at *
 go_wp2_with fail
 go_still_tail 10,(by kernel_rfl)
 change wpList _ _ _ _ _ w2.drew
 go_wp2
 go_ret2
 exact⟨rfl,w2.drew,yx HB.out,rfl⟩
end
section
open Go.RowKit Lx
structure Mem where
 words:List Int
 bytes:List Int
def atI(l:List Int):Int->Option Int
 | .ofNat n=>l[n]?
 | .negSucc _=>none
def putI(l:List Int)(a v:Int):List Int:=match a with
 | .ofNat n=>l.set n v
 | .negSucc _=>l
def acc(kd at_ A B:Int)(M:Mem):Option (Int×Mem):=
 if kd=1 then some ((atI M.words at_).getD 0,M)
 else if kd=2 then some (0,{M with words:=putI M.words at_ A})
 else if kd=3 then match atI M.words at_ with
  | some x=>if x=A then some (1,{M with words:=putI M.words at_ B})else some (0,M)
  | none=>some (0,M)
 else if kd=4 then match atI M.words at_ with
  | some x=>some (x,{M with words:=putI M.words at_ (u64.wrap (x+A))})
  | none=>some (0,M)
 else if kd=5 then match atI M.bytes at_ with
  | some x=>if 0<=x/\x<=255 then some (x,M)else none
  | none=>some (0,M)
 else if kd=6 then(if 0<=A/\A<=255 then some (0,{M with bytes:=putI M.bytes at_ A})else none)
 else none
structure MemAt(w:World)(mm wb bb:Nat)(M:Mem):Prop where
 mem:w.heap[mm]? = some (.cells #[.slice (some ⟨wb,0,none⟩) M.words.length M.words.length,.slice (some ⟨bb,0,none⟩) M.bytes.length M.bytes.length] 188 (0,0))
 words:w.heap[wb]? = some (.cells (M.words.map (Value.int .u64)).toArray 34 (0,0))
 bytes:w.heap[bb]? = some (.cells (M.bytes.map (Value.int .u8)).toArray 5 (0,0))
 ne:mm≠wb/\mm≠bb/\wb≠bb
 few:M.words.length<=1000000/\M.bytes.length<=1000000
theorem xZ{w:World}{b:Nat}{o:Obj}(h:w.heap[b]? = some o):b<w.heap.size:=(Array.getElem?_eq_some_iff.1 h).1
theorem MemAt.of{w w':World}{mm wb bb:Nat}{M:Mem}(h:MemAt w mm wb bb M)(h1:w'.heap[mm]? = w.heap[mm]?)(h2:w'.heap[wb]? = w.heap[wb]?)(h3:w'.heap[bb]? = w.heap[bb]?):MemAt w' mm wb bb M:=
 ⟨h1.trans h.mem,h2.trans h.words,h3.trans h.bytes,h.ne,h.few⟩
theorem MemAt.below{w w':World}{mm wb bb:Nat}{M:Mem}(h:MemAt w mm wb bb M)(hb:Below w.heap.size w w'):MemAt w' mm wb bb M:=
 h.of (hb.block _ (xZ h.mem)) (hb.block _ (xZ h.words)) (hb.block _ (xZ h.bytes))
theorem YE{w:World}{b o:Nat}{c:Array Value}{t:TypeId}(h:w.heap[b]? = some (.cells c t (0,0))):w.frozen? ⟨b,o,none⟩=false:=by
 simp[World.frozen?,h]
theorem xxp{w w1:World}{mm wb bb i:Nat}{M:Mem}{x v:Int}(h:MemAt w mm wb bb M)(hx:M.words[i]? = some x)(hb:Below w.heap.size w w1) :
  MemAt (w1.setCell ⟨wb,i,none⟩ (.int .u64 v)) mm wb bb {M with words:=M.words.set i v}/\Keeps (fun b=>b=wb\/b=bb) w (w1.setCell ⟨wb,i,none⟩ (.int .u64 v)):=by
 have h1:=h.below hb
 have e:=setCell_eq (o:=i) h1.words (.int .u64 v)
 have hlt:=xZ h1.words
 obtain⟨n1,n2,n3⟩:=h1.ne
 have hk : ∀b,b≠wb->(w1.setCell ⟨wb,i,none⟩ (.int .u64 v)).heap[b]? = w1.heap[b]? :=by
  intro b hne
  rw[e]
  simp only
  rw[Array.getElem?_setIfInBounds,if_neg (fun h=>hne h.symm)]
 refine⟨⟨?_,?_,?_,h1.ne,?_⟩,⟨?_,?_,?_,?_,fun b hlt' hn =>?_⟩⟩
 ·rw[hk mm n1];simpa using h1.mem
 ·rw[e]
  simp only
  rw[Array.getElem?_setIfInBounds,if_pos rfl,if_pos hlt]
  simp[List.map_set]
 ·rw[hk bb (fun h=>n3 h.symm)];exact h1.bytes
 ·simpa using h1.few
 ·rw[e];exact hb.os
 ·rw[e];exact hb.tape
 ·rw[e];exact hb.output
 ·rw[e];simpa using hb.size
 ·rw[hk b (fun h=>hn (.inl h))];exact hb.block b hlt'
theorem xxq{w w1:World}{mm wb bb i:Nat}{M:Mem}{x v:Int}(h:MemAt w mm wb bb M)(hx:M.bytes[i]? = some x)(hb:Below w.heap.size w w1) :
  MemAt (w1.setCell ⟨bb,i,none⟩ (.int .u8 v)) mm wb bb {M with bytes:=M.bytes.set i v}/\Keeps (fun b=>b=wb\/b=bb) w (w1.setCell ⟨bb,i,none⟩ (.int .u8 v)):=by
 have h1:=h.below hb
 have e:=setCell_eq (o:=i) h1.bytes (.int .u8 v)
 have hlt:=xZ h1.bytes
 obtain⟨n1,n2,n3⟩:=h1.ne
 have hk : ∀b,b≠bb->(w1.setCell ⟨bb,i,none⟩ (.int .u8 v)).heap[b]? = w1.heap[b]? :=by
  intro b hne
  rw[e]
  simp only
  rw[Array.getElem?_setIfInBounds,if_neg (fun h=>hne h.symm)]
 refine⟨⟨?_,?_,?_,h1.ne,?_⟩,⟨?_,?_,?_,?_,fun b hlt' hn =>?_⟩⟩
 ·rw[hk mm n2];simpa using h1.mem
 ·rw[hk wb n3];exact h1.words
 ·rw[e]
  simp only
  rw[Array.getElem?_setIfInBounds,if_pos rfl,if_pos hlt]
  simp[List.map_set]
 ·simpa using h1.few
 ·rw[e];exact hb.os
 ·rw[e];exact hb.tape
 ·rw[e];exact hb.output
 ·rw[e];simpa using hb.size
 ·rw[hk b (fun h=>hn (.inr h))];exact hb.block b hlt'
theorem Xj{S:Nat->Prop}{w w':World}(h:Below w.heap.size w w'):Keeps S w w':=⟨h.os,h.tape,h.output,h.size,fun b hb _=>h.block b hb⟩
def xsa(w:World)(mm wb bb:Nat)(told:Int)(M':Mem)(e:Ending)(w':World):Prop:=
 (∃ok,e = .returned (.tuple #[.int .u64 told,.bool ok]))/\MemAt w' mm wb bb M'/\Keeps (fun b=>b=wb\/b=bb) w w'
theorem qf{w:World}{mm wb bb:Nat}{M:Mem}(h:MemAt w mm wb bb M){i:Nat}{x:Int}(hx:M.words[i]? = some x):w.cell? ⟨wb,i,none⟩=some (.int .u64 x):=by
 rw[cell_of h.words];simp[hx]
theorem xit{w:World}{mm wb bb:Nat}{M:Mem}(h:MemAt w mm wb bb M){i:Nat}{x:Int}(hx:M.bytes[i]? = some x):w.cell? ⟨bb,i,none⟩=some (.int .u8 x):=by
 rw[cell_of h.bytes];simp[hx]
theorem yU{w:World}{mm wb bb:Nat}{M:Mem}(h:MemAt w mm wb bb M){e:Ending}{w':World}(hd:vi w e w'):xsa w mm wb bb 0 M e w':=
 ⟨⟨false,hd.1⟩,h.below hd.2,Xj hd.2⟩
theorem Xk{w:World}{mm wb bb i:Nat}{M:Mem}{x now told:Int}(h:MemAt w mm wb bb M)(hx:M.words[i]? = some x){e:Ending}{w':World}(hd:YD w wb i now told e w'):xsa w mm wb bb told {M with words:=M.words.set i now} e w':=by
 obtain⟨rfl,w1,hb,rfl⟩:=hd
 obtain⟨h1,h2⟩:=xxp (v:=now) h hx hb
 exact⟨⟨true,rfl⟩,h1,h2⟩
theorem xoR{l:List Int}{i:Nat}{x:Int}(h:l[i]? = some x):l.set i x=l:=by
 obtain⟨h2,h3⟩:=List.getElem?_eq_some_iff.1 h
 rw[<- h3]
 exact List.set_getElem_self h2
theorem do_any(kd at_ A B:Int)(mm wb bb:Nat)(M M':Mem)(told:Int)(w:World)(h:MemAt w mm wb bb M)(hs:acc kd at_ A B M=some (told,M')) :
  Calls Tryz.prog 106 #[.pointer (some ⟨mm,0,none⟩),.agg #[.int .u8 kd,.int .i64 at_,.int .u64 A,.int .u64 B]] w (xsa w mm wb bb told M'):=by
 have hm:=xZ h.mem
 have hwb:=xZ h.words
 have hbb:=xZ h.bytes
 have c0:w.cell? ⟨mm,0,none⟩=some (.slice (some ⟨wb,0,none⟩) M.words.length M.words.length):=by rw[cell_of h.mem];rfl
 have c1:w.cell? ⟨mm,1,none⟩=some (.slice (some ⟨bb,0,none⟩) M.bytes.length M.bytes.length):=by rw[cell_of h.mem];rfl
 have fz : ∀i,w.frozen? ⟨wb,i,none⟩=false:=fun i=>YE h.words
 have fz' : ∀i,w.frozen? ⟨bb,i,none⟩=false:=fun i=>YE h.bytes
 have f1:=h.few.1
 have f2:=h.few.2
 have nw : ∀n:Nat,M.words[n]? = none->(M.words.length:Int)<=(n:Int):=fun n hn=>by rw[List.getElem?_eq_none_iff]at hn;omega
 have nb : ∀n:Nat,M.bytes[n]? = none->(M.bytes.length:Int)<=(n:Int):=fun n hn=>by rw[List.getElem?_eq_none_iff]at hn;omega
 have lw : ∀ (n:Nat) x,M.words[n]? = some x->n<M.words.length:=fun n x hn=>(List.getElem?_eq_some_iff.1 hn).1
 have lb : ∀ (n:Nat) x,M.bytes[n]? = some x->n<M.bytes.length:=fun n x hn=>(List.getElem?_eq_some_iff.1 hn).1
 unfold acc at hs
 split at hs
 ·rename_i hk;subst hk
  cases at_ with
  | negSucc m=>
   simp only[atI,Option.getD_none,oI,Prod.mk.injEq]at hs
   obtain⟨rfl,rfl⟩:=hs
   exact(xvq mm wb _ _ _ A B w c0 hm f1 (by omega)).mono fun e w' hd=>yU h hd
  | ofNat n=>
   cases hx:M.words[n]? with
   | none=>
    simp only[atI,hx,Option.getD_none,oI,Prod.mk.injEq]at hs
    obtain⟨rfl,rfl⟩:=hs
    exact(xvr mm wb _ _ _ A B w c0 hm f1 (by omega) (nw n hx)).mono fun e w' hd=>yU h hd
   | some x=>
    simp only[atI,hx,Option.getD_some,oI,Prod.mk.injEq]at hs
    obtain⟨rfl,rfl⟩:=hs
    refine(do_load mm wb _ _ n x A B w c0 (qf h hx) (fz n) (lw n x hx) hm hwb f1).mono fun e w' hd =>?_
    have:=Xk h hx hd
    rwa [xoR hx]at this
 ·split at hs
  ·rename_i _ hk;subst hk
   cases at_ with
   | negSucc m=>
    simp only[putI,oI,Prod.mk.injEq]at hs
    obtain⟨rfl,rfl⟩:=hs
    exact(xvs mm wb _ _ _ A B w c0 hm f1 (by omega)).mono fun e w' hd=>yU h hd
   | ofNat n=>
    simp only[putI,oI,Prod.mk.injEq]at hs
    obtain⟨rfl,rfl⟩:=hs
    cases hx:M.words[n]? with
    | none=>
     rw[List.set_eq_of_length_le (by have:=nw n hx;omega)]
     exact(xvt mm wb _ _ _ A B w c0 hm f1 (by omega) (nw n hx)).mono fun e w' hd=>yU h hd
    | some x=>exact(xxo mm wb _ _ n x A B w c0 (qf h hx) (fz n) (lw n x hx) hm hwb f1).mono fun e w' hd=>Xk h hx hd
  ·split at hs
   ·rename_i _ _ hk;subst hk
    cases at_ with
    | negSucc m=>
     simp only[atI,oI,Prod.mk.injEq]at hs
     obtain⟨rfl,rfl⟩:=hs
     exact(xvu mm wb _ _ _ A B w c0 hm f1 (by omega)).mono fun e w' hd=>yU h hd
    | ofNat n=>
     cases hx:M.words[n]? with
     | none=>
      simp only[atI,hx,oI,Prod.mk.injEq]at hs
      obtain⟨rfl,rfl⟩:=hs
      exact(xvv mm wb _ _ _ A B w c0 hm f1 (by omega) (nw n hx)).mono fun e w' hd=>yU h hd
     | some x=>
      simp only[atI,hx]at hs
      split at hs
      ·rename_i hA;subst hA
       simp only[putI,oI,Prod.mk.injEq]at hs
       obtain⟨rfl,rfl⟩:=hs
       exact(do_cas mm wb _ _ n x B w c0 (qf h hx) (fz n) (lw n x hx) hm hwb f1).mono fun e w' hd=>Xk h hx hd
      ·rename_i hA
       simp only[oI,Prod.mk.injEq]at hs
       obtain⟨rfl,rfl⟩:=hs
       refine(xr9 mm wb _ _ n x A B w c0 (qf h hx) (fz n) (lw n x hx) hm hwb f1 ⟨Lib.hid (by simpa using hA),Lib.hid (by simpa using hA)⟩).mono fun e w' hd =>?_
       have:=Xk h hx hd
       rwa [xoR hx]at this
   ·split at hs
    ·rename_i _ _ _ hk;subst hk
     cases at_ with
     | negSucc m=>
      simp only[atI,oI,Prod.mk.injEq]at hs
      obtain⟨rfl,rfl⟩:=hs
      exact(xvw mm wb _ _ _ A B w c0 hm f1 (by omega)).mono fun e w' hd=>yU h hd
     | ofNat n=>
      cases hx:M.words[n]? with
      | none=>
       simp only[atI,hx,oI,Prod.mk.injEq]at hs
       obtain⟨rfl,rfl⟩:=hs
       exact(xvx mm wb _ _ _ A B w c0 hm f1 (by omega) (nw n hx)).mono fun e w' hd=>yU h hd
      | some x=>
       simp only[atI,hx,putI,oI,Prod.mk.injEq]at hs
       obtain⟨rfl,rfl⟩:=hs
       exact(do_add mm wb _ _ n x A B w c0 (qf h hx) (fz n) (lw n x hx) hm hwb f1).mono fun e w' hd=>Xk h hx hd
    ·split at hs
     ·rename_i _ _ _ _ hk;subst hk
      cases at_ with
      | negSucc m=>
       simp only[atI,oI,Prod.mk.injEq]at hs
       obtain⟨rfl,rfl⟩:=hs
       exact(xvy mm bb _ _ _ A B w c1 hm f2 (by omega)).mono fun e w' hd=>yU h hd
      | ofNat n=>
       cases hx:M.bytes[n]? with
       | none=>
        simp only[atI,hx,oI,Prod.mk.injEq]at hs
        obtain⟨rfl,rfl⟩:=hs
        exact(xvz mm bb _ _ _ A B w c1 hm f2 (by omega) (nb n hx)).mono fun e w' hd=>yU h hd
       | some x=>
        simp only[atI,hx]at hs
        split at hs
        ·rename_i hsx
         simp only[oI,Prod.mk.injEq]at hs
         obtain⟨rfl,rfl⟩:=hs
         exact(do_get mm bb _ _ n x A B w c1 (xit h hx) (lb n x hx) hm hbb f2 hsx.1 hsx.2).mono fun e w' hd=>⟨⟨true,hd.1⟩,h.below hd.2,Xj hd.2⟩
        ·cases hs
     ·split at hs
      ·rename_i _ _ _ _ _ hk;subst hk
       split at hs
       ·rename_i hA
        cases at_ with
        | negSucc m=>
         simp only[putI,oI,Prod.mk.injEq]at hs
         obtain⟨rfl,rfl⟩:=hs
         exact(xvA mm bb _ _ _ A B w c1 hm f2 (by omega)).mono fun e w' hd=>yU h hd
        | ofNat n=>
         simp only[putI,oI,Prod.mk.injEq]at hs
         obtain⟨rfl,rfl⟩:=hs
         cases hx:M.bytes[n]? with
         | none=>
          rw[List.set_eq_of_length_le (by have:=nb n hx;omega)]
          exact(xvB mm bb _ _ _ A B w c1 hm f2 (by omega) (nb n hx)).mono fun e w' hd=>yU h hd
         | some x=>
          refine(do_put mm bb _ _ n x A B w c1 (xit h hx) (fz' n) (lb n x hx) hm hbb f2 hA.1 hA.2).mono fun e w' hd =>?_
          obtain⟨rfl,w1,hb,rfl⟩:=hd
          obtain⟨h1,h2⟩:=xxq (v:=A) h hx hb
          exact⟨⟨true,rfl⟩,h1,h2⟩
       ·cases hs
      ·cases hs
end
section
open Go.RowKit Lx
structure WayAt(w:World)(wy mm wb bb:Nat)(n:Int)(M:Mem):Prop where
 way:w.heap[wy]? = some (.cells #[.pointer (some ⟨mm,0,none⟩),.int .i64 n] 122 (0,0))
 mem:MemAt w mm wb bb M
 ne:wy≠mm/\wy≠wb/\wy≠bb
theorem xbJ{w:World}{b o:Nat}{c:Array Value}{t:TypeId}{f:Nat×Nat}(h:w.heap[b]? = some (.cells c t f))(v:Value) :
  (w.setCell ⟨b,o,none⟩ v).heap[b]? = some (.cells (c.setIfInBounds o v) t f)/\(∀k,k≠b->(w.setCell ⟨b,o,none⟩ v).heap[k]? = w.heap[k]?)/\(w.setCell ⟨b,o,none⟩ v).heap.size=w.heap.size/\(w.setCell ⟨b,o,none⟩ v).os=w.os/\(w.setCell ⟨b,o,none⟩ v).tape=w.tape/\(w.setCell ⟨b,o,none⟩ v).output=w.output:=by
 have e:=setCell_eq (o:=o) h v
 rw[e]
 refine⟨?_,fun k hk =>?_,?_,rfl,rfl,rfl⟩
 ·simp only
  rw[Array.getElem?_setIfInBounds,if_pos rfl,if_pos (xZ h)]
 ·simp only
  rw[Array.getElem?_setIfInBounds,if_neg (fun h=>hk h.symm)]
 ·simp
theorem xvC{w:World}{b o:Nat}{c:Array Value}{t:TypeId}{f:Nat×Nat}(h:w.heap[b]? = some (.cells c t f))(v:Value):Keeps (fun k=>k=b) w (w.setCell ⟨b,o,none⟩ v):=by
 obtain⟨_,h2,h3,h4,h5,h6⟩:=xbJ (o:=o) h v
 exact⟨h4,h5,h6,Nat.le_of_eq h3.symm,fun k _ hk=>h2 k hk⟩
def DidWay(w:World)(wy mm wb bb:Nat)(told n:Int)(M':Mem)(e:Ending)(w':World):Prop:=
 e = .returned (.int .u64 told)/\WayAt w' wy mm wb bb n M'/\Keeps (fun b=>b=wy\/b=wb\/b=bb) w w'
theorem YF(kd at_ A B:Int)(wy mm wb bb:Nat)(n:Int)(M M':Mem)(told:Int)(w:World)(h:WayAt w wy mm wb bb n M)(hs:acc kd at_ A B M=some (told,M')) :
  Calls Tryz.prog 105 #[.pointer (some ⟨wy,0,none⟩),.int .u8 kd,.int .i64 at_,.int .u64 A,.int .u64 B] w (DidWay w wy mm wb bb told (wrap64 (n+1)) M'):=by
 have c0:w.cell? ⟨wy,0,none⟩=some (.pointer (some ⟨mm,0,none⟩)):=by rw[cell_of h.way];rfl
 have c1:w.cell? ⟨wy,1,none⟩=some (.int .i64 n):=by rw[cell_of h.way];rfl
 have fz:w.frozen? ⟨wy,1,none⟩=false:=YE h.way
 obtain⟨s1,s2,s3,s4,s5,s6⟩:=xbJ (o:=1) h.way (.int .i64 (wrap64 (n+1)))
 have hM:MemAt (w.setCell ⟨wy,1,none⟩ (.int .i64 (wrap64 (n+1)))) mm wb bb M:=h.mem.of (s2 mm (fun e=>h.ne.1 e.symm)) (s2 wb (fun e=>h.ne.2.1 e.symm)) (s2 bb (fun e=>h.ne.2.2 e.symm))
 have HK:=Lib.hid (xvC (o:=1) h.way (.int .i64 (wrap64 (n+1))))
 have HM:=Lib.hid hM
 have HS:=Lib.hid hs
 have HN:=Lib.hid h.ne
 have H1:=Lib.hid s1
 have hlt:=xZ s1
 have HL:=Lib.hid hlt
 clear hM hs h s1 s2 s3 s4 s5 s6 hlt
 go_enter Tryz.func105,Tryz.ntmps105
 go_wp2_with (go_at_call 106;refine(do_any kd at_ A B mm wb bb M M' told _ HM.out HS.out).mono ?_;rintro e1 w1 ⟨⟨ok,rfl⟩,hM1,hk1⟩;have HM1:=Lib.hid hM1;have HK1:=Lib.hid hk1;clear hM1 hk1)
 go_ret
 refine⟨rfl,⟨?_,HM1.out,HN.out⟩,HK.out.mono (fun b hb =>.inl hb) |>.trans HK1.out (fun b hb =>.inl (.inr hb))⟩
 rw[HK1.out.block wy HL.out (fun h=>by rcases h with h|h;exact HN.out.2.1 h;exact HN.out.2.2 h),H1.out]
 rfl
end
section
open Go.RowKit Lx
structure DS where
 m:Mem
 self:Int
 steps:Int
 told:Option (List C)
def ToldAt(w:World)(d:Nat):Option Nat->Option (List C)->Prop
 | none,none=>True
 | some b,some l =>∃vs,denL (pvD d) [] l=some vs/\w.heap[b]? = some (.cells vs.toArray 38 (0,0))
 | _,_=>False
structure DirAt(w:World)(d wy mm wb bb:Nat)(td:Option Nat)(s:DS):Prop where
 dir:w.heap[d]? = some (.cells #[.pointer (some ⟨wy,0,none⟩),.int .i64 s.self,.pointer (td.map fun b=>⟨b,0,none⟩)] 125 (0,0))
 way:WayAt w wy mm wb bb s.steps s.m
 told:ToldAt w d td s.told
 ne:d≠wy/\d≠mm/\d≠wb/\d≠bb
 tne : ∀b,td=some b->b≠d/\b≠wy/\b≠mm/\b≠wb/\b≠bb
def InD(d wy mm wb bb:Nat)(td:Option Nat)(b:Nat):Prop:=b=d\/b=wy\/b=mm\/b=wb\/b=bb\/td=some b
theorem DirAt.told_lt{w:World}{d wy mm wb bb:Nat}{td:Option Nat}{s:DS}(h:DirAt w d wy mm wb bb td s){b:Nat}(hb:td=some b):b<w.heap.size:=by
 have:=h.told
 subst hb
 cases ht:s.told with
 | none=>rw[ht]at this;exact this.elim
 | some l=>rw[ht]at this;obtain⟨vs,_,hw⟩:=this;exact xZ hw
theorem DirAt.of{w w':World}{d wy mm wb bb:Nat}{td:Option Nat}{s:DS}(h:DirAt w d wy mm wb bb td s)(hs : ∀b,InD d wy mm wb bb td b->w'.heap[b]? = w.heap[b]?):DirAt w' d wy mm wb bb td s:=by
 refine⟨(hs d (.inl rfl)).trans h.dir,⟨(hs wy (.inr (.inl rfl))).trans h.way.way,h.way.mem.of (hs mm (.inr (.inr (.inl rfl)))) (hs wb (.inr (.inr (.inr (.inl rfl))))) (hs bb (.inr (.inr (.inr (.inr (.inl rfl)))))),h.way.ne⟩,?_,h.ne,h.tne⟩
 have ht:=h.told
 cases htd:td with
 | none=>
  rw[htd]at ht
  cases hst:s.told with
  | none=>trivial
  | some l=>rw[hst]at ht;exact ht.elim
 | some b=>
  rw[htd]at ht
  cases hst:s.told with
  | none=>rw[hst]at ht;exact ht.elim
  | some l=>
   rw[hst]at ht
   obtain⟨vs,h1,h2⟩:=ht
   exact⟨vs,h1,(hs b (.inr (.inr (.inr (.inr (.inr htd)))))).trans h2⟩
theorem DirAt.lt{w:World}{d wy mm wb bb:Nat}{td:Option Nat}{s:DS}(h:DirAt w d wy mm wb bb td s) : ∀b,InD d wy mm wb bb td b->b<w.heap.size:=by
 rintro b (rfl|rfl|rfl|rfl|rfl|hb)
 ·exact xZ h.dir
 ·exact xZ h.way.way
 ·exact xZ h.way.mem.mem
 ·exact xZ h.way.mem.words
 ·exact xZ h.way.mem.bytes
 ·exact h.told_lt hb
theorem kj{w w':World}{d wy mm wb bb:Nat}{td:Option Nat}{s:DS}{n:Int}{M':Mem}(h:DirAt w d wy mm wb bb td s)(hW:WayAt w' wy mm wb bb n M')(hk:Keeps (fun b=>b=wy\/b=wb\/b=bb) w w') :
  DirAt w' d wy mm wb bb td {s with m:=M',steps:=n}/\Keeps (InD d wy mm wb bb td) w w':=by
 refine⟨⟨?_,hW,?_,h.ne,h.tne⟩,hk.mono ?_⟩
 ·rw[hk.block d (xZ h.dir) (by rintro (e|e|e);exact h.ne.1 e;exact h.ne.2.2.1 e;exact h.ne.2.2.2 e)]
  exact h.dir
 ·have ht:=h.told
  cases htd:td with
  | none=>
   rw[htd]at ht
   show ToldAt w' d none s.told
   cases hst:s.told with
   | none=>trivial
   | some l=>rw[hst]at ht;exact ht.elim
  | some b=>
   show ToldAt w' d (some b) s.told
   have hn:=h.tne b htd
   have hl:=h.told_lt htd
   rw[htd]at ht
   cases hst:s.told with
   | none=>rw[hst]at ht;exact ht.elim
   | some l=>
    rw[hst]at ht
    obtain⟨vs,h1,h2⟩:=ht
    refine⟨vs,h1,?_⟩
    rw[hk.block b hl (by rintro (e|e|e);exact hn.2.1 e;exact hn.2.2.2.1 e;exact hn.2.2.2.2 e)]
    exact h2
 ·rintro b (rfl|rfl|rfl)
  ·exact .inr (.inl rfl)
  ·exact .inr (.inr (.inr (.inl rfl)))
  ·exact .inr (.inr (.inr (.inr (.inl rfl))))
def DidM(w:World)(d wy mm wb bb:Nat)(td:Option Nat)(s':DS)(v:Value)(e:Ending)(w':World):Prop:=
 e = .returned v/\DirAt w' d wy mm wb bb td s'/\Keeps (InD d wy mm wb bb td) w w'
section
variable{w:World}{d wy mm wb bb:Nat}{td:Option Nat}{s:DS}
theorem m_load(h:DirAt w d wy mm wb bb td s)(at_ told:Int)(M':Mem)(hs:acc 1 at_ 0 0 s.m=some (told,M')) :
  Calls Tryz.prog 306 #[.pointer (some ⟨d,0,none⟩),.int .i64 at_] w (DidM w d wy mm wb bb td {s with m:=M',steps:=wrap64 (s.steps+1)} (.int .u64 told)):=by
 have c0:w.cell? ⟨d,0,none⟩=some (.pointer (some ⟨wy,0,none⟩)):=by rw[cell_of h.dir];rfl
 have HH:=Lib.hid h
 have HS:=Lib.hid hs
 clear h hs
 go_enter Tryz.func306,Tryz.ntmps306
 go_wp2_with (first|(go_at_call 104;refine(qX d wy _ c0).mono ?_;rintro e w' ⟨rfl,rfl⟩)|(go_at_call 105;refine(YF 1 at_ 0 0 wy mm wb bb s.steps s.m M' told _ HH.out.way HS.out).mono ?_;rintro e1 w1 ⟨rfl,hW,hK⟩;have HA:=Lib.hid (kj HH.out hW hK);clear hW hK))
 go_ret
 exact⟨rfl,HA.out.1,HA.out.2⟩
theorem m_add(h:DirAt w d wy mm wb bb td s)(at_ A told:Int)(M':Mem)(hs:acc 4 at_ A 0 s.m=some (told,M')) :
  Calls Tryz.prog 303 #[.pointer (some ⟨d,0,none⟩),.int .i64 at_,.int .u64 A] w (DidM w d wy mm wb bb td {s with m:=M',steps:=wrap64 (s.steps+1)} (.int .u64 told)):=by
 have c0:w.cell? ⟨d,0,none⟩=some (.pointer (some ⟨wy,0,none⟩)):=by rw[cell_of h.dir];rfl
 have HH:=Lib.hid h
 have HS:=Lib.hid hs
 clear h hs
 go_enter Tryz.func303,Tryz.ntmps303
 go_wp2_with (first|(go_at_call 104;refine(qX d wy _ c0).mono ?_;rintro e w' ⟨rfl,rfl⟩)|(go_at_call 105;refine(YF 4 at_ A 0 wy mm wb bb s.steps s.m M' told _ HH.out.way HS.out).mono ?_;rintro e1 w1 ⟨rfl,hW,hK⟩;have HA:=Lib.hid (kj HH.out hW hK);clear hW hK))
 go_ret
 exact⟨rfl,HA.out.1,HA.out.2⟩
theorem m_store(h:DirAt w d wy mm wb bb td s)(at_ A told:Int)(M':Mem)(hs:acc 2 at_ A 0 s.m=some (told,M')) :
  Calls Tryz.prog 308 #[.pointer (some ⟨d,0,none⟩),.int .i64 at_,.int .u64 A] w (DidM w d wy mm wb bb td {s with m:=M',steps:=wrap64 (s.steps+1)} (.tuple #[])):=by
 have c0:w.cell? ⟨d,0,none⟩=some (.pointer (some ⟨wy,0,none⟩)):=by rw[cell_of h.dir];rfl
 have HH:=Lib.hid h
 have HS:=Lib.hid hs
 clear h hs
 go_enter Tryz.func308,Tryz.ntmps308
 go_wp2_with (first|(go_at_call 104;refine(qX d wy _ c0).mono ?_;rintro e w' ⟨rfl,rfl⟩)|(go_at_call 105;refine(YF 2 at_ A 0 wy mm wb bb s.steps s.m M' told _ HH.out.way HS.out).mono ?_;rintro e1 w1 ⟨rfl,hW,hK⟩;have HA:=Lib.hid (kj HH.out hW hK);clear hW hK))
 refine bodyPost_ret (v :=.tuple #[]) (by simp[results,Tryz.results308,go_sem]) rfl ?_
 exact⟨rfl,HA.out.1,HA.out.2⟩
theorem m_cas(h:DirAt w d wy mm wb bb td s)(at_ A B told:Int)(M':Mem)(hs:acc 3 at_ A B s.m=some (told,M')) :
  Calls Tryz.prog 304 #[.pointer (some ⟨d,0,none⟩),.int .i64 at_,.int .u64 A,.int .u64 B] w (DidM w d wy mm wb bb td {s with m:=M',steps:=wrap64 (s.steps+1)} (.bool (told==1))):=by
 have c0:w.cell? ⟨d,0,none⟩=some (.pointer (some ⟨wy,0,none⟩)):=by rw[cell_of h.dir];rfl
 have HH:=Lib.hid h
 have HS:=Lib.hid hs
 clear h hs
 go_enter Tryz.func304,Tryz.ntmps304
 go_wp2_with (first|(go_at_call 104;refine(qX d wy _ c0).mono ?_;rintro e w' ⟨rfl,rfl⟩)|(go_at_call 105;refine(YF 3 at_ A B wy mm wb bb s.steps s.m M' told _ HH.out.way HS.out).mono ?_;rintro e1 w1 ⟨rfl,hW,hK⟩;have HA:=Lib.hid (kj HH.out hW hK);clear hW hK))
 go_ret
 exact⟨rfl,HA.out.1,HA.out.2⟩
theorem m_get(h:DirAt w d wy mm wb bb td s)(at_ told:Int)(M':Mem)(hs:acc 5 at_ 0 0 s.m=some (told,M'))(h0:0<=told)(h1:told<=255) :
  Calls Tryz.prog 32 #[.pointer (some ⟨d,0,none⟩),.int .i64 at_] w (DidM w d wy mm wb bb td {s with m:=M',steps:=wrap64 (s.steps+1)} (.int .u8 told)):=by
 have c0:w.cell? ⟨d,0,none⟩=some (.pointer (some ⟨wy,0,none⟩)):=by rw[cell_of h.dir];rfl
 have HH:=Lib.hid h
 have HS:=Lib.hid hs
 clear h hs
 go_enter Tryz.func32,Tryz.ntmps32
 go_wp2_with (first|(go_at_call 104;refine(qX d wy _ c0).mono ?_;rintro e w' ⟨rfl,rfl⟩)|(go_at_call 105;refine(YF 5 at_ 0 0 wy mm wb bb s.steps s.m M' told _ HH.out.way HS.out).mono ?_;rintro e1 w1 ⟨rfl,hW,hK⟩;have HA:=Lib.hid (kj HH.out hW hK);clear hW hK))
 go_ret
 exact⟨rfl,HA.out.1,HA.out.2⟩
theorem m_put(h:DirAt w d wy mm wb bb td s)(at_ A told:Int)(M':Mem)(hs:acc 6 at_ A 0 s.m=some (told,M'))(h0:0<=A)(h1:A<=255) :
  Calls Tryz.prog 31 #[.pointer (some ⟨d,0,none⟩),.int .i64 at_,.int .u8 A] w (DidM w d wy mm wb bb td {s with m:=M',steps:=wrap64 (s.steps+1)} (.tuple #[])):=by
 have c0:w.cell? ⟨d,0,none⟩=some (.pointer (some ⟨wy,0,none⟩)):=by rw[cell_of h.dir];rfl
 have HH:=Lib.hid h
 have HS:=Lib.hid hs
 clear h hs
 go_enter Tryz.func31,Tryz.ntmps31
 go_wp2_with (first|(go_at_call 104;refine(qX d wy _ c0).mono ?_;rintro e w' ⟨rfl,rfl⟩)|(go_at_call 105;refine(YF 6 at_ A 0 wy mm wb bb s.steps s.m M' told _ HH.out.way HS.out).mono ?_;rintro e1 w1 ⟨rfl,hW,hK⟩;have HA:=Lib.hid (kj HH.out hW hK);clear hW hK))
 refine bodyPost_ret (v :=.tuple #[]) (by simp[results,Tryz.results31,go_sem]) rfl ?_
 exact⟨rfl,HA.out.1,HA.out.2⟩
end
def dacc(kd at_ A B:Int)(s:DS):Option (Int×DS):=match acc kd at_ A B s.m with
 | some (x,M')=>some (x,{s with m:=M',steps:=i64.wrap (s.steps+1)})
 | none=>none
def yb:PStep DS:=fun o=>match o with
 | .load a=>fun s=>dacc 1 a 0 0 s
 | .store a v=>fun s=>(dacc 2 a v 0 s).map fun r=>((),r.2)
 | .cas a x y=>fun s=>(dacc 3 a x y s).map fun r=>(r.1==1,r.2)
 | .add a v=>fun s=>dacc 4 a v 0 s
 | .get a=>fun s=>dacc 5 a 0 0 s
 | .put a b=>fun s=>(dacc 6 a b 0 s).map fun r=>((),r.2)
 | .self=>fun s=>some (s.self,s)
 | .steps=>fun s=>some (s.steps,s)
 | .tell r=>fun s=>some ((),{s with told:=some r})
theorem xvD(n:Int):i64.wrap n=wrap64 n:=by rw[IntKind.wrap_i64];simp only[wrap64]
theorem YG{kd at_ A B:Int}{s s':DS}{x:Int}(h:dacc kd at_ A B s=some (x,s')) : ∃M',acc kd at_ A B s.m=some (x,M')/\s' = {s with m:=M',steps:=wrap64 (s.steps+1)}:=by
 unfold dacc at h
 split at h
 ·rename_i y M' hy
  cases h
  exact⟨M',hy,by rw[xvD]⟩
 ·cases h
theorem xvE{at_ A B:Int}{M:Mem}{r:Int×Mem}(h:acc 6 at_ A B M=some r):0<=A/\A<=255:=by
 simp only[acc]at h
 split at h
 ·rename_i h6;omega
 ·split at h
  ·rename_i h6;omega
  ·split at h
   ·rename_i h6;omega
   ·split at h
    ·rename_i h6;omega
    ·split at h
     ·rename_i h6;omega
     ·split at h
      ·split at h
       ·assumption
       ·cases h
      ·cases h
theorem xvF{at_ x:Int}{M M':Mem}(h:acc 5 at_ 0 0 M=some (x,M')):0<=x/\x<=255:=by
 simp only[acc,show ¬ (5:Int)=1 by decide,show ¬ (5:Int)=2 by decide,show ¬ (5:Int)=3 by decide,show ¬ (5:Int)=4 by decide,if_false,if_true]at h
 split at h
 ·split at h
  ·rename_i h1
   cases h;exact h1
  ·cases h
 ·cases h;decide
theorem m_tell{w:World}{d wy mm wb bb:Nat}{td:Option Nat}{s:DS}(h:DirAt w d wy mm wb bb td s)(l:List C)(vs:List Value)(hl:denL (pvD d) [] l=some vs) :
  Calls Tryz.prog 309 #[.pointer (some ⟨d,0,none⟩),.agg vs.toArray] w fun e w'=>e = .returned (.tuple #[])/\DirAt w' d wy mm wb bb (some w.heap.size) {s with told:=some l}/\Keeps (InD d wy mm wb bb td) w w':=by
 have hd:=xZ h.dir
 have e1:(w.alloc (.cells vs.toArray 38)).heap[d]? = w.heap[d]? :=by rw[Lx.heap_alloc,Array.getElem?_push,if_neg (by omega)]
 have hdir:(w.alloc (.cells vs.toArray 38)).heap[d]? = some (.cells #[.pointer (some ⟨wy,0,none⟩),.int .i64 s.self,.pointer (td.map fun b=>⟨b,0,none⟩)] 125 (0,0)):=e1.trans h.dir
 have c2:(w.alloc (.cells vs.toArray 38)).cell? ⟨d,2,none⟩=some (.pointer (td.map fun b=>⟨b,0,none⟩)):=by rw[cell_of hdir];rfl
 have fz:(w.alloc (.cells vs.toArray 38)).frozen? ⟨d,2,none⟩=false:=YE hdir
 have HF:Hid (DirAt ((w.setCell ⟨d,2,none⟩ (.pointer (some ⟨w.heap.size,0,none⟩))).alloc (.cells vs.toArray 38)) d wy mm wb bb (some w.heap.size) {s with told:=some l}/\Keeps (InD d wy mm wb bb td) w ((w.setCell ⟨d,2,none⟩ (.pointer (some ⟨w.heap.size,0,none⟩))).alloc (.cells vs.toArray 38))):=by
  refine Lib.hid ?_
  obtain⟨s1,s2,s3,s4,s5,s6⟩:=xbJ (o:=2) h.dir (.pointer (some ⟨w.heap.size,0,none⟩))
  have l1:=xZ h.way.way
  have l2:=xZ h.way.mem.mem
  have l3:=xZ h.way.mem.words
  have l4:=xZ h.way.mem.bytes
  obtain⟨n1,n2,n3,n4⟩:=h.ne
  have pu : ∀b,b<w.heap.size->(((w.setCell ⟨d,2,none⟩ (.pointer (some ⟨w.heap.size,0,none⟩))).alloc (.cells vs.toArray 38))).heap[b]? = (w.setCell ⟨d,2,none⟩ (.pointer (some ⟨w.heap.size,0,none⟩))).heap[b]? :=by
   intro b hb
   rw[Lx.heap_alloc,Array.getElem?_push,if_neg (by omega)]
  have old : ∀b,b<w.heap.size->b≠d->(((w.setCell ⟨d,2,none⟩ (.pointer (some ⟨w.heap.size,0,none⟩))).alloc (.cells vs.toArray 38))).heap[b]? = w.heap[b]? :=fun b hb hne=>(pu b hb).trans (s2 b hne)
  refine⟨⟨?_,⟨(old wy l1 (fun e=>n1 e.symm)).trans h.way.way,h.way.mem.of (old mm l2 (fun e=>n2 e.symm)) (old wb l3 (fun e=>n3 e.symm)) (old bb l4 (fun e=>n4 e.symm)),h.way.ne⟩,?_,h.ne,?_⟩,?_⟩
  ·rw[pu d hd,s1];rfl
  ·refine⟨vs,hl,?_⟩
   rw[Lx.heap_alloc,Array.getElem?_push,if_pos (by omega)]
  ·intro b hb
   cases hb
   exact⟨by omega,by omega,by omega,by omega,by omega⟩
  ·refine⟨s4,s5,s6,by rw[Lx.heap_alloc];simp,fun b hb hn=>old b hb fun e=>hn (.inl e)⟩
 clear h hdir e1
 go_enter Tryz.func309,Tryz.ntmps309
 go_wp2
 refine bodyPost_end (v :=.tuple #[]) (by simp[results,Tryz.results309,go_sem]) rfl ?_
 exact⟨rfl,HF.out.1,HF.out.2⟩
theorem xvG{name:String}{args:List V}{p:POp}(h:popOf name args=some p) :
  (name = "Self" /\ args = []/\p = .self)\/(name = "Steps" /\ args = []/\p = .steps)\/(∃a,name = "Load" /\ args = [.c (.int .i64 a)]/\p = .load a)\/(∃a,name = "Get" /\ args = [.c (.int .i64 a)]/\p = .get a)\/
  (∃a b,name = "Store" /\ args = [.c (.int .i64 a),.c (.int .u64 b)]/\p = .store a b)\/(∃a b,name = "Add" /\ args = [.c (.int .i64 a),.c (.int .u64 b)]/\p = .add a b)\/
  (∃a b,name = "Put" /\ args = [.c (.int .i64 a),.c (.int .u8 b)]/\p = .put a b)\/(∃a b c,name = "CAS" /\ args = [.c (.int .i64 a),.c (.int .u64 b),.c (.int .u64 c)]/\p = .cas a b c)\/
  (∃l,name = "Tell" /\ args = [.agg l]/\p = .tell l):=by
 unfold popOf at h
 split at h
 ·split at h
  ·cases h;exact .inl ⟨‹_›,rfl,rfl⟩
  ·split at h
   ·cases h;exact .inr (.inl ⟨‹_›,rfl,rfl⟩)
   ·cases h
 ·split at h
  ·cases h;exact .inr (.inr (.inl ⟨_,‹_›,rfl,rfl⟩))
  ·split at h
   ·cases h;exact .inr (.inr (.inr (.inl ⟨_,‹_›,rfl,rfl⟩)))
   ·cases h
 ·split at h
  ·cases h;exact .inr (.inr (.inr (.inr (.inl ⟨_,_,‹_›,rfl,rfl⟩))))
  ·split at h
   ·cases h;exact .inr (.inr (.inr (.inr (.inr (.inl ⟨_,_,‹_›,rfl,rfl⟩)))))
   ·cases h
 ·split at h
  ·cases h;exact .inr (.inr (.inr (.inr (.inr (.inr (.inl ⟨_,_,‹_›,rfl,rfl⟩))))))
  ·cases h
 ·split at h
  ·cases h;exact .inr (.inr (.inr (.inr (.inr (.inr (.inr (.inl ⟨_,_,_,‹_›,rfl,rfl⟩)))))))
  ·cases h
 ·split at h
  ·split at h
   ·cases h;exact .inr (.inr (.inr (.inr (.inr (.inr (.inr (.inr ⟨_,‹_›,rfl,rfl⟩)))))))
   ·cases h
  ·cases h
 ·cases h
def DRep(d wy mm wb bb:Nat)(s:DS)(F:Nat->Prop)(w:World):Prop :=∃td,DirAt w d wy mm wb bb td s/\ ∀b,F b↔InD d wy mm wb bb td b
theorem wF{d wy mm wb bb:Nat}{td:Option Nat}{s':DS}{F:Nat->Prop}{w w':World}(hF : ∀b,F b↔InD d wy mm wb bb td b)(h:DirAt w' d wy mm wb bb td s')(hk:Keeps (InD d wy mm wb bb td) w w') : ∃F',DRep d wy mm wb bb s' F' w'/\Keeps F w w'/\ ∀b,F' b->F b\/w.heap.size<=b:=
 ⟨F,⟨td,h,hF⟩,hk.mono fun b hb=>(hF b).2 hb,fun b hb =>.inl hb⟩
theorem xoS{d wy mm wb bb:Nat}{name:String}{args:List V}{p:POp}{s s':DS}{x:p.Ans}{F:Nat->Prop}{w:World}{vs:List Value}(hp:popOf name args=some p)(hs:yb p s=some (x,s'))(hv:allSome (denV (pvD d) []) args=some vs)(hR:DRep d wy mm wb bb s F w) :
  ∃f recv rv,(∀w,(callMethod (pvD d) name vs.toArray).run Tryz.prog w = .ok (.enter f (#[recv]++vs.toArray)) w)/\Flat (pvD d) (ansV p x) rv/\
   Calls Tryz.prog f (#[recv]++vs.toArray) w fun e w'=>e = .returned rv/\ ∃F',DRep d wy mm wb bb s' F' w'/\Keeps F w w'/\ ∀b,F' b->F b\/w.heap.size<=b:=by
 obtain⟨td,hD,hF⟩:=hR
 rcases xvG hp with⟨rfl,rfl,rfl⟩|⟨rfl,rfl,rfl⟩|⟨a,rfl,rfl,rfl⟩|⟨a,rfl,rfl,rfl⟩|⟨a,b,rfl,rfl,rfl⟩|⟨a,b,rfl,rfl,rfl⟩|⟨a,b,rfl,rfl,rfl⟩|⟨a,b,c,rfl,rfl,rfl⟩|⟨l,rfl,rfl,rfl⟩
 ·simp only[allSome,oI]at hv;subst hv
  simp only[yb,oI,Prod.mk.injEq]at hs
  obtain⟨rfl,rfl⟩:=hs
  refine⟨_,_,.int .i64 s.self,xis d [],fun e=>rfl,(xxn d s.self w (by rw[cell_of hD.dir];rfl)).mono ?_⟩
  rintro e w' ⟨rfl,rfl⟩
  exact⟨rfl,wF hF hD (Keeps.refl _ _)⟩
 ·simp only[allSome,oI]at hv;subst hv
  simp only[yb,oI,Prod.mk.injEq]at hs
  obtain⟨rfl,rfl⟩:=hs
  refine⟨_,_,.int .i64 s.steps,xf2 d [],fun e=>rfl,(xvp d wy s.steps w (by rw[cell_of hD.dir];rfl) (by rw[cell_of hD.way.way];rfl)).mono ?_⟩
  rintro e w' ⟨rfl,rfl⟩
  exact⟨rfl,wF hF hD (Keeps.refl _ _)⟩
 ·simp only[allSome,denV,den,oI]at hv;subst hv
  obtain⟨M',h1,rfl⟩:=YG (show dacc 1 a 0 0 s=some (x,s')from hs)
  refine⟨_,_,.int .u64 x,xir d [.int .i64 a],fun e=>rfl,(m_load hD a x M' h1).mono ?_⟩
  rintro e w' ⟨rfl,h2,h3⟩
  exact⟨rfl,wF hF h2 h3⟩
 ·simp only[allSome,denV,den,oI]at hv;subst hv
  obtain⟨M',h1,rfl⟩:=YG (show dacc 5 a 0 0 s=some (x,s')from hs)
  have hr:=xvF h1
  refine⟨_,_,.int .u8 x,xf0 d [.int .i64 a],fun e=>rfl,(m_get hD a x M' h1 hr.1 hr.2).mono ?_⟩
  rintro e w' ⟨rfl,h2,h3⟩
  exact⟨rfl,wF hF h2 h3⟩
 ·simp only[allSome,denV,den,oI]at hv;subst hv
  simp only[yb,oM]at hs
  obtain⟨⟨y,s1⟩,h0,h9⟩:=hs
  cases h9
  obtain⟨M',h1,rfl⟩:=YG h0
  refine⟨_,_,.tuple #[],xfZ d [.int .i64 a,.int .u64 b],fun e=>rfl,(m_store hD a b y M' h1).mono ?_⟩
  rintro e w' ⟨rfl,h2,h3⟩
  exact⟨rfl,wF hF h2 h3⟩
 ·simp only[allSome,denV,den,oI]at hv;subst hv
  obtain⟨M',h1,rfl⟩:=YG (show dacc 4 a b 0 s=some (x,s')from hs)
  refine⟨_,_,.int .u64 x,xoQ d [.int .i64 a,.int .u64 b],fun e=>rfl,(m_add hD a b x M' h1).mono ?_⟩
  rintro e w' ⟨rfl,h2,h3⟩
  exact⟨rfl,wF hF h2 h3⟩
 ·simp only[allSome,denV,den,oI]at hv;subst hv
  simp only[yb,oM]at hs
  obtain⟨⟨y,s1⟩,h0,h9⟩:=hs
  cases h9
  obtain⟨M',h1,rfl⟩:=YG h0
  have hr:=xvE h1
  refine⟨_,_,.tuple #[],xf1 d [.int .i64 a,.int .u8 b],fun e=>rfl,(m_put hD a b y M' h1 hr.1 hr.2).mono ?_⟩
  rintro e w' ⟨rfl,h2,h3⟩
  exact⟨rfl,wF hF h2 h3⟩
 ·simp only[allSome,denV,den,oI]at hv;subst hv
  simp only[yb,oM]at hs
  obtain⟨⟨y,s1⟩,h0,h9⟩:=hs
  cases h9
  obtain⟨M',h1,rfl⟩:=YG h0
  refine⟨_,_,.bool (y==1),xoP d [.int .i64 a,.int .u64 b,.int .u64 c],fun e=>rfl,(m_cas hD a b c y M' h1).mono ?_⟩
  rintro e w' ⟨rfl,h2,h3⟩
  exact⟨rfl,wF hF h2 h3⟩
 ·simp only[allSome,denV]at hv
  cases hl:denL (pvD d) [] l with
  | none=>rw[hl]at hv;simp at hv
  | some us=>
   rw[hl]at hv
   simp only[Option.map_some,oI]at hv
   subst hv
   simp only[yb,oI,Prod.mk.injEq]at hs
   obtain⟨_,rfl⟩:=hs
   refine⟨_,_,.tuple #[],xvm d [.agg us.toArray],fun e=>rfl,(m_tell hD l us hl).mono ?_⟩
   rintro e w' ⟨rfl,h2,h3⟩
   refine⟨rfl,InD d wy mm wb bb (some w.heap.size),⟨_,h2,fun b=>Iff.rfl⟩,h3.mono fun b hb=>(hF b).2 hb,?_⟩
   rintro b (h|h|h|h|h|h)
   ·exact .inl ((hF b).2 (.inl h))
   ·exact .inl ((hF b).2 (.inr (.inl h)))
   ·exact .inl ((hF b).2 (.inr (.inr (.inl h))))
   ·exact .inl ((hF b).2 (.inr (.inr (.inr (.inl h)))))
   ·exact .inl ((hF b).2 (.inr (.inr (.inr (.inr (.inl h))))))
   ·cases h;exact .inr (Nat.le_refl _)
def Dir(d wy mm wb bb:Nat):Port Tryz.prog DS where
 pv:=pvD d
 t:= 27
 u :=.pointer (some ⟨d,0,none⟩)
 isIface:=rfl
 step:=yb
 Rep:=DRep d wy mm wb bb
 lt:=fun⟨td,h,hF⟩ b hb=>h.lt b ((hF b).1 hb)
 stable:=fun⟨td,h,hF⟩ hs=>⟨td,h.of (fun b hb=>hs b ((hF b).2 hb)),hF⟩
 sure:=fun name h w=>sureD d name h w
 does:=fun hp hs hv hR=>xoS hp hs hv hR
def DidC(w:World)(d wy mm wb bb:Nat)(td:Option Nat)(s':DS)(v:Value)(e:Ending)(w':World):Prop:=
 e = .returned v/\(∃td',DirAt w' d wy mm wb bb td' s'/\ ∀b,td'=some b->td=some b\/w.heap.size<=b)/\Keeps (InD d wy mm wb bb td) w w'
theorem xoT{d wy mm wb bb:Nat}{td:Option Nat}{s s':DS}{w:World}{f:FuncId}{m:List V->Heap->Option Sum}(hs:SoundF (Dir d wy mm wb bb) f m){args:List V}{S:Sum}(hm:m args []=some S){vs:List Value}(hv:allSome (denV (pvD d) []) args=some vs)
  (hD:DirAt w d wy mm wb bb td s) {x:S.α} (hr:S.t.run yb s=some (x,s')) {v:V} (hf:S.f x=some (v,[])) {rv:Value} (hd : ∀e,denV (pvD d) e v=some rv):Calls Tryz.prog f vs.toArray w (DidC w d wy mm wb bb td s' rv):=by
 refine(hs.2 args [] S hm [] w s (InD d wy mm wb bb td) vs (xln _ w) hv ⟨td,hD,fun b=>Iff.rfl⟩ (fun b h=>(wX b h).elim) x v [] s' hr hf).mono ?_
 rintro en w' ⟨e',F',rv',rfl,_,hd',_,⟨td',hD',hF'⟩,_,hk,hn⟩
 have h1:=hd e'
 have h2:denV (pvD d) e' v=some rv':=hd'
 rw[h1,oI]at h2
 subst h2
 refine⟨rfl,⟨td',hD',fun b hb =>?_⟩,hk.mono fun b hb =>?_⟩
 ·have hne:=hD'.tne b hb
  rcases hn true b (.inr ((hF' b).2 (.inr (.inr (.inr (.inr (.inr hb)))))))with h|h|h
  ·exact(wX b h).elim
  ·rcases h with h|h|h|h|h|h
   ·exact absurd h hne.1
   ·exact absurd h hne.2.1
   ·exact absurd h hne.2.2.1
   ·exact absurd h hne.2.2.2.1
   ·exact absurd h hne.2.2.2.2
   ·exact .inl h
  ·exact .inr h
 ·rcases hb with h|h
  ·exact(wX b h).elim
  ·exact h
end
section
open Go.RowKit Lx
def MadeMem(w:World)(n k:Nat)(e:Ending)(w':World):Prop :=∃mm wb bb,e = .returned (.tuple #[.pointer (some ⟨mm,0,none⟩),.int .i64 0])/\MemAt w' mm wb bb ⟨List.replicate n 0,List.replicate k 0⟩/\Below w.heap.size w w'/\w.heap.size<=mm/\w.heap.size<=wb/\w.heap.size<=bb
theorem xtw {n k mm wb bb:Nat} {w':World} (h1:w'.heap[mm]? = some (.cells #[.slice (some ⟨wb,0,none⟩) n n,.slice (some ⟨bb,0,none⟩) k k] 188 (0,0)))
  (h2:w'.heap[wb]? = some (.cells (List.replicate n (Value.int .u64 0)).toArray 34 (0,0))) (h3:w'.heap[bb]? = some (.cells (List.replicate k (Value.int .u8 0)).toArray 5 (0,0))) (hne:mm≠wb/\mm≠bb/\wb≠bb) (hn:n<=1000000) (hk:k<=1000000) :
  MemAt w' mm wb bb ⟨List.replicate n 0,List.replicate k 0⟩:=
 ⟨by simpa using h1,by simpa using h2,by simpa using h3,hne,by simpa using ⟨hn,hk⟩⟩
theorem xoU(v:Value)(n:Nat):madeCells #[v] n=(List.replicate n v).toArray:=by
 unfold madeCells
 apply Array.ext
 ·simp
 ·intro i h1 h2
  simp[Nat.mod_one]
theorem xtx{t:TypeId}{n b:Nat}{z:Value}(h1:(Tryz.prog.info? t).map (fun i=>(i.size,i.bytes))=some (n,b))(h2:(Tryz.prog.info? t).bind (·.zero)=some z) : ∃i,Tryz.prog.info? t=some i/\i.zero=some z/\i.size=n/\i.bytes=b:=by
 cases h : Tryz.prog.info? t with
 | none=>rw[h]at h1;simp at h1
 | some i=>
  rw[h]at h1 h2
  simp only[Option.map_some,oI,Prod.mk.injEq,Option.bind_some]at h1 h2
  exact⟨i,rfl,h2,h1.1,h1.2⟩
theorem xsb(n:Nat)(hn:n<=1000000)(w:World):(Instr.makeSlice 185 (.int .i64 n) (.int .i64 n)).run Tryz.prog w = .ok (.slice (some ⟨w.heap.size,0,none⟩) n n) (w.alloc (.cells (List.replicate n (Value.int .u64 0)).toArray 34)):=by
 obtain⟨i,h1,h2,h3,h4⟩:=xtx (t:= 34) (n:=1) (b:=8) (z :=.int .u64 0) (by kernel_rfl) (by kernel_rfl)
 have:=run_make (P:= Tryz.prog) w 185 34 i _ (by kernel_rfl) h1 h2 .i64 .i64 n n (by omega) (by omega) (by rw[h4];omega) (by omega)
 rw[this,h3]
 simp only[Int.toNat_natCast,Nat.mul_one]
 rw[show(Value.int u64 0).cells = #[Value.int .u64 0]from rfl,xoU]
theorem xsc(n:Nat)(hn:n<=1000000)(w:World):(Instr.makeSlice 52 (.int .i64 n) (.int .i64 n)).run Tryz.prog w = .ok (.slice (some ⟨w.heap.size,0,none⟩) n n) (w.alloc (.cells (List.replicate n (Value.int .u8 0)).toArray 5)):=by
 obtain⟨i,h1,h2,h3,h4⟩:=xtx (t:= 5) (n:=1) (b:=1) (z :=.int .u8 0) (by kernel_rfl) (by kernel_rfl)
 have:=run_make (P:= Tryz.prog) w 52 5 i _ (by kernel_rfl) h1 h2 .i64 .i64 n n (by omega) (by omega) (by rw[h4];omega) (by omega)
 rw[this,h3]
 simp only[Int.toNat_natCast,Nat.mul_one]
 rw[show(Value.int u8 0).cells = #[Value.int .u8 0]from rfl,xoU]
theorem mem_new(n k:Nat)(hn:n<=1000000)(hk:k<=1000000)(w:World):Calls Tryz.prog 221 #[.int .i64 n,.int .i64 k] w (MadeMem w n k):=by
 have d1:decide ((n:Int)<0)=false:=by simp
 have d2:decide ((k:Int)<0)=false:=by simp
 have d3:decide (2097152<n)=false:=by simp;omega
 have d4:decide (1048576<k)=false:=by simp;omega
 have m1:=xsb n hn
 have m2:=xsc k hk
 go_enter Tryz.func221,Tryz.ntmps221
 go_wp2
 go_region
 ·go_wp2
  go_ret2
  refine⟨w.heap.size+1+1,w.heap.size,w.heap.size+1,rfl,xtw ?_ ?_ ?_ ⟨by omega,by omega,by omega⟩ hn hk,yx ((((Below.refl _ _).alloc (Nat.le_refl _) _).alloc (by simp) _).alloc (by simp;try omega) _),by omega,by omega,by omega⟩
  ·show(((w.heap.push _).push _).push _)[w.heap.size+1+1]? = _
   rw[Array.getElem?_push,if_pos (by simp)]
  ·show(((w.heap.push _).push _).push _)[w.heap.size]? = _
   rw[Array.getElem?_push,if_neg (by simp;omega),Array.getElem?_push,if_neg (by simp),Array.getElem?_push,if_pos rfl];simp
  ·show(((w.heap.push _).push _).push _)[w.heap.size+1]? = _
   rw[Array.getElem?_push,if_neg (by simp),Array.getElem?_push,if_pos (by simp)];simp
 ·go_wp2
  go_ret2
  refine⟨w.heap.size+1+1,w.heap.size+1,w.heap.size,rfl,xtw ?_ ?_ ?_ ⟨by omega,by omega,by omega⟩ hn hk,yx ((((Below.refl _ _).alloc (Nat.le_refl _) _).alloc (by simp) _).alloc (by simp;try omega) _),by omega,by omega,by omega⟩
  ·show(((w.heap.push _).push _).push _)[w.heap.size+1+1]? = _
   rw[Array.getElem?_push,if_pos (by simp)]
  ·show(((w.heap.push _).push _).push _)[w.heap.size+1]? = _
   rw[Array.getElem?_push,if_neg (by simp),Array.getElem?_push,if_pos (by simp)];simp
  ·show(((w.heap.push _).push _).push _)[w.heap.size]? = _
   rw[Array.getElem?_push,if_neg (by simp;omega),Array.getElem?_push,if_neg (by simp),Array.getElem?_push,if_pos rfl];simp
end
section
open Go.RowKit Lx
def Xl(H:Heap):Option DS:=match H with
 | some ⟨[.ptr 1 0,.int .i64 self,td],t0,false,none⟩::some ⟨[.ptr 2 0,.int .i64 n],t1,false,none⟩::some ⟨[.sl 3 0 a a',.sl 4 0 b b'],t2,false,none⟩::some ⟨[],t3,false,some (.col .u64 W)⟩::some ⟨[],t4,false,some (.col .u8 B)⟩::R=>
  if t0 = 125 /\ t1 = 122 /\ t2 = 188 /\ t3 = 34 /\ t4 = 5 /\ a'=a/\b'=b then
   if W.length=a/\B.length=b/\a<=1000000/\b<=1000000 then
    match td,R with
    | .nilp,[]=>some ⟨⟨W,B⟩,self,n,none⟩
    | .ptr 5 0,[some ⟨l,t5,false,none⟩]=>if t5 = 38 /\ l.all yl=true then some ⟨⟨W,B⟩,self,n,some l⟩else none
    | _,_=>none
   else none
  else none
 | _=>none
theorem vS(pv:Value)(e:Env)(k:IntKind) : ∀l:List Int,denL pv e (l.map (.int k))=some (l.map (Value.int k))
 | []=>rfl
 | x::l=>by simp only[List.map_cons,denL,den,vS pv e k l]
def baseD(s:DS)(td:C):Heap :=[some ⟨[.ptr 1 0,.int .i64 s.self,td], 125,false,none⟩,some ⟨[.ptr 2 0,.int .i64 s.steps], 122,false,none⟩,some ⟨[.sl 3 0 s.m.words.length s.m.words.length,.sl 4 0 s.m.bytes.length s.m.bytes.length], 188,false,none⟩,some ⟨[], 34,false,some (.col .u64 s.m.words)⟩,some ⟨[], 5,false,some (.col .u8 s.m.bytes)⟩]
def qY(n:Nat)(s:DS):Option Heap:=match s.told with
 | none=>if n=5 then some (baseD s .nilp)else none
 | some l=>if 5<=n/\l.all yl=true then some (baseD s (.ptr n 0)++(List.replicate (n-5) none ++ [some ⟨l, 38,false,none⟩]))else none
theorem xoV{H:Heap}{s:DS}(h:Xl H=some s):(s.m.words.length<=1000000/\s.m.bytes.length<=1000000)/\((s.told=none/\H=baseD s .nilp)\/ ∃l,s.told=some l/\l.all yl=true/\H=baseD s (.ptr 5 0) ++ [some ⟨l, 38,false,none⟩]):=by
 unfold Xl at h
 split at h
 ·rename_i self td t0 n t1 a a' b b' t2 t3 W t4 B R
  split at h
  ·rename_i hc
   obtain⟨rfl,rfl,rfl,rfl,rfl,rfl,rfl⟩:=hc
   split at h
   ·rename_i hd
    obtain⟨rfl,rfl,h1,h2⟩:=hd
    split at h
    ·cases h
     exact⟨⟨h1,h2⟩,.inl ⟨rfl,rfl⟩⟩
    ·rename_i l t5
     split at h
     ·rename_i h5
      obtain⟨rfl,h6⟩:=h5
      cases h
      exact⟨⟨h1,h2⟩,.inr ⟨l,rfl,h6,rfl⟩⟩
     ·cases h
    ·cases h
   ·cases h
  ·cases h
 ·cases h
theorem xf3{pv pv':Value}{e e':Env} : ∀ {l:List C} {us:List Value},l.all yl=true->denL pv e l=some us->denL pv' e' l=some us
 | [],us,_,h=>by simpa[denL]using h
 | c::l,us,hf,h=>by
  simp only[List.all_cons,Bool.and_eq_true]at hf
  simp only[denL]at h |-
  have hc:den pv' e' c=den pv e c:=by cases c<;>first|rfl|(simp[yl]at hf)
  rw[hc]
  cases hd:den pv e c with
  | none=>rw[hd]at h;cases h
  | some v=>
   rw[hd]at h
   simp only at h |-
   cases hl:denL pv e l with
   | none=>rw[hl]at h;cases h
   | some vs=>rw[hl]at h;rw[xf3 hf.2 hl];exact h
theorem YH(pv:Value)(e:Env) : ∀ {l:List C},l.all yl=true ->∃us,denL pv e l=some us
 | [],_=>⟨[],rfl⟩
 | c::l,hf=>by
  simp only[List.all_cons,Bool.and_eq_true]at hf
  obtain⟨us,hu⟩:=YH pv e hf.2
  have hc : ∃v,den pv e c=some v:=by cases c<;>first|exact⟨_,rfl⟩|(simp[yl]at hf)
  obtain⟨v,hv⟩:=hc
  exact⟨v::us,by simp only[denL,hv,hu]⟩
theorem Vc{e:Env}{H:Heap}{w:World}{s:DS}(E:Emb NP.pv e H w)(h:Xl H=some s) :
  ∃r0 r1 r2 r3 r4 td,e[0]? = some r0/\e[1]? = some r1/\e[2]? = some r2/\e[3]? = some r3/\e[4]? = some r4/\DirAt w r0.1 r1.1 r2.1 r3.1 r4.1 td s/\(∀q b,InD r0.1 r1.1 r2.1 r3.1 r4.1 td b->Own q e H b):=by
 obtain⟨⟨f1,f2⟩,hH⟩:=xoV h
 have b0 : ∃td,blkAt H 0=some ⟨[.ptr 1 0,.int .i64 s.self,td], 125,false,none⟩/\((s.told=none/\td = .nilp)\/ ∃l,s.told=some l/\l.all yl=true/\td = .ptr 5 0/\blkAt H 5=some ⟨l, 38,false,none⟩):=by
  rcases hH with⟨h1,rfl⟩|⟨l,h1,h2,rfl⟩
  ·exact⟨.nilp,rfl,.inl ⟨h1,rfl⟩⟩
  ·exact⟨.ptr 5 0,rfl,.inr ⟨l,h1,h2,rfl,rfl⟩⟩
 have b1:blkAt H 1=some ⟨[.ptr 2 0,.int .i64 s.steps], 122,false,none⟩:=by rcases hH with⟨_,rfl⟩|⟨l,_,_,rfl⟩<;>rfl
 have b2:blkAt H 2=some ⟨[.sl 3 0 s.m.words.length s.m.words.length,.sl 4 0 s.m.bytes.length s.m.bytes.length], 188,false,none⟩:=by rcases hH with⟨_,rfl⟩|⟨l,_,_,rfl⟩<;>rfl
 have b3:blkAt H 3=some ⟨[], 34,false,some (.col .u64 s.m.words)⟩:=by rcases hH with⟨_,rfl⟩|⟨l,_,_,rfl⟩<;>rfl
 have b4:blkAt H 4=some ⟨[], 5,false,some (.col .u8 s.m.bytes)⟩:=by rcases hH with⟨_,rfl⟩|⟨l,_,_,rfl⟩<;>rfl
 clear hH
 obtain⟨td,b0,htd⟩:=b0
 obtain⟨r0,c0,t0,e0,d0,w0,g0,_⟩:=E.row 0 _ b0 rfl rfl
 obtain⟨r1,c1,t1,e1,d1,w1,g1,_⟩:=E.row 1 _ b1 rfl rfl
 obtain⟨r2,c2,t2,e2,d2,w2,g2,_⟩:=E.row 2 _ b2 rfl rfl
 obtain⟨r3,c3,t3,e3,d3,w3,g3,_⟩:=E.row 3 _ b3 rfl rfl
 obtain⟨r4,c4,t4,e4,d4,w4,g4,_⟩:=E.row 4 _ b4 rfl rfl
 obtain rfl:=g0 rfl
 obtain rfl:=g1 rfl
 obtain rfl:=g2 rfl
 obtain rfl:=g3 rfl
 obtain rfl:=g4 rfl
 simp only[List.append_nil]at w0 w1 w2 w3 w4
 have ne : ∀ {i j:Nat} {k k':Blk} {r r':Nat×Nat},blkAt H i=some k->blkAt H j=some k'->e[i]? = some r->e[j]? = some r'->i≠j->k.win=none->k.virt=false->k'.virt=false->r.1≠r'.1:=fun hi hj hr hr' hne hk hv hv' h=>hne (E.inj _ _ _ _ _ _ hi hj hr hr' h hv hv' (.inl hk))
 have n01:=ne b0 b1 e0 e1 (by decide) rfl rfl rfl
 have n02:=ne b0 b2 e0 e2 (by decide) rfl rfl rfl
 have n03:=ne b0 b3 e0 e3 (by decide) rfl rfl rfl
 have n04:=ne b0 b4 e0 e4 (by decide) rfl rfl rfl
 have n12:=ne b1 b2 e1 e2 (by decide) rfl rfl rfl
 have n13:=ne b1 b3 e1 e3 (by decide) rfl rfl rfl
 have n14:=ne b1 b4 e1 e4 (by decide) rfl rfl rfl
 have n23:=ne b2 b3 e2 e3 (by decide) rfl rfl rfl
 have n24:=ne b2 b4 e2 e4 (by decide) rfl rfl rfl
 have n34:=ne b3 b4 e3 e4 (by decide) rfl rfl rfl
 simp only[Blk.real,denL,den,e1,e2,e3,e4,Option.map_some,oI]at d0 d1 d2
 simp only[Blk.real,Tab.cells,vS,oI]at d3 d4
 subst d1 d2 d3 d4
 have hW:WayAt w r1.1 r2.1 r3.1 r4.1 s.steps s.m:=⟨w1,⟨w2,w3,w4,⟨n23,n24,n34⟩,⟨f1,f2⟩⟩,⟨n12,n13,n14⟩⟩
 rcases htd with⟨ht,rfl⟩|⟨l,ht,hl,rfl,b5⟩
 ·simp only[den,oI]at d0
  subst d0
  refine⟨r0,r1,r2,r3,r4,none,e0,e1,e2,e3,e4,⟨w0,hW,by rw[ht];trivial,⟨n01,n02,n03,n04⟩,fun b hb=>by cases hb⟩,?_⟩
  rintro q b (rfl|rfl|rfl|rfl|rfl|hb)
  ·exact⟨0,_,r0,b0,e0,rfl,rfl,fun _=>rfl⟩
  ·exact⟨1,_,r1,b1,e1,rfl,rfl,fun _=>rfl⟩
  ·exact⟨2,_,r2,b2,e2,rfl,rfl,fun _=>rfl⟩
  ·exact⟨3,_,r3,b3,e3,rfl,rfl,fun _=>rfl⟩
  ·exact⟨4,_,r4,b4,e4,rfl,rfl,fun _=>rfl⟩
  ·cases hb
 ·obtain⟨r5,c5,t5,e5,d5,w5,g5,_⟩:=E.row 5 _ b5 rfl rfl
  obtain rfl:=g5 rfl
  simp only[List.append_nil]at w5
  simp only[den,e5,Option.map_some,oI]at d0
  subst d0
  refine⟨r0,r1,r2,r3,r4,some r5.1,e0,e1,e2,e3,e4,⟨w0,hW,?_,⟨n01,n02,n03,n04⟩,fun b hb =>?_⟩,?_⟩
  ·rw[ht];exact⟨c5,xf3 hl d5,w5⟩
  ·cases hb
   exact⟨ne b5 b0 e5 e0 (by decide) rfl rfl rfl,ne b5 b1 e5 e1 (by decide) rfl rfl rfl,ne b5 b2 e5 e2 (by decide) rfl rfl rfl,ne b5 b3 e5 e3 (by decide) rfl rfl rfl,ne b5 b4 e5 e4 (by decide) rfl rfl rfl⟩
  ·rintro q b (rfl|rfl|rfl|rfl|rfl|hb)
   ·exact⟨0,_,r0,b0,e0,rfl,rfl,fun _=>rfl⟩
   ·exact⟨1,_,r1,b1,e1,rfl,rfl,fun _=>rfl⟩
   ·exact⟨2,_,r2,b2,e2,rfl,rfl,fun _=>rfl⟩
   ·exact⟨3,_,r3,b3,e3,rfl,rfl,fun _=>rfl⟩
   ·exact⟨4,_,r4,b4,e4,rfl,rfl,fun _=>rfl⟩
   ·cases hb;exact⟨5,_,r5,b5,e5,rfl,rfl,fun _=>rfl⟩
def xbK:V1->Bool
 | .c x=>yl x
 | .agg l=>l.all yl
def flatV:V->Bool
 | .c x=>yl x
 | .agg l=>l.all yl
 | .tup l=>l.all xbK
theorem xsd{pv pv':Value}{e e':Env}{x:V1}(h:xbK x=true):yD pv' e' x=yD pv e x:=by
 cases x with
 | c x=>exact xau h
 | agg l=>simp only[yD,jM (pv:=pv) (pv':=pv') (e:=e) (e':=e') (show l.all yl=true from h)]
theorem allSome_congr{α β:Type}{f g:α->Option β} : ∀ {l:List α},(∀x∈l,f x=g x)->allSome f l=allSome g l
 | [],_=>rfl
 | x::l,h=>by
  have ih:allSome f l=allSome g l:=allSome_congr fun y hy=>h y (List.mem_cons_of_mem _ hy)
  simp only[allSome,h x (by simp),ih]
theorem kl{pv pv':Value}{e e':Env}{x:V}(h:flatV x=true):denV pv' e' x=denV pv e x:=by
 cases x with
 | c x=>exact xau h
 | agg l=>simp only[denV,jM (pv:=pv) (pv':=pv') (e:=e) (e':=e') (show l.all yl=true from h)]
 | tup l=>
  simp only[denV]
  rw[allSome_congr fun y hy=>xsd (pv:=pv) (pv':=pv') (e:=e) (e':=e') (List.all_eq_true.1 (show l.all xbK=true from h) y hy)]
theorem xoW(pv:Value)(e:Env){x:V1}(h:xbK x=true) : ∃rv,yD pv e x=some rv:=by
 cases x with
 | c x=>cases x<;>first|exact⟨_,rfl⟩|(simp[xbK,yl]at h)
 | agg l=>obtain⟨us,hu⟩:=YH pv e (show l.all yl=true from h);exact⟨.agg us.toArray,by simp only[yD,hu,Option.map_some]⟩
theorem xf4(pv:Value)(e:Env){x:V}(h:flatV x=true) : ∃rv,denV pv e x=some rv:=by
 cases x with
 | c x=>cases x<;>first|exact⟨_,rfl⟩|(simp[flatV,yl]at h)
 | agg l=>obtain⟨us,hu⟩:=YH pv e (show l.all yl=true from h);exact⟨.agg us.toArray,by simp only[denV,hu,Option.map_some]⟩
 | tup l=>
  have : ∀l:List V1,l.all xbK=true ->∃us,allSome (yD pv e) l=some us:=by
   intro l
   induction l with
   | nil=>intro _;exact⟨[],rfl⟩
   | cons x l ih=>
    intro h
    simp only[List.all_cons,Bool.and_eq_true]at h
    obtain⟨a,ha⟩:=xoW pv e h.1
    obtain⟨us,hu⟩:=ih h.2
    exact⟨a::us,by simp only[allSome,ha,hu]⟩
  obtain⟨us,hu⟩:=this l h
  exact⟨.tuple us.toArray,by simp only[denV,hu,Option.map_some]⟩
theorem Vd{pv pv':Value}{e e':Env}{l:List V}(h:l.all flatV=true):allSome (denV pv' e') l=allSome (denV pv e) l:=
 allSome_congr fun y hy=>kl (List.all_eq_true.1 h y hy)
theorem xse{e:Env}{H1:Heap}{w':World}{s:DS}{r0 r1 r2 r3 r4:Nat×Nat}{td:Option Nat}(h5:5<=e.length)(e0:e[0]? = some r0)(e1:e[1]? = some r1)(e2:e[2]? = some r2)(e3:e[3]? = some r3)(e4:e[4]? = some r4)
  (hD:DirAt w' r0.1 r1.1 r2.1 r3.1 r4.1 td s) (hw:qY e.length s=some H1) : ∃e',Ext e e'/\Emb NP.pv e' H1 w'/\ ∀q b,Own q e' H1 b->InD r0.1 r1.1 r2.1 r3.1 r4.1 td b:=by
 obtain⟨n0,n1,n2,n3⟩:=hD.ne
 obtain⟨n4,n5,n6⟩:=hD.way.ne
 obtain⟨n7,n8,n9⟩:=hD.way.mem.ne
 have ht:=hD.told
 have hnd : [r0.1,r1.1,r2.1,r3.1,r4.1].Nodup:=by simp;omega
 unfold qY at hw
 split at hw
 ·rename_i hs
  split at hw
  ·rename_i hn
   cases hw
   have htd:td=none:=by
    cases td with
    | none=>rfl
    | some b=>rw[hs]at ht;exact ht.elim
   subst htd
   have hrow : ∀i k,blkAt (baseD s .nilp) i=some k->(i=0/\k=⟨[.ptr 1 0,.int .i64 s.self,.nilp], 125,false,none⟩)\/(i=1/\k=⟨[.ptr 2 0,.int .i64 s.steps], 122,false,none⟩)\/(i=2/\k=⟨[.sl 3 0 s.m.words.length s.m.words.length,.sl 4 0 s.m.bytes.length s.m.bytes.length], 188,false,none⟩)\/(i=3/\k=⟨[], 34,false,some (.col .u64 s.m.words)⟩)\/(i=4/\k=⟨[], 5,false,some (.col .u8 s.m.bytes)⟩):=by
    intro i k h
    match i with
    | 0=>cases h;exact .inl ⟨rfl,rfl⟩
    | 1=>cases h;exact .inr (.inl ⟨rfl,rfl⟩)
    | 2=>cases h;exact .inr (.inr (.inl ⟨rfl,rfl⟩))
    | 3=>cases h;exact .inr (.inr (.inr (.inl ⟨rfl,rfl⟩)))
    | 4=>cases h;exact .inr (.inr (.inr (.inr ⟨rfl,rfl⟩)))
    | i+5=>simp[baseD,blkAt]at h
   have hi : ∀i r,i<5->e[i]? = some r ->[r0.1,r1.1,r2.1,r3.1,r4.1][i]? = some r.1:=by
    intro i r hlt hr
    match i,hlt with
    | 0,_=>rw[e0]at hr;cases hr;rfl
    | 1,_=>rw[e1]at hr;cases hr;rfl
    | 2,_=>rw[e2]at hr;cases hr;rfl
    | 3,_=>rw[e3]at hr;cases hr;rfl
    | 4,_=>rw[e4]at hr;cases hr;rfl
   refine⟨e,Ext.refl e,⟨by rw[hn];rfl,fun i k hk =>?_,fun i j k k' r r' hk hk' hr hr' he _ _ =>?_,fun i k hk=>by rcases hrow i k hk with⟨_,rfl⟩|⟨_,rfl⟩|⟨_,rfl⟩|⟨_,rfl⟩|⟨_,rfl⟩<;>exact fun t ht=>by first|rfl|cases ht⟩,?_⟩
   ·rcases hrow i k hk with⟨rfl,rfl⟩|⟨rfl,rfl⟩|⟨rfl,rfl⟩|⟨rfl,rfl⟩|⟨rfl,rfl⟩
    ·exact⟨r0,[.pointer (some ⟨r1.1,0,none⟩),.int .i64 s.self,.pointer none],e0,by simp only[Blk.real,denL,den,e1,Option.map_some],Lies.mk (tl :=[]) rfl (by simpa using hD.dir) (fun _=>rfl) (fun h=>by cases h)⟩
    ·exact⟨r1,[.pointer (some ⟨r2.1,0,none⟩),.int .i64 s.steps],e1,by simp only[Blk.real,denL,den,e2,Option.map_some],Lies.mk (tl :=[]) rfl (by simpa using hD.way.way) (fun _=>rfl) (fun h=>by cases h)⟩
    ·exact⟨r2,[.slice (some ⟨r3.1,0,none⟩) s.m.words.length s.m.words.length,.slice (some ⟨r4.1,0,none⟩) s.m.bytes.length s.m.bytes.length],e2,by simp only[Blk.real,denL,den,e3,e4,Option.map_some],Lies.mk (tl :=[]) rfl (by simpa using hD.way.mem.mem) (fun _=>rfl) (fun h=>by cases h)⟩
    ·exact⟨r3,s.m.words.map (Value.int .u64),e3,vS _ _ _ _,Lies.mk (tl :=[]) rfl (by simpa using hD.way.mem.words) (fun _=>rfl) (fun h=>by cases h)⟩
    ·exact⟨r4,s.m.bytes.map (Value.int .u8),e4,vS _ _ _ _,Lies.mk (tl :=[]) rfl (by simpa using hD.way.mem.bytes) (fun _=>rfl) (fun h=>by cases h)⟩
   ·have a1:i<5:=by rcases hrow i k hk with⟨h,_⟩|⟨h,_⟩|⟨h,_⟩|⟨h,_⟩|⟨h,_⟩<;>omega
    have a2:j<5:=by rcases hrow j k' hk' with⟨h,_⟩|⟨h,_⟩|⟨h,_⟩|⟨h,_⟩|⟨h,_⟩<;>omega
    exact .inl ((List.getElem?_inj (by simpa using a1) hnd).1 ((hi i r a1 hr).trans ((congrArg some he).trans (hi j r' a2 hr').symm)))
   ·rintro q b ⟨i,k,r,hk,hr,rfl,_⟩
    have a1:i<5:=by rcases hrow i k hk with⟨h,_⟩|⟨h,_⟩|⟨h,_⟩|⟨h,_⟩|⟨h,_⟩<;>omega
    have hm:=List.mem_of_getElem? (hi i r a1 hr)
    simp only[List.mem_cons,List.not_mem_nil,or_false]at hm
    unfold InD
    rcases hm with h|h|h|h|h<;>simp[h]
  ·cases hw
 ·rename_i l hs
  split at hw
  ·rename_i hn
   obtain⟨hn,hl⟩:=hn
   cases hw
   obtain⟨b5,htd⟩ : ∃b,td=some b:=by
    cases td with
    | none=>rw[hs]at ht;exact ht.elim
    | some b=>exact⟨b,rfl⟩
   subst htd
   rw[hs]at ht
   obtain⟨vs,t1,t2⟩:=ht
   have n10:=hD.tne b5 rfl
   have hx:Ext e (e ++ [(b5,0)]):=⟨_,rfl⟩
   have hlast:(e ++ [(b5,0)])[e.length]? = some (b5,0):=by simp
   have hrow : ∀i k,blkAt (baseD s (.ptr e.length 0)++(List.replicate (e.length-5) none ++ [some ⟨l, 38,false,none⟩])) i=some k->(i=0/\k=⟨[.ptr 1 0,.int .i64 s.self,.ptr e.length 0], 125,false,none⟩)\/(i=1/\k=⟨[.ptr 2 0,.int .i64 s.steps], 122,false,none⟩)\/(i=2/\k=⟨[.sl 3 0 s.m.words.length s.m.words.length,.sl 4 0 s.m.bytes.length s.m.bytes.length], 188,false,none⟩)\/(i=3/\k=⟨[], 34,false,some (.col .u64 s.m.words)⟩)\/(i=4/\k=⟨[], 5,false,some (.col .u8 s.m.bytes)⟩)\/(i=e.length/\k=⟨l, 38,false,none⟩):=by
    intro i k h
    match i with
    | 0=>cases h;exact .inl ⟨rfl,rfl⟩
    | 1=>cases h;exact .inr (.inl ⟨rfl,rfl⟩)
    | 2=>cases h;exact .inr (.inr (.inl ⟨rfl,rfl⟩))
    | 3=>cases h;exact .inr (.inr (.inr (.inl ⟨rfl,rfl⟩)))
    | 4=>cases h;exact .inr (.inr (.inr (.inr (.inl ⟨rfl,rfl⟩))))
    | i+5=>
     have h':blkAt (List.replicate (e.length-5) none ++ [some ⟨l, 38,false,none⟩]) i=some k:=h
     rw[xT]at h'
     by_cases hi:i<e.length-5
     ·rw[List.getElem?_append_left (by simpa using hi),List.getElem?_replicate]at h'
      simp[hi]at h'
     ·rw[List.getElem?_append_right (by simpa using hi)]at h'
      simp only[List.length_replicate]at h'
      by_cases hi2:i=e.length-5
      ·subst hi2
       simp at h'
       exact .inr (.inr (.inr (.inr (.inr ⟨by omega,h'.symm⟩))))
      ·rw[List.getElem?_eq_none (by simp;omega)]at h'
       cases h'
   have g0:=hx.get e0
   have g1:=hx.get e1
   have g2:=hx.get e2
   have g3:=hx.get e3
   have g4:=hx.get e4
   have hi : ∀i r,i<5->(e ++ [(b5,0)])[i]? = some r ->[r0.1,r1.1,r2.1,r3.1,r4.1][i]? = some r.1:=by
    intro i r hlt hr
    match i,hlt with
    | 0,_=>rw[g0]at hr;cases hr;rfl
    | 1,_=>rw[g1]at hr;cases hr;rfl
    | 2,_=>rw[g2]at hr;cases hr;rfl
    | 3,_=>rw[g3]at hr;cases hr;rfl
    | 4,_=>rw[g4]at hr;cases hr;rfl
   have hc : ∀i k r,blkAt (baseD s (.ptr e.length 0)++(List.replicate (e.length-5) none ++ [some ⟨l, 38,false,none⟩])) i=some k->(e ++ [(b5,0)])[i]? = some r->(i<5/\ [r0.1,r1.1,r2.1,r3.1,r4.1][i]? = some r.1)\/(i=e.length/\r.1=b5):=by
    intro i k r hk hr
    rcases hrow i k hk with⟨h,_⟩|⟨h,_⟩|⟨h,_⟩|⟨h,_⟩|⟨h,_⟩|⟨h,_⟩
    case' inr.inr.inr.inr.inr=>right;subst h;rw[hlast]at hr;cases hr;exact⟨rfl,rfl⟩
    all_goals exact .inl ⟨by omega,hi i r (by omega) hr⟩
   refine⟨e ++ [(b5,0)],hx,⟨by simp[baseD];omega,fun i k hk =>?_,fun i j k k' r r' hk hk' hr hr' he _ _ =>?_,fun i k hk=>by rcases hrow i k hk with⟨_,rfl⟩|⟨_,rfl⟩|⟨_,rfl⟩|⟨_,rfl⟩|⟨_,rfl⟩|⟨_,rfl⟩<;>exact fun t ht=>by first|rfl|cases ht⟩,?_⟩
   ·rcases hrow i k hk with⟨rfl,rfl⟩|⟨rfl,rfl⟩|⟨rfl,rfl⟩|⟨rfl,rfl⟩|⟨rfl,rfl⟩|⟨rfl,rfl⟩
    ·exact⟨r0,[.pointer (some ⟨r1.1,0,none⟩),.int .i64 s.self,.pointer (some ⟨b5,0,none⟩)],g0,by simp only[Blk.real,denL,den,g1,hlast,Option.map_some],Lies.mk (tl :=[]) rfl (by simpa using hD.dir) (fun _=>rfl) (fun h=>by cases h)⟩
    ·exact⟨r1,[.pointer (some ⟨r2.1,0,none⟩),.int .i64 s.steps],g1,by simp only[Blk.real,denL,den,g2,Option.map_some],Lies.mk (tl :=[]) rfl (by simpa using hD.way.way) (fun _=>rfl) (fun h=>by cases h)⟩
    ·exact⟨r2,[.slice (some ⟨r3.1,0,none⟩) s.m.words.length s.m.words.length,.slice (some ⟨r4.1,0,none⟩) s.m.bytes.length s.m.bytes.length],g2,by simp only[Blk.real,denL,den,g3,g4,Option.map_some],Lies.mk (tl :=[]) rfl (by simpa using hD.way.mem.mem) (fun _=>rfl) (fun h=>by cases h)⟩
    ·exact⟨r3,s.m.words.map (Value.int .u64),g3,vS _ _ _ _,Lies.mk (tl :=[]) rfl (by simpa using hD.way.mem.words) (fun _=>rfl) (fun h=>by cases h)⟩
    ·exact⟨r4,s.m.bytes.map (Value.int .u8),g4,vS _ _ _ _,Lies.mk (tl :=[]) rfl (by simpa using hD.way.mem.bytes) (fun _=>rfl) (fun h=>by cases h)⟩
    ·exact⟨(b5,0),vs,hlast,xf3 hl t1,Lies.mk (tl :=[]) rfl (by simpa using t2) (fun _=>rfl) (fun h=>by cases h)⟩
   ·rcases hc i k r hk hr with⟨a1,c1⟩|⟨a1,c1⟩<;>rcases hc j k' r' hk' hr' with⟨a2,c2⟩|⟨a2,c2⟩
    ·exact .inl ((List.getElem?_inj (by simpa using a1) hnd).1 (c1.trans ((congrArg some he).trans c2.symm)))
    ·rw[he,c2]at c1
     have hm:=List.mem_of_getElem? c1
     simp only[List.mem_cons,List.not_mem_nil,or_false]at hm
     omega
    ·rw[<- he,c1]at c2
     have hm:=List.mem_of_getElem? c2
     simp only[List.mem_cons,List.not_mem_nil,or_false]at hm
     omega
    ·exact .inl (by omega)
   ·rintro q b ⟨i,k,r,hk,hr,rfl,_⟩
    rcases hc i k r hk hr with⟨a1,c1⟩|⟨a1,c1⟩
    ·have hm:=List.mem_of_getElem? c1
     simp only[List.mem_cons,List.not_mem_nil,or_false]at hm
     unfold InD
     rcases hm with h|h|h|h|h<;>simp[h]
    ·rw[c1];exact .inr (.inr (.inr (.inr (.inr rfl))))
  ·cases hw
theorem xiu{H:Heap}{s:DS}(h:Xl H=some s):5<=H.length:=by
 obtain⟨_,⟨_,rfl⟩|⟨l,_,_,rfl⟩⟩:=xoV h<;>simp[baseD]
theorem xlz{e:Env}{H H1:Heap}{w w':World}{s s':DS}{r0 r1 r2 r3 r4:Nat×Nat}{td td':Option Nat}{v:V}{rv:Value}{F:Nat->Prop}(E:Emb NP.pv e H w)(hrd:Xl H=some s)(e0:e[0]? = some r0)(e1:e[1]? = some r1)(e2:e[2]? = some r2)(e3:e[3]? = some r3)(e4:e[4]? = some r4)
  (hown : ∀q b,InD r0.1 r1.1 r2.1 r3.1 r4.1 td b->Own q e H b) (hD':DirAt w' r0.1 r1.1 r2.1 r3.1 r4.1 td' s') (hwr:qY H.length s'=some H1) (htd : ∀b,td'=some b->td=some b\/w.heap.size<=b) (hk:Keeps (InD r0.1 r1.1 r2.1 r3.1 r4.1 td) w w') (hv : ∀e,denV NP.pv e v=some rv) :
  ∃e' F' rv',(Ending.returned rv) = .returned rv'/\Ext e e'/\denV NP.pv e' v=some rv'/\Emb NP.pv e' H1 w'/\NP.Rep () F' w'/\(∀b,Own false e' H1 b ->¬F' b)/\Keeps (fun b=>Own true e H b\/F b) w w'/\ ∀q b,Own q e' H1 b\/F' b->Own q e H b\/F b\/w.heap.size<=b:=by
 have h5:=xiu hrd
 rw[E.len]at h5 hwr
 obtain⟨e',hx,E',ho⟩:=xse h5 e0 e1 e2 e3 e4 hD' hwr
 refine⟨e',fun _=>False,rv,rfl,hx,hv e',E',fun b hb=>hb,fun b _ hb=>hb,hk.mono fun b hb =>.inl (hown _ b hb),fun q b hb =>?_⟩
 rcases hb with hb|hb
 ·rcases ho _ b hb with h|h|h|h|h|h
  ·exact .inl (hown _ b (.inl h))
  ·exact .inl (hown _ b (.inr (.inl h)))
  ·exact .inl (hown _ b (.inr (.inr (.inl h))))
  ·exact .inl (hown _ b (.inr (.inr (.inr (.inl h)))))
  ·exact .inl (hown _ b (.inr (.inr (.inr (.inr (.inl h))))))
  ·rcases htd b h with h'|h'
   ·exact .inl (hown _ b (.inr (.inr (.inr (.inr (.inr h'))))))
   ·exact .inr (.inr h')
 ·exact hb.elim
def viaD(m:Sm):Sm:=fun args H=>match args with
 | .c (.ifc t (.ptr 0 0))::rest=>if t = 27 /\ rest.all flatV=true then
   match Xl H,m (.c .port::rest) [] with
   | some s,some S=>match S.t.run yb s with
    | some (x,s')=>match S.f x with
     | some (v,[])=>match flatV v,qY H.length s' with
      | true,some H1=>some (mkS Unit (.ret ()) fun _=>some (v,H1))
      | _,_=>none
     | _=>none
    | none=>none
   | _,_=>none
  else none
 | _=>none
theorem xvH{f:FuncId}{m:Sm}(hs : ∀d wy mm wb bb,SoundF (Dir d wy mm wb bb) f m):SoundF NP f (viaD m):=by
 refine⟨(hs 0 0 0 0 0).1,?_⟩
 intro args H S hS e w s0 F vs E hv hR hF x v H' s' hrun hfx
 unfold viaD at hS
 split at hS
 ·rename_i t rest
  split at hS
  ·rename_i hc
   obtain⟨rfl,hflat⟩:=hc
   split at hS
   ·rename_i s S0 hrd hm
    split at hS
    ·rename_i x0 s1 hrun0
     split at hS
     ·rename_i v0 hf0
      split at hS
      ·rename_i H1 hfl hwr
       cases hS
       simp only[T.run,oI,Prod.mk.injEq]at hrun hfx
       obtain⟨rfl,rfl⟩:=hfx
       obtain⟨r0,r1,r2,r3,r4,td,e0,e1,e2,e3,e4,hD,hown⟩:=Vc E hrd
       have hv':allSome (denV (pvD r0.1) []) (.c .port::rest)=some vs:=by
        simp only[allSome,denV,den,e0,Option.map_some,pvD]at hv |-
        rw[Vd (pv:=NP.pv) (e:=e) hflat]
        exact hv
       obtain⟨rv,hrv⟩:=xf4 NP.pv e hfl
       refine(xoT (hs r0.1 r1.1 r2.1 r3.1 r4.1) hm hv' hD hrun0 hf0 (fun e'=>(kl hfl).trans hrv)).mono ?_
       rintro en w' ⟨rfl,⟨td',hD',htd⟩,hk⟩
       exact xlz E hrd e0 e1 e2 e3 e4 hown hD' hwr htd hk (fun e'=>(kl hfl).trans hrv)
      ·cases hS
     ·cases hS
    ·cases hS
   ·cases hS
  ·cases hS
 ·cases hS
def viaM(name:String):Sm:=fun args H=>match args with
 | .c (.ptr 0 0)::rest=>if rest.all flatV=true then
   match Xl H,popOf name rest with
   | some s,some p=>match yb p s with
    | some (x,s')=>match flatV (ansV p x),qY H.length s' with
     | true,some H1=>some (mkS Unit (.ret ()) fun _=>some (ansV p x,H1))
     | _,_=>none
    | none=>none
   | _,_=>none
  else none
 | _=>none
theorem yB {f:FuncId} {name:String} (hb : ∃fn c,(Tryz.prog).funcs[f]? = some fn/\(fn.name == "runtime.NumGoroutine")=false/\fn.body=some c) (hn : ∀d (args:List Value) w,(callMethod (pvD d) name args.toArray).run Tryz.prog w = .ok (.enter f (#[.pointer (some ⟨d,0,none⟩)]++args.toArray)) w):SoundF NP f (viaM name):=by
 refine⟨hb,?_⟩
 intro args H S hS e w s0 F vs E hv hR hF x v H' s' hrun hfx
 unfold viaM at hS
 split at hS
 ·rename_i rest
  split at hS
  ·rename_i hflat
   split at hS
   ·rename_i s p hrd hp
    split at hS
    ·rename_i x0 s1 hrun0
     split at hS
     ·rename_i H1 hfl hwr
      cases hS
      simp only[T.run,oI,Prod.mk.injEq]at hrun hfx
      obtain⟨rfl,rfl⟩:=hfx
      obtain⟨r0,r1,r2,r3,r4,td,e0,e1,e2,e3,e4,hD,hown⟩:=Vc E hrd
      simp only[allSome,denV,den,e0,Option.map_some]at hv
      split at hv
      ·rename_i us hus
       cases hv
       have hv':allSome (denV (pvD r0.1) []) rest=some us:=by rw[Vd (pv:=NP.pv) (e:=e) hflat];exact hus
       obtain⟨f',recv,rv,hm,hfv,hc⟩:=xoS (d:=r0.1) (wy:=r1.1) (mm:=r2.1) (wb:=r3.1) (bb:=r4.1) (F:=InD r0.1 r1.1 r2.1 r3.1 r4.1 td) (w:=w) hp hrun0 hv' ⟨td,hD,fun b=>Iff.rfl⟩
       have h1:=(hm w).symm.trans (hn r0.1 us w)
       simp only[Result.ok.injEq,and_true]at h1
       have h2:=Next.enter.inj h1
       obtain⟨rfl,h2⟩:=h2
       rw[h2]at hc
       have hc':Calls Tryz.prog f' (Value.pointer (some ⟨r0.1,0,none⟩)::us).toArray w fun e w'=>e = .returned rv/\ ∃F',DRep r0.1 r1.1 r2.1 r3.1 r4.1 s1 F' w'/\Keeps (InD r0.1 r1.1 r2.1 r3.1 r4.1 td) w w'/\ ∀b,F' b->InD r0.1 r1.1 r2.1 r3.1 r4.1 td b\/w.heap.size<=b:=by simpa using hc
       refine hc'.mono ?_
       rintro en w' ⟨rfl,F',⟨td',hD',hF'⟩,hk,hn'⟩
       refine xlz E hrd e0 e1 e2 e3 e4 hown hD' hwr (fun b hb =>?_) hk (fun e' =>?_)
       ·have hne:=hD'.tne b hb
        rcases hn' b ((hF' b).2 (.inr (.inr (.inr (.inr (.inr hb))))))with h|h
        ·rcases h with h|h|h|h|h|h
         ·exact absurd h hne.1
         ·exact absurd h hne.2.1
         ·exact absurd h hne.2.2.1
         ·exact absurd h hne.2.2.2.1
         ·exact absurd h hne.2.2.2.2
         ·exact .inl h
        ·exact .inr h
       ·exact(kl hfl).trans (hfv e')
      ·cases hv
     ·cases hS
    ·cases hS
   ·cases hS
  ·cases hS
 ·cases hS
end
end Go.Proofs.YtaegelbaghaooaaGreat
