/- Part. -/
import Derived.Test.YtcpekofcmogaeaaGreatMkM29
set_option linter.all false
set_option maxRecDepth 1000000
namespace Go.Proofs.YtcpekofcmogaeaaGreat.Mx
open Go Go.Conc Lx Kx Tx
variable{c:WC}{k0:List (Nat×Sm)}
noncomputable def wk1(k0:List (Nat×Sm)):List (Nat×Sm):=(86,inl Tryz.prog (xe k0) 60 Tryz.f86)::k0
theorem s_wk1(h:SoundLK (JW c) k0):SoundLK (JW c) (wk1 k0) :=.cons (xa (h) 60 (by kernel_rfl) Tryz.func86 (by kernel_rfl) (by kernel_rfl)) (h)
noncomputable def wk2(k0:List (Nat×Sm)):List (Nat×Sm):=(115,inl Tryz.prog (xe (wk1 k0)) 60 Tryz.f115)::(wk1 k0)
theorem s_wk2(h:SoundLK (JW c) k0):SoundLK (JW c) (wk2 k0) :=.cons (xa (s_wk1 h) 60 (by kernel_rfl) Tryz.func115 (by kernel_rfl) (by kernel_rfl)) (s_wk1 h)
noncomputable def wk3(k0:List (Nat×Sm)):List (Nat×Sm):=(186,inl Tryz.prog (xe (wk2 k0)) 60 Tryz.f186)::(wk2 k0)
theorem s_wk3(h:SoundLK (JW c) k0):SoundLK (JW c) (wk3 k0) :=.cons (xa (s_wk2 h) 60 (by kernel_rfl) Tryz.func186 (by kernel_rfl) (by kernel_rfl)) (s_wk2 h)
noncomputable def wk4(k0:List (Nat×Sm)):List (Nat×Sm):=(146,inl Tryz.prog (xe (wk3 k0)) 60 Tryz.f146)::(wk3 k0)
theorem s_wk4(h:SoundLK (JW c) k0):SoundLK (JW c) (wk4 k0) :=.cons (xa (s_wk3 h) 60 (by kernel_rfl) Tryz.func146 (by kernel_rfl) (by kernel_rfl)) (s_wk3 h)
noncomputable def wk5(k0:List (Nat×Sm)):List (Nat×Sm):=(108,inl Tryz.prog (xe (wk4 k0)) 60 Tryz.f108)::(wk4 k0)
theorem s_wk5(h:SoundLK (JW c) k0):SoundLK (JW c) (wk5 k0) :=.cons (xa (s_wk4 h) 60 (by kernel_rfl) Tryz.func108 (by kernel_rfl) (by kernel_rfl)) (s_wk4 h)
noncomputable def wk6(k0:List (Nat×Sm)):List (Nat×Sm):=(110,inl Tryz.prog (xe (wk5 k0)) 60 Tryz.f110)::(wk5 k0)
theorem s_wk6(h:SoundLK (JW c) k0):SoundLK (JW c) (wk6 k0) :=.cons (xa (s_wk5 h) 60 (by kernel_rfl) Tryz.func110 (by kernel_rfl) (by kernel_rfl)) (s_wk5 h)
noncomputable def wk7(k0:List (Nat×Sm)):List (Nat×Sm):=(202,inl Tryz.prog (xe (wk6 k0)) 60 Tryz.f202)::(wk6 k0)
theorem s_wk7(h:SoundLK (JW c) k0):SoundLK (JW c) (wk7 k0) :=.cons (xa (s_wk6 h) 60 (by kernel_rfl) Tryz.func202 (by kernel_rfl) (by kernel_rfl)) (s_wk6 h)
noncomputable def wk8(k0:List (Nat×Sm)):List (Nat×Sm):=(30,inl Tryz.prog (xe (wk7 k0)) 60 Tryz.f30)::(wk7 k0)
theorem s_wk8(h:SoundLK (JW c) k0):SoundLK (JW c) (wk8 k0) :=.cons (xa (s_wk7 h) 60 (by kernel_rfl) Tryz.func30 (by kernel_rfl) (by kernel_rfl)) (s_wk7 h)
noncomputable def wk9(k0:List (Nat×Sm)):List (Nat×Sm):=(150,inl Tryz.prog (xe (wk8 k0)) 60 Tryz.f150)::(wk8 k0)
theorem s_wk9(h:SoundLK (JW c) k0):SoundLK (JW c) (wk9 k0) :=.cons (xa (s_wk8 h) 60 (by kernel_rfl) Tryz.func150 (by kernel_rfl) (by kernel_rfl)) (s_wk8 h)
noncomputable def wk10(k0:List (Nat×Sm)):List (Nat×Sm):=(149,inl Tryz.prog (xe (wk9 k0)) 60 Tryz.f149)::(wk9 k0)
theorem xhw(h:SoundLK (JW c) k0):SoundLK (JW c) (wk10 k0) :=.cons (xa (s_wk9 h) 60 (by kernel_rfl) Tryz.func149 (by kernel_rfl) (by kernel_rfl)) (s_wk9 h)
noncomputable def wk11(k0:List (Nat×Sm)):List (Nat×Sm):=(213,inl Tryz.prog (xe (wk10 k0)) 60 Tryz.f213)::(wk10 k0)
theorem xhx(h:SoundLK (JW c) k0):SoundLK (JW c) (wk11 k0) :=.cons (xa (xhw h) 60 (by kernel_rfl) Tryz.func213 (by kernel_rfl) (by kernel_rfl)) (xhw h)
noncomputable def wk12(k0:List (Nat×Sm)):List (Nat×Sm):=(74,inl Tryz.prog (xe (wk11 k0)) 60 Tryz.f74)::(wk11 k0)
theorem xhy(h:SoundLK (JW c) k0):SoundLK (JW c) (wk12 k0) :=.cons (xa (xhx h) 60 (by kernel_rfl) Tryz.func74 (by kernel_rfl) (by kernel_rfl)) (xhx h)
noncomputable def wk13(k0:List (Nat×Sm)):List (Nat×Sm):=(38,inl Tryz.prog (xe (wk12 k0)) 60 Tryz.f38)::(wk12 k0)
theorem xhz(h:SoundLK (JW c) k0):SoundLK (JW c) (wk13 k0) :=.cons (xa (xhy h) 60 (by kernel_rfl) Tryz.func38 (by kernel_rfl) (by kernel_rfl)) (xhy h)
noncomputable def wk14(k0:List (Nat×Sm)):List (Nat×Sm):=(24,inl Tryz.prog (xe (wk13 k0)) 60 Tryz.f24)::(wk13 k0)
theorem xhA(h:SoundLK (JW c) k0):SoundLK (JW c) (wk14 k0) :=.cons (xa (xhz h) 60 (by kernel_rfl) Tryz.func24 (by kernel_rfl) (by kernel_rfl)) (xhz h)
noncomputable def wk15(k0:List (Nat×Sm)):List (Nat×Sm):=(155,inl Tryz.prog (xe (wk14 k0)) 60 Tryz.f155)::(wk14 k0)
theorem xhB(h:SoundLK (JW c) k0):SoundLK (JW c) (wk15 k0) :=.cons (xa (xhA h) 60 (by kernel_rfl) Tryz.func155 (by kernel_rfl) (by kernel_rfl)) (xhA h)
noncomputable def wk16(k0:List (Nat×Sm)):List (Nat×Sm):=(114,inl Tryz.prog (xe (wk15 k0)) 60 Tryz.f114)::(wk15 k0)
theorem xhC(h:SoundLK (JW c) k0):SoundLK (JW c) (wk16 k0) :=.cons (xa (xhB h) 60 (by kernel_rfl) Tryz.func114 (by kernel_rfl) (by kernel_rfl)) (xhB h)
noncomputable def wk17(k0:List (Nat×Sm)):List (Nat×Sm):=(73,inl Tryz.prog (xe (wk16 k0)) 60 Tryz.f73)::(wk16 k0)
theorem xhD(h:SoundLK (JW c) k0):SoundLK (JW c) (wk17 k0) :=.cons (xa (xhC h) 60 (by kernel_rfl) Tryz.func73 (by kernel_rfl) (by kernel_rfl)) (xhC h)
noncomputable def wk18(k0:List (Nat×Sm)):List (Nat×Sm):=(185,inl Tryz.prog (xe (wk17 k0)) 60 Tryz.f185)::(wk17 k0)
theorem xhE(h:SoundLK (JW c) k0):SoundLK (JW c) (wk18 k0) :=.cons (xa (xhD h) 60 (by kernel_rfl) Tryz.func185 (by kernel_rfl) (by kernel_rfl)) (xhD h)
noncomputable def wk19(k0:List (Nat×Sm)):List (Nat×Sm):=(190,inl Tryz.prog (xe (wk18 k0)) 60 Tryz.f190)::(wk18 k0)
theorem xhF(h:SoundLK (JW c) k0):SoundLK (JW c) (wk19 k0) :=.cons (xa (xhE h) 60 (by kernel_rfl) Tryz.func190 (by kernel_rfl) (by kernel_rfl)) (xhE h)
noncomputable def wk20(k0:List (Nat×Sm)):List (Nat×Sm):=(151,inl Tryz.prog (xe (wk19 k0)) 60 Tryz.f151)::(wk19 k0)
theorem xhG(h:SoundLK (JW c) k0):SoundLK (JW c) (wk20 k0) :=.cons (xa (xhF h) 60 (by kernel_rfl) Tryz.func151 (by kernel_rfl) (by kernel_rfl)) (xhF h)
noncomputable def wk21(k0:List (Nat×Sm)):List (Nat×Sm):=(217,inl Tryz.prog (xe (wk20 k0)) 60 Tryz.f217)::(wk20 k0)
theorem xhH(h:SoundLK (JW c) k0):SoundLK (JW c) (wk21 k0) :=.cons (xa (xhG h) 60 (by kernel_rfl) Tryz.func217 (by kernel_rfl) (by kernel_rfl)) (xhG h)
noncomputable def wk22(k0:List (Nat×Sm)):List (Nat×Sm):=(248,inl Tryz.prog (xe (wk21 k0)) 60 Tryz.f248)::(wk21 k0)
theorem xhI(h:SoundLK (JW c) k0):SoundLK (JW c) (wk22 k0) :=.cons (xa (xhH h) 60 (by kernel_rfl) Tryz.func248 (by kernel_rfl) (by kernel_rfl)) (xhH h)
noncomputable def wk23(k0:List (Nat×Sm)):List (Nat×Sm):=(191,inl Tryz.prog (xe (wk22 k0)) 60 Tryz.f191)::(wk22 k0)
theorem xhJ(h:SoundLK (JW c) k0):SoundLK (JW c) (wk23 k0) :=.cons (xa (xhI h) 60 (by kernel_rfl) Tryz.func191 (by kernel_rfl) (by kernel_rfl)) (xhI h)
noncomputable def wk24(k0:List (Nat×Sm)):List (Nat×Sm):=(249,inl Tryz.prog (xe (wk23 k0)) 60 Tryz.f249)::(wk23 k0)
theorem xhK(h:SoundLK (JW c) k0):SoundLK (JW c) (wk24 k0) :=.cons (xa (xhJ h) 60 (by kernel_rfl) Tryz.func249 (by kernel_rfl) (by kernel_rfl)) (xhJ h)
noncomputable def wk25(k0:List (Nat×Sm)):List (Nat×Sm):=(236,inl Tryz.prog (xe (wk24 k0)) 60 Tryz.f236)::(wk24 k0)
theorem xhL(h:SoundLK (JW c) k0):SoundLK (JW c) (wk25 k0) :=.cons (xa (xhK h) 60 (by kernel_rfl) Tryz.func236 (by kernel_rfl) (by kernel_rfl)) (xhK h)
noncomputable def wk26(k0:List (Nat×Sm)):List (Nat×Sm):=(250,inl Tryz.prog (xe (wk25 k0)) 60 Tryz.f250)::(wk25 k0)
theorem xhM(h:SoundLK (JW c) k0):SoundLK (JW c) (wk26 k0) :=.cons (xa (xhL h) 60 (by kernel_rfl) Tryz.func250 (by kernel_rfl) (by kernel_rfl)) (xhL h)
noncomputable def wk27(k0:List (Nat×Sm)):List (Nat×Sm):=(237,inl Tryz.prog (xe (wk26 k0)) 60 Tryz.f237)::(wk26 k0)
theorem xhN(h:SoundLK (JW c) k0):SoundLK (JW c) (wk27 k0) :=.cons (xa (xhM h) 60 (by kernel_rfl) Tryz.func237 (by kernel_rfl) (by kernel_rfl)) (xhM h)
noncomputable def wk28(k0:List (Nat×Sm)):List (Nat×Sm):=(219,inl Tryz.prog (xe (wk27 k0)) 60 Tryz.f219)::(wk27 k0)
theorem xhO(h:SoundLK (JW c) k0):SoundLK (JW c) (wk28 k0) :=.cons (xa (xhN h) 60 (by kernel_rfl) Tryz.func219 (by kernel_rfl) (by kernel_rfl)) (xhN h)
noncomputable def wk29(k0:List (Nat×Sm)):List (Nat×Sm):=(203,inl Tryz.prog (xe (wk28 k0)) 60 Tryz.f203)::(wk28 k0)
theorem xhP(h:SoundLK (JW c) k0):SoundLK (JW c) (wk29 k0) :=.cons (xa (xhO h) 60 (by kernel_rfl) Tryz.func203 (by kernel_rfl) (by kernel_rfl)) (xhO h)
noncomputable def wk30(k0:List (Nat×Sm)):List (Nat×Sm):=(142,inl Tryz.prog (xe (wk29 k0)) 60 Tryz.f142)::(wk29 k0)
theorem xhQ(h:SoundLK (JW c) k0):SoundLK (JW c) (wk30 k0) :=.cons (xa (xhP h) 60 (by kernel_rfl) Tryz.func142 (by kernel_rfl) (by kernel_rfl)) (xhP h)
noncomputable def wk31(k0:List (Nat×Sm)):List (Nat×Sm):=(143,inl Tryz.prog (xe (wk30 k0)) 60 Tryz.f143)::(wk30 k0)
theorem xhR(h:SoundLK (JW c) k0):SoundLK (JW c) (wk31 k0) :=.cons (xa (xhQ h) 60 (by kernel_rfl) Tryz.func143 (by kernel_rfl) (by kernel_rfl)) (xhQ h)
noncomputable def wk32(k0:List (Nat×Sm)):List (Nat×Sm):=(144,inl Tryz.prog (xe (wk31 k0)) 60 Tryz.f144)::(wk31 k0)
theorem xhS(h:SoundLK (JW c) k0):SoundLK (JW c) (wk32 k0) :=.cons (xa (xhR h) 60 (by kernel_rfl) Tryz.func144 (by kernel_rfl) (by kernel_rfl)) (xhR h)
noncomputable def wk33(k0:List (Nat×Sm)):List (Nat×Sm):=(101,inl Tryz.prog (xe (wk32 k0)) 60 Tryz.f101)::(wk32 k0)
theorem xhT(h:SoundLK (JW c) k0):SoundLK (JW c) (wk33 k0) :=.cons (xa (xhS h) 60 (by kernel_rfl) Tryz.func101 (by kernel_rfl) (by kernel_rfl)) (xhS h)
noncomputable def wk34(k0:List (Nat×Sm)):List (Nat×Sm):=(234,inl Tryz.prog (xe (wk33 k0)) 60 Tryz.f234)::(wk33 k0)
theorem xhU(h:SoundLK (JW c) k0):SoundLK (JW c) (wk34 k0) :=.cons (xa (xhT h) 60 (by kernel_rfl) Tryz.func234 (by kernel_rfl) (by kernel_rfl)) (xhT h)
noncomputable def wk35(k0:List (Nat×Sm)):List (Nat×Sm):=(214,inl Tryz.prog (xe (wk34 k0)) 60 Tryz.f214)::(wk34 k0)
theorem xhV(h:SoundLK (JW c) k0):SoundLK (JW c) (wk35 k0) :=.cons (xa (xhU h) 60 (by kernel_rfl) Tryz.func214 (by kernel_rfl) (by kernel_rfl)) (xhU h)
noncomputable def wk36(k0:List (Nat×Sm)):List (Nat×Sm):=(215,inl Tryz.prog (xe (wk35 k0)) 60 Tryz.f215)::(wk35 k0)
theorem xhW(h:SoundLK (JW c) k0):SoundLK (JW c) (wk36 k0) :=.cons (xa (xhV h) 60 (by kernel_rfl) Tryz.func215 (by kernel_rfl) (by kernel_rfl)) (xhV h)
noncomputable def wk37(k0:List (Nat×Sm)):List (Nat×Sm):=(187,inl Tryz.prog (xe (wk36 k0)) 60 Tryz.f187)::(wk36 k0)
theorem xhX(h:SoundLK (JW c) k0):SoundLK (JW c) (wk37 k0) :=.cons (xa (xhW h) 60 (by kernel_rfl) Tryz.func187 (by kernel_rfl) (by kernel_rfl)) (xhW h)
noncomputable def wk38(k0:List (Nat×Sm)):List (Nat×Sm):=(166,inl Tryz.prog (xe (wk37 k0)) 60 Tryz.f166)::(wk37 k0)
theorem xhY(h:SoundLK (JW c) k0):SoundLK (JW c) (wk38 k0) :=.cons (xa (xhX h) 60 (by kernel_rfl) Tryz.func166 (by kernel_rfl) (by kernel_rfl)) (xhX h)
noncomputable def wk39(k0:List (Nat×Sm)):List (Nat×Sm):=(129,inl Tryz.prog (xe (wk38 k0)) 60 Tryz.f129)::(wk38 k0)
theorem xhZ(h:SoundLK (JW c) k0):SoundLK (JW c) (wk39 k0) :=.cons (xa (xhY h) 60 (by kernel_rfl) Tryz.func129 (by kernel_rfl) (by kernel_rfl)) (xhY h)
noncomputable def wk40(k0:List (Nat×Sm)):List (Nat×Sm):=(188,inl Tryz.prog (xe (wk39 k0)) 60 Tryz.f188)::(wk39 k0)
theorem xh0(h:SoundLK (JW c) k0):SoundLK (JW c) (wk40 k0) :=.cons (xa (xhZ h) 60 (by kernel_rfl) Tryz.func188 (by kernel_rfl) (by kernel_rfl)) (xhZ h)
noncomputable def wk41(k0:List (Nat×Sm)):List (Nat×Sm):=(116,inl Tryz.prog (xe (wk40 k0)) 60 Tryz.f116)::(wk40 k0)
theorem xh1(h:SoundLK (JW c) k0):SoundLK (JW c) (wk41 k0) :=.cons (xa (xh0 h) 60 (by kernel_rfl) Tryz.func116 (by kernel_rfl) (by kernel_rfl)) (xh0 h)
noncomputable def wk42(k0:List (Nat×Sm)):List (Nat×Sm):=(117,inl Tryz.prog (xe (wk41 k0)) 60 Tryz.f117)::(wk41 k0)
theorem xh2(h:SoundLK (JW c) k0):SoundLK (JW c) (wk42 k0) :=.cons (xa (xh1 h) 60 (by kernel_rfl) Tryz.func117 (by kernel_rfl) (by kernel_rfl)) (xh1 h)
noncomputable def wk43(k0:List (Nat×Sm)):List (Nat×Sm):=(235,inl Tryz.prog (xe (wk42 k0)) 60 Tryz.f235)::(wk42 k0)
theorem xh3(h:SoundLK (JW c) k0):SoundLK (JW c) (wk43 k0) :=.cons (xa (xh2 h) 60 (by kernel_rfl) Tryz.func235 (by kernel_rfl) (by kernel_rfl)) (xh2 h)
noncomputable def wk44(k0:List (Nat×Sm)):List (Nat×Sm):=(216,inl Tryz.prog (xe (wk43 k0)) 60 Tryz.f216)::(wk43 k0)
theorem xh4(h:SoundLK (JW c) k0):SoundLK (JW c) (wk44 k0) :=.cons (xa (xh3 h) 60 (by kernel_rfl) Tryz.func216 (by kernel_rfl) (by kernel_rfl)) (xh3 h)
noncomputable def wk45(k0:List (Nat×Sm)):List (Nat×Sm):=(189,inl Tryz.prog (xe (wk44 k0)) 60 Tryz.f189)::(wk44 k0)
theorem xh5(h:SoundLK (JW c) k0):SoundLK (JW c) (wk45 k0) :=.cons (xa (xh4 h) 60 (by kernel_rfl) Tryz.func189 (by kernel_rfl) (by kernel_rfl)) (xh4 h)
noncomputable def wk46(k0:List (Nat×Sm)):List (Nat×Sm):=(147,inl Tryz.prog (xe (wk45 k0)) 60 Tryz.f147)::(wk45 k0)
theorem xh6(h:SoundLK (JW c) k0):SoundLK (JW c) (wk46 k0) :=.cons (xa (xh5 h) 60 (by kernel_rfl) Tryz.func147 (by kernel_rfl) (by kernel_rfl)) (xh5 h)
noncomputable def wk47(k0:List (Nat×Sm)):List (Nat×Sm):=(56,inl Tryz.prog (xe (wk46 k0)) 60 Tryz.f56)::(wk46 k0)
theorem xh7(h:SoundLK (JW c) k0):SoundLK (JW c) (wk47 k0) :=.cons (xa (xh6 h) 60 (by kernel_rfl) Tryz.func56 (by kernel_rfl) (by kernel_rfl)) (xh6 h)
noncomputable def wk48(k0:List (Nat×Sm)):List (Nat×Sm):=(148,inl Tryz.prog (xe (wk47 k0)) 60 Tryz.f148)::(wk47 k0)
theorem xh8(h:SoundLK (JW c) k0):SoundLK (JW c) (wk48 k0) :=.cons (xa (xh7 h) 60 (by kernel_rfl) Tryz.func148 (by kernel_rfl) (by kernel_rfl)) (xh7 h)
noncomputable def wk49(k0:List (Nat×Sm)):List (Nat×Sm):=(109,inl Tryz.prog (xe (wk48 k0)) 60 Tryz.f109)::(wk48 k0)
theorem xh9(h:SoundLK (JW c) k0):SoundLK (JW c) (wk49 k0) :=.cons (xa (xh8 h) 60 (by kernel_rfl) Tryz.func109 (by kernel_rfl) (by kernel_rfl)) (xh8 h)
noncomputable def wk50(k0:List (Nat×Sm)):List (Nat×Sm):=(210,inl Tryz.prog (xe (wk49 k0)) 60 Tryz.f210)::(wk49 k0)
theorem xia(h:SoundLK (JW c) k0):SoundLK (JW c) (wk50 k0) :=.cons (xa (xh9 h) 60 (by kernel_rfl) Tryz.func210 (by kernel_rfl) (by kernel_rfl)) (xh9 h)
noncomputable def wk51(k0:List (Nat×Sm)):List (Nat×Sm):=(211,inl Tryz.prog (xe (wk50 k0)) 60 Tryz.f211)::(wk50 k0)
theorem xib(h:SoundLK (JW c) k0):SoundLK (JW c) (wk51 k0) :=.cons (xa (xia h) 60 (by kernel_rfl) Tryz.func211 (by kernel_rfl) (by kernel_rfl)) (xia h)
noncomputable def wk52(k0:List (Nat×Sm)):List (Nat×Sm):=(238,inl Tryz.prog (xe (wk51 k0)) 60 Tryz.f238)::(wk51 k0)
theorem xic(h:SoundLK (JW c) k0):SoundLK (JW c) (wk52 k0) :=.cons (xa (xib h) 60 (by kernel_rfl) Tryz.func238 (by kernel_rfl) (by kernel_rfl)) (xib h)
noncomputable def wk53(k0:List (Nat×Sm)):List (Nat×Sm):=(220,inl Tryz.prog (xe (wk52 k0)) 60 Tryz.f220)::(wk52 k0)
theorem xid(h:SoundLK (JW c) k0):SoundLK (JW c) (wk53 k0) :=.cons (xa (xic h) 60 (by kernel_rfl) Tryz.func220 (by kernel_rfl) (by kernel_rfl)) (xic h)
noncomputable def wk54(k0:List (Nat×Sm)):List (Nat×Sm):=(228,inl Tryz.prog (xe (wk53 k0)) 60 Tryz.f228)::(wk53 k0)
theorem xie(h:SoundLK (JW c) k0):SoundLK (JW c) (wk54 k0) :=.cons (xa (xid h) 60 (by kernel_rfl) Tryz.func228 (by kernel_rfl) (by kernel_rfl)) (xid h)
noncomputable def wk55(k0:List (Nat×Sm)):List (Nat×Sm):=(204,inl Tryz.prog (xe (wk54 k0)) 60 Tryz.f204)::(wk54 k0)
theorem xif(h:SoundLK (JW c) k0):SoundLK (JW c) (wk55 k0) :=.cons (xa (xie h) 60 (by kernel_rfl) Tryz.func204 (by kernel_rfl) (by kernel_rfl)) (xie h)
noncomputable def wk56(k0:List (Nat×Sm)):List (Nat×Sm):=(242,inl Tryz.prog (xe (wk55 k0)) 60 Tryz.f242)::(wk55 k0)
theorem xig(h:SoundLK (JW c) k0):SoundLK (JW c) (wk56 k0) :=.cons (xa (xif h) 60 (by kernel_rfl) Tryz.func242 (by kernel_rfl) (by kernel_rfl)) (xif h)
noncomputable def wk57(k0:List (Nat×Sm)):List (Nat×Sm):=(243,inl Tryz.prog (xe (wk56 k0)) 60 Tryz.f243)::(wk56 k0)
theorem xih(h:SoundLK (JW c) k0):SoundLK (JW c) (wk57 k0) :=.cons (xa (xig h) 60 (by kernel_rfl) Tryz.func243 (by kernel_rfl) (by kernel_rfl)) (xig h)
noncomputable def wk58(k0:List (Nat×Sm)):List (Nat×Sm):=(244,inl Tryz.prog (xe (wk57 k0)) 60 Tryz.f244)::(wk57 k0)
theorem xii(h:SoundLK (JW c) k0):SoundLK (JW c) (wk58 k0) :=.cons (xa (xih h) 60 (by kernel_rfl) Tryz.func244 (by kernel_rfl) (by kernel_rfl)) (xih h)
noncomputable def wk59(k0:List (Nat×Sm)):List (Nat×Sm):=(229,inl Tryz.prog (xe (wk58 k0)) 60 Tryz.f229)::(wk58 k0)
theorem xij(h:SoundLK (JW c) k0):SoundLK (JW c) (wk59 k0) :=.cons (xa (xii h) 60 (by kernel_rfl) Tryz.func229 (by kernel_rfl) (by kernel_rfl)) (xii h)
noncomputable def wk60(k0:List (Nat×Sm)):List (Nat×Sm):=(205,inl Tryz.prog (xe (wk59 k0)) 60 Tryz.f205)::(wk59 k0)
theorem xik(h:SoundLK (JW c) k0):SoundLK (JW c) (wk60 k0) :=.cons (xa (xij h) 60 (by kernel_rfl) Tryz.func205 (by kernel_rfl) (by kernel_rfl)) (xij h)
noncomputable def wk61(k0:List (Nat×Sm)):List (Nat×Sm):=(221,inl Tryz.prog (xe (wk60 k0)) 60 Tryz.f221)::(wk60 k0)
theorem xil(h:SoundLK (JW c) k0):SoundLK (JW c) (wk61 k0) :=.cons (xa (xik h) 60 (by kernel_rfl) Tryz.func221 (by kernel_rfl) (by kernel_rfl)) (xik h)
noncomputable def wk62(k0:List (Nat×Sm)):List (Nat×Sm):=(222,inl Tryz.prog (xe (wk61 k0)) 60 Tryz.f222)::(wk61 k0)
theorem xim(h:SoundLK (JW c) k0):SoundLK (JW c) (wk62 k0) :=.cons (xa (xil h) 60 (by kernel_rfl) Tryz.func222 (by kernel_rfl) (by kernel_rfl)) (xil h)
noncomputable def wk63(k0:List (Nat×Sm)):List (Nat×Sm):=(197,inl Tryz.prog (xe (wk62 k0)) 60 Tryz.f197)::(wk62 k0)
theorem xin(h:SoundLK (JW c) k0):SoundLK (JW c) (wk63 k0) :=.cons (xa (xim h) 60 (by kernel_rfl) Tryz.func197 (by kernel_rfl) (by kernel_rfl)) (xim h)
noncomputable def wk64(k0:List (Nat×Sm)):List (Nat×Sm):=(200,inl Tryz.prog (xe (wk63 k0)) 60 Tryz.f200)::(wk63 k0)
theorem xio(h:SoundLK (JW c) k0):SoundLK (JW c) (wk64 k0) :=.cons (xa (xin h) 60 (by kernel_rfl) Tryz.func200 (by kernel_rfl) (by kernel_rfl)) (xin h)
noncomputable def wk65(k0:List (Nat×Sm)):List (Nat×Sm):=(156,inl Tryz.prog (xe (wk64 k0)) 60 Tryz.f156)::(wk64 k0)
theorem xip(h:SoundLK (JW c) k0):SoundLK (JW c) (wk65 k0) :=.cons (xa (xio h) 60 (by kernel_rfl) Tryz.func156 (by kernel_rfl) (by kernel_rfl)) (xio h)
noncomputable def wk66(k0:List (Nat×Sm)):List (Nat×Sm):=(118,inl Tryz.prog (xe (wk65 k0)) 60 Tryz.f118)::(wk65 k0)
theorem xiq(h:SoundLK (JW c) k0):SoundLK (JW c) (wk66 k0) :=.cons (xa (xip h) 60 (by kernel_rfl) Tryz.func118 (by kernel_rfl) (by kernel_rfl)) (xip h)
noncomputable def wk67(k0:List (Nat×Sm)):List (Nat×Sm):=(157,inl Tryz.prog (xe (wk66 k0)) 60 Tryz.f157)::(wk66 k0)
theorem xir(h:SoundLK (JW c) k0):SoundLK (JW c) (wk67 k0) :=.cons (xa (xiq h) 60 (by kernel_rfl) Tryz.func157 (by kernel_rfl) (by kernel_rfl)) (xiq h)
noncomputable def wk68(k0:List (Nat×Sm)):List (Nat×Sm):=(201,inl Tryz.prog (xe (wk67 k0)) 60 Tryz.f201)::(wk67 k0)
theorem xis(h:SoundLK (JW c) k0):SoundLK (JW c) (wk68 k0) :=.cons (xa (xir h) 60 (by kernel_rfl) Tryz.func201 (by kernel_rfl) (by kernel_rfl)) (xir h)
noncomputable def wk69(k0:List (Nat×Sm)):List (Nat×Sm):=(158,inl Tryz.prog (xe (wk68 k0)) 60 Tryz.f158)::(wk68 k0)
theorem xit(h:SoundLK (JW c) k0):SoundLK (JW c) (wk69 k0) :=.cons (xa (xis h) 60 (by kernel_rfl) Tryz.func158 (by kernel_rfl) (by kernel_rfl)) (xis h)
noncomputable def wk70(k0:List (Nat×Sm)):List (Nat×Sm):=(119,inl Tryz.prog (xe (wk69 k0)) 60 Tryz.f119)::(wk69 k0)
theorem xiu(h:SoundLK (JW c) k0):SoundLK (JW c) (wk70 k0) :=.cons (xa (xit h) 60 (by kernel_rfl) Tryz.func119 (by kernel_rfl) (by kernel_rfl)) (xit h)
noncomputable def wk71(k0:List (Nat×Sm)):List (Nat×Sm):=(77,inl Tryz.prog (xe (wk70 k0)) 60 Tryz.f77)::(wk70 k0)
theorem xiv(h:SoundLK (JW c) k0):SoundLK (JW c) (wk71 k0) :=.cons (xa (xiu h) 60 (by kernel_rfl) Tryz.func77 (by kernel_rfl) (by kernel_rfl)) (xiu h)
noncomputable def wk72(k0:List (Nat×Sm)):List (Nat×Sm):=(223,inl Tryz.prog (xe (wk71 k0)) 60 Tryz.f223)::(wk71 k0)
theorem xiw(h:SoundLK (JW c) k0):SoundLK (JW c) (wk72 k0) :=.cons (xa (xiv h) 60 (by kernel_rfl) Tryz.func223 (by kernel_rfl) (by kernel_rfl)) (xiv h)
noncomputable def wk73(k0:List (Nat×Sm)):List (Nat×Sm):=(225,inl Tryz.prog (xe (wk72 k0)) 60 Tryz.f225)::(wk72 k0)
theorem xix(h:SoundLK (JW c) k0):SoundLK (JW c) (wk73 k0) :=.cons (xa (xiw h) 60 (by kernel_rfl) Tryz.func225 (by kernel_rfl) (by kernel_rfl)) (xiw h)
noncomputable def wk74(k0:List (Nat×Sm)):List (Nat×Sm):=(246,inl Tryz.prog (xe (wk73 k0)) 60 Tryz.f246)::(wk73 k0)
theorem xiy(h:SoundLK (JW c) k0):SoundLK (JW c) (wk74 k0) :=.cons (xa (xix h) 60 (by kernel_rfl) Tryz.func246 (by kernel_rfl) (by kernel_rfl)) (xix h)
noncomputable def wk75(k0:List (Nat×Sm)):List (Nat×Sm):=(231,inl Tryz.prog (xe (wk74 k0)) 60 Tryz.f231)::(wk74 k0)
theorem xiz(h:SoundLK (JW c) k0):SoundLK (JW c) (wk75 k0) :=.cons (xa (xiy h) 60 (by kernel_rfl) Tryz.func231 (by kernel_rfl) (by kernel_rfl)) (xiy h)
noncomputable def wk76(k0:List (Nat×Sm)):List (Nat×Sm):=(207,inl Tryz.prog (xe (wk75 k0)) 60 Tryz.f207)::(wk75 k0)
theorem xiA(h:SoundLK (JW c) k0):SoundLK (JW c) (wk76 k0) :=.cons (xa (xiz h) 60 (by kernel_rfl) Tryz.func207 (by kernel_rfl) (by kernel_rfl)) (xiz h)
noncomputable def wk77(k0:List (Nat×Sm)):List (Nat×Sm):=(245,inl Tryz.prog (xe (wk76 k0)) 60 Tryz.f245)::(wk76 k0)
theorem xiB(h:SoundLK (JW c) k0):SoundLK (JW c) (wk77 k0) :=.cons (xa (xiA h) 60 (by kernel_rfl) Tryz.func245 (by kernel_rfl) (by kernel_rfl)) (xiA h)
noncomputable def wk78(k0:List (Nat×Sm)):List (Nat×Sm):=(230,inl Tryz.prog (xe (wk77 k0)) 60 Tryz.f230)::(wk77 k0)
theorem xiC(h:SoundLK (JW c) k0):SoundLK (JW c) (wk78 k0) :=.cons (xa (xiB h) 60 (by kernel_rfl) Tryz.func230 (by kernel_rfl) (by kernel_rfl)) (xiB h)
noncomputable def wk79(k0:List (Nat×Sm)):List (Nat×Sm):=(206,inl Tryz.prog (xe (wk78 k0)) 60 Tryz.f206)::(wk78 k0)
theorem xiD(h:SoundLK (JW c) k0):SoundLK (JW c) (wk79 k0) :=.cons (xa (xiC h) 60 (by kernel_rfl) Tryz.func206 (by kernel_rfl) (by kernel_rfl)) (xiC h)
noncomputable def wk80(k0:List (Nat×Sm)):List (Nat×Sm):=(164,inl Tryz.prog (xe (wk79 k0)) 60 Tryz.f164)::(wk79 k0)
theorem xiE(h:SoundLK (JW c) k0):SoundLK (JW c) (wk80 k0) :=.cons (xa (xiD h) 60 (by kernel_rfl) Tryz.func164 (by kernel_rfl) (by kernel_rfl)) (xiD h)
noncomputable def wk81(k0:List (Nat×Sm)):List (Nat×Sm):=(163,inl Tryz.prog (xe (wk80 k0)) 60 Tryz.f163)::(wk80 k0)
theorem xiF(h:SoundLK (JW c) k0):SoundLK (JW c) (wk81 k0) :=.cons (xa (xiE h) 60 (by kernel_rfl) Tryz.func163 (by kernel_rfl) (by kernel_rfl)) (xiE h)
noncomputable def wk82(k0:List (Nat×Sm)):List (Nat×Sm):=(165,inl Tryz.prog (xe (wk81 k0)) 60 Tryz.f165)::(wk81 k0)
theorem xiG(h:SoundLK (JW c) k0):SoundLK (JW c) (wk82 k0) :=.cons (xa (xiF h) 60 (by kernel_rfl) Tryz.func165 (by kernel_rfl) (by kernel_rfl)) (xiF h)
noncomputable def wk83(k0:List (Nat×Sm)):List (Nat×Sm):=(239,inl Tryz.prog (xe (wk82 k0)) 60 Tryz.f239)::(wk82 k0)
theorem xiH(h:SoundLK (JW c) k0):SoundLK (JW c) (wk83 k0) :=.cons (xa (xiG h) 60 (by kernel_rfl) Tryz.func239 (by kernel_rfl) (by kernel_rfl)) (xiG h)
noncomputable def wk84(k0:List (Nat×Sm)):List (Nat×Sm):=(240,inl Tryz.prog (xe (wk83 k0)) 60 Tryz.f240)::(wk83 k0)
theorem xiI(h:SoundLK (JW c) k0):SoundLK (JW c) (wk84 k0) :=.cons (xa (xiH h) 60 (by kernel_rfl) Tryz.func240 (by kernel_rfl) (by kernel_rfl)) (xiH h)
noncomputable def wk85(k0:List (Nat×Sm)):List (Nat×Sm):=(241,inl Tryz.prog (xe (wk84 k0)) 60 Tryz.f241)::(wk84 k0)
theorem xiJ(h:SoundLK (JW c) k0):SoundLK (JW c) (wk85 k0) :=.cons (xa (xiI h) 60 (by kernel_rfl) Tryz.func241 (by kernel_rfl) (by kernel_rfl)) (xiI h)
noncomputable def wk86(k0:List (Nat×Sm)):List (Nat×Sm):=(224,inl Tryz.prog (xe (wk85 k0)) 60 Tryz.f224)::(wk85 k0)
theorem xiK(h:SoundLK (JW c) k0):SoundLK (JW c) (wk86 k0) :=.cons (xa (xiJ h) 60 (by kernel_rfl) Tryz.func224 (by kernel_rfl) (by kernel_rfl)) (xiJ h)
noncomputable def wk87(k0:List (Nat×Sm)):List (Nat×Sm):=(198,inl Tryz.prog (xe (wk86 k0)) 60 Tryz.f198)::(wk86 k0)
theorem xiL(h:SoundLK (JW c) k0):SoundLK (JW c) (wk87 k0) :=.cons (xa (xiK h) 60 (by kernel_rfl) Tryz.func198 (by kernel_rfl) (by kernel_rfl)) (xiK h)
noncomputable def wk88(k0:List (Nat×Sm)):List (Nat×Sm):=(168,inl Tryz.prog (xe (wk87 k0)) 60 Tryz.f168)::(wk87 k0)
theorem xiM(h:SoundLK (JW c) k0):SoundLK (JW c) (wk88 k0) :=.cons (xa (xiL h) 60 (by kernel_rfl) Tryz.func168 (by kernel_rfl) (by kernel_rfl)) (xiL h)
noncomputable def wk89(k0:List (Nat×Sm)):List (Nat×Sm):=(167,inl Tryz.prog (xe (wk88 k0)) 60 Tryz.f167)::(wk88 k0)
theorem xiN(h:SoundLK (JW c) k0):SoundLK (JW c) (wk89 k0) :=.cons (xa (xiM h) 60 (by kernel_rfl) Tryz.func167 (by kernel_rfl) (by kernel_rfl)) (xiM h)
noncomputable def wk90(k0:List (Nat×Sm)):List (Nat×Sm):=(169,inl Tryz.prog (xe (wk89 k0)) 60 Tryz.f169)::(wk89 k0)
theorem xiO(h:SoundLK (JW c) k0):SoundLK (JW c) (wk90 k0) :=.cons (xa (xiN h) 60 (by kernel_rfl) Tryz.func169 (by kernel_rfl) (by kernel_rfl)) (xiN h)
noncomputable def wk91(k0:List (Nat×Sm)):List (Nat×Sm):=(106,inl Tryz.prog (xe (wk90 k0)) 60 Tryz.f106)::(wk90 k0)
theorem xiP(h:SoundLK (JW c) k0):SoundLK (JW c) (wk91 k0) :=.cons (xa (xiO h) 60 (by kernel_rfl) Tryz.func106 (by kernel_rfl) (by kernel_rfl)) (xiO h)
noncomputable def wk92(k0:List (Nat×Sm)):List (Nat×Sm):=(113,inl Tryz.prog (xe (wk91 k0)) 60 Tryz.f113)::(wk91 k0)
theorem xiQ(h:SoundLK (JW c) k0):SoundLK (JW c) (wk92 k0) :=.cons (xa (xiP h) 60 (by kernel_rfl) Tryz.func113 (by kernel_rfl) (by kernel_rfl)) (xiP h)
noncomputable def wk93(k0:List (Nat×Sm)):List (Nat×Sm):=(125,inl Tryz.prog (xe (wk92 k0)) 60 Tryz.f125)::(wk92 k0)
theorem xiR(h:SoundLK (JW c) k0):SoundLK (JW c) (wk93 k0) :=.cons (xa (xiQ h) 60 (by kernel_rfl) Tryz.func125 (by kernel_rfl) (by kernel_rfl)) (xiQ h)
noncomputable def wk94(k0:List (Nat×Sm)):List (Nat×Sm):=(87,inl Tryz.prog (xe (wk93 k0)) 60 Tryz.f87)::(wk93 k0)
theorem xiS(h:SoundLK (JW c) k0):SoundLK (JW c) (wk94 k0) :=.cons (xa (xiR h) 60 (by kernel_rfl) Tryz.func87 (by kernel_rfl) (by kernel_rfl)) (xiR h)
noncomputable def wk95(k0:List (Nat×Sm)):List (Nat×Sm):=(88,inl Tryz.prog (xe (wk94 k0)) 60 Tryz.f88)::(wk94 k0)
theorem xiT(h:SoundLK (JW c) k0):SoundLK (JW c) (wk95 k0) :=.cons (xa (xiS h) 60 (by kernel_rfl) Tryz.func88 (by kernel_rfl) (by kernel_rfl)) (xiS h)
noncomputable def wk96(k0:List (Nat×Sm)):List (Nat×Sm):=(89,inl Tryz.prog (xe (wk95 k0)) 60 Tryz.f89)::(wk95 k0)
theorem xiU(h:SoundLK (JW c) k0):SoundLK (JW c) (wk96 k0) :=.cons (xa (xiT h) 60 (by kernel_rfl) Tryz.func89 (by kernel_rfl) (by kernel_rfl)) (xiT h)
noncomputable def wk97(k0:List (Nat×Sm)):List (Nat×Sm):=(90,inl Tryz.prog (xe (wk96 k0)) 60 Tryz.f90)::(wk96 k0)
theorem xiV(h:SoundLK (JW c) k0):SoundLK (JW c) (wk97 k0) :=.cons (xa (xiU h) 60 (by kernel_rfl) Tryz.func90 (by kernel_rfl) (by kernel_rfl)) (xiU h)
noncomputable def wk98(k0:List (Nat×Sm)):List (Nat×Sm):=(57,inl Tryz.prog (xe (wk97 k0)) 60 Tryz.f57)::(wk97 k0)
theorem xiW(h:SoundLK (JW c) k0):SoundLK (JW c) (wk98 k0) :=.cons (xa (xiV h) 60 (by kernel_rfl) Tryz.func57 (by kernel_rfl) (by kernel_rfl)) (xiV h)
noncomputable def wk99(k0:List (Nat×Sm)):List (Nat×Sm):=(91,inl Tryz.prog (xe (wk98 k0)) 60 Tryz.f91)::(wk98 k0)
theorem xiX(h:SoundLK (JW c) k0):SoundLK (JW c) (wk99 k0) :=.cons (xa (xiW h) 60 (by kernel_rfl) Tryz.func91 (by kernel_rfl) (by kernel_rfl)) (xiW h)
noncomputable def wk100(k0:List (Nat×Sm)):List (Nat×Sm):=(92,inl Tryz.prog (xe (wk99 k0)) 60 Tryz.f92)::(wk99 k0)
theorem xc2(h:SoundLK (JW c) k0):SoundLK (JW c) (wk100 k0) :=.cons (xa (xiX h) 60 (by kernel_rfl) Tryz.func92 (by kernel_rfl) (by kernel_rfl)) (xiX h)
noncomputable def wk101(k0:List (Nat×Sm)):List (Nat×Sm):=(126,inl Tryz.prog (xe (wk100 k0)) 60 Tryz.f126)::(wk100 k0)
theorem xc3(h:SoundLK (JW c) k0):SoundLK (JW c) (wk101 k0) :=.cons (xa (xc2 h) 60 (by kernel_rfl) Tryz.func126 (by kernel_rfl) (by kernel_rfl)) (xc2 h)
noncomputable def wk102(k0:List (Nat×Sm)):List (Nat×Sm):=(159,inl Tryz.prog (xe (wk101 k0)) 60 Tryz.f159)::(wk101 k0)
theorem xc4(h:SoundLK (JW c) k0):SoundLK (JW c) (wk102 k0) :=.cons (xa (xc3 h) 60 (by kernel_rfl) Tryz.func159 (by kernel_rfl) (by kernel_rfl)) (xc3 h)
noncomputable def wk103(k0:List (Nat×Sm)):List (Nat×Sm):=(127,inl Tryz.prog (xe (wk102 k0)) 60 Tryz.f127)::(wk102 k0)
theorem xc5(h:SoundLK (JW c) k0):SoundLK (JW c) (wk103 k0) :=.cons (xa (xc4 h) 60 (by kernel_rfl) Tryz.func127 (by kernel_rfl) (by kernel_rfl)) (xc4 h)
noncomputable def wk104(k0:List (Nat×Sm)):List (Nat×Sm):=(145,inl Tryz.prog (xe (wk103 k0)) 60 Tryz.f145)::(wk103 k0)
theorem xc6(h:SoundLK (JW c) k0):SoundLK (JW c) (wk104 k0) :=.cons (xa (xc5 h) 60 (by kernel_rfl) Tryz.func145 (by kernel_rfl) (by kernel_rfl)) (xc5 h)
noncomputable def wk105(k0:List (Nat×Sm)):List (Nat×Sm):=(107,inl Tryz.prog (xe (wk104 k0)) 60 Tryz.f107)::(wk104 k0)
theorem xc7(h:SoundLK (JW c) k0):SoundLK (JW c) (wk105 k0) :=.cons (xa (xc6 h) 60 (by kernel_rfl) Tryz.func107 (by kernel_rfl) (by kernel_rfl)) (xc6 h)
noncomputable def wk106(k0:List (Nat×Sm)):List (Nat×Sm):=(160,inl Tryz.prog (xe (wk105 k0)) 60 Tryz.f160)::(wk105 k0)
theorem xc8(h:SoundLK (JW c) k0):SoundLK (JW c) (wk106 k0) :=.cons (xa (xc7 h) 60 (by kernel_rfl) Tryz.func160 (by kernel_rfl) (by kernel_rfl)) (xc7 h)
noncomputable def wk107(k0:List (Nat×Sm)):List (Nat×Sm):=(161,inl Tryz.prog (xe (wk106 k0)) 60 Tryz.f161)::(wk106 k0)
theorem xc9(h:SoundLK (JW c) k0):SoundLK (JW c) (wk107 k0) :=.cons (xa (xc8 h) 60 (by kernel_rfl) Tryz.func161 (by kernel_rfl) (by kernel_rfl)) (xc8 h)
noncomputable def wk108(k0:List (Nat×Sm)):List (Nat×Sm):=(194,inl Tryz.prog (xe (wk107 k0)) 60 Tryz.f194)::(wk107 k0)
theorem xda(h:SoundLK (JW c) k0):SoundLK (JW c) (wk108 k0) :=.cons (xa (xc9 h) 60 (by kernel_rfl) Tryz.func194 (by kernel_rfl) (by kernel_rfl)) (xc9 h)
noncomputable def wk109(k0:List (Nat×Sm)):List (Nat×Sm):=(195,inl Tryz.prog (xe (wk108 k0)) 60 Tryz.f195)::(wk108 k0)
theorem xdb(h:SoundLK (JW c) k0):SoundLK (JW c) (wk109 k0) :=.cons (xa (xda h) 60 (by kernel_rfl) Tryz.func195 (by kernel_rfl) (by kernel_rfl)) (xda h)
noncomputable def wk110(k0:List (Nat×Sm)):List (Nat×Sm):=(196,inl Tryz.prog (xe (wk109 k0)) 60 Tryz.f196)::(wk109 k0)
theorem xdc(h:SoundLK (JW c) k0):SoundLK (JW c) (wk110 k0) :=.cons (xa (xdb h) 60 (by kernel_rfl) Tryz.func196 (by kernel_rfl) (by kernel_rfl)) (xdb h)
noncomputable def wk111(k0:List (Nat×Sm)):List (Nat×Sm):=(226,inl Tryz.prog (xe (wk110 k0)) 60 Tryz.f226)::(wk110 k0)
theorem xdd(h:SoundLK (JW c) k0):SoundLK (JW c) (wk111 k0) :=.cons (xa (xdc h) 60 (by kernel_rfl) Tryz.func226 (by kernel_rfl) (by kernel_rfl)) (xdc h)
noncomputable def wk112(k0:List (Nat×Sm)):List (Nat×Sm):=(227,inl Tryz.prog (xe (wk111 k0)) 60 Tryz.f227)::(wk111 k0)
theorem xde(h:SoundLK (JW c) k0):SoundLK (JW c) (wk112 k0) :=.cons (xa (xdd h) 60 (by kernel_rfl) Tryz.func227 (by kernel_rfl) (by kernel_rfl)) (xdd h)
noncomputable def wk113(k0:List (Nat×Sm)):List (Nat×Sm):=(199,inl Tryz.prog (xe (wk112 k0)) 60 Tryz.f199)::(wk112 k0)
theorem xdf(h:SoundLK (JW c) k0):SoundLK (JW c) (wk113 k0) :=.cons (xa (xde h) 60 (by kernel_rfl) Tryz.func199 (by kernel_rfl) (by kernel_rfl)) (xde h)
noncomputable def wk114(k0:List (Nat×Sm)):List (Nat×Sm):=(154,inl Tryz.prog (xe (wk113 k0)) 60 Tryz.f154)::(wk113 k0)
theorem xdg(h:SoundLK (JW c) k0):SoundLK (JW c) (wk114 k0) :=.cons (xa (xdf h) 60 (by kernel_rfl) Tryz.func154 (by kernel_rfl) (by kernel_rfl)) (xdf h)
noncomputable def wk115(k0:List (Nat×Sm)):List (Nat×Sm):=(162,inl Tryz.prog (xe (wk114 k0)) 60 Tryz.f162)::(wk114 k0)
theorem xdh(h:SoundLK (JW c) k0):SoundLK (JW c) (wk115 k0) :=.cons (xa (xdg h) 60 (by kernel_rfl) Tryz.func162 (by kernel_rfl) (by kernel_rfl)) (xdg h)
noncomputable def wk116(k0:List (Nat×Sm)):List (Nat×Sm):=(128,inl Tryz.prog (xe (wk115 k0)) 60 Tryz.f128)::(wk115 k0)
theorem xdi(h:SoundLK (JW c) k0):SoundLK (JW c) (wk116 k0) :=.cons (xa (xdh h) 60 (by kernel_rfl) Tryz.func128 (by kernel_rfl) (by kernel_rfl)) (xdh h)
noncomputable def wk117(k0:List (Nat×Sm)):List (Nat×Sm):=(130,inl Tryz.prog (xe (wk116 k0)) 60 Tryz.f130)::(wk116 k0)
theorem xdj(h:SoundLK (JW c) k0):SoundLK (JW c) (wk117 k0) :=.cons (xa (xdi h) 60 (by kernel_rfl) Tryz.func130 (by kernel_rfl) (by kernel_rfl)) (xdi h)
noncomputable def wk118(k0:List (Nat×Sm)):List (Nat×Sm):=(131,inl Tryz.prog (xe (wk117 k0)) 60 Tryz.f131)::(wk117 k0)
theorem xdk(h:SoundLK (JW c) k0):SoundLK (JW c) (wk118 k0) :=.cons (xa (xdj h) 60 (by kernel_rfl) Tryz.func131 (by kernel_rfl) (by kernel_rfl)) (xdj h)
noncomputable def wk119(k0:List (Nat×Sm)):List (Nat×Sm):=(93,inl Tryz.prog (xe (wk118 k0)) 60 Tryz.f93)::(wk118 k0)
theorem xdl(h:SoundLK (JW c) k0):SoundLK (JW c) (wk119 k0) :=.cons (xa (xdk h) 60 (by kernel_rfl) Tryz.func93 (by kernel_rfl) (by kernel_rfl)) (xdk h)
noncomputable def wk120(k0:List (Nat×Sm)):List (Nat×Sm):=(102,inl Tryz.prog (xe (wk119 k0)) 60 Tryz.f102)::(wk119 k0)
theorem xdm(h:SoundLK (JW c) k0):SoundLK (JW c) (wk120 k0) :=.cons (xa (xdl h) 60 (by kernel_rfl) Tryz.func102 (by kernel_rfl) (by kernel_rfl)) (xdl h)
noncomputable def wk121(k0:List (Nat×Sm)):List (Nat×Sm):=(103,inl Tryz.prog (xe (wk120 k0)) 60 Tryz.f103)::(wk120 k0)
theorem xdn(h:SoundLK (JW c) k0):SoundLK (JW c) (wk121 k0) :=.cons (xa (xdm h) 60 (by kernel_rfl) Tryz.func103 (by kernel_rfl) (by kernel_rfl)) (xdm h)
noncomputable def wk122(k0:List (Nat×Sm)):List (Nat×Sm):=(208,inl Tryz.prog (xe (wk121 k0)) 60 Tryz.f208)::(wk121 k0)
theorem xdo(h:SoundLK (JW c) k0):SoundLK (JW c) (wk122 k0) :=.cons (xa (xdn h) 60 (by kernel_rfl) Tryz.func208 (by kernel_rfl) (by kernel_rfl)) (xdn h)
noncomputable def wk123(k0:List (Nat×Sm)):List (Nat×Sm):=(170,inl Tryz.prog (xe (wk122 k0)) 60 Tryz.f170)::(wk122 k0)
theorem xdp(h:SoundLK (JW c) k0):SoundLK (JW c) (wk123 k0) :=.cons (xa (xdo h) 60 (by kernel_rfl) Tryz.func170 (by kernel_rfl) (by kernel_rfl)) (xdo h)
noncomputable def wk124(k0:List (Nat×Sm)):List (Nat×Sm):=(171,inl Tryz.prog (xe (wk123 k0)) 60 Tryz.f171)::(wk123 k0)
theorem xdq(h:SoundLK (JW c) k0):SoundLK (JW c) (wk124 k0) :=.cons (xa (xdp h) 60 (by kernel_rfl) Tryz.func171 (by kernel_rfl) (by kernel_rfl)) (xdp h)
noncomputable def wk125(k0:List (Nat×Sm)):List (Nat×Sm):=(132,inl Tryz.prog (xe (wk124 k0)) 60 Tryz.f132)::(wk124 k0)
theorem xdr(h:SoundLK (JW c) k0):SoundLK (JW c) (wk125 k0) :=.cons (xa (xdq h) 60 (by kernel_rfl) Tryz.func132 (by kernel_rfl) (by kernel_rfl)) (xdq h)
noncomputable def wk126(k0:List (Nat×Sm)):List (Nat×Sm):=(94,inl Tryz.prog (xe (wk125 k0)) 60 Tryz.f94)::(wk125 k0)
theorem xds(h:SoundLK (JW c) k0):SoundLK (JW c) (wk126 k0) :=.cons (xa (xdr h) 60 (by kernel_rfl) Tryz.func94 (by kernel_rfl) (by kernel_rfl)) (xdr h)
noncomputable def wk127(k0:List (Nat×Sm)):List (Nat×Sm):=(60,inl Tryz.prog (xe (wk126 k0)) 60 Tryz.f60)::(wk126 k0)
theorem xdt(h:SoundLK (JW c) k0):SoundLK (JW c) (wk127 k0) :=.cons (xa (xds h) 60 (by kernel_rfl) Tryz.func60 (by kernel_rfl) (by kernel_rfl)) (xds h)
noncomputable def wk128(k0:List (Nat×Sm)):List (Nat×Sm):=(58,inl Tryz.prog (xe (wk127 k0)) 60 Tryz.f58)::(wk127 k0)
theorem xdu(h:SoundLK (JW c) k0):SoundLK (JW c) (wk128 k0) :=.cons (xa (xdt h) 60 (by kernel_rfl) Tryz.func58 (by kernel_rfl) (by kernel_rfl)) (xdt h)
noncomputable def wk129(k0:List (Nat×Sm)):List (Nat×Sm):=(59,inl Tryz.prog (xe (wk128 k0)) 60 Tryz.f59)::(wk128 k0)
theorem xdv(h:SoundLK (JW c) k0):SoundLK (JW c) (wk129 k0) :=.cons (xa (xdu h) 60 (by kernel_rfl) Tryz.func59 (by kernel_rfl) (by kernel_rfl)) (xdu h)
noncomputable def wk130(k0:List (Nat×Sm)):List (Nat×Sm):=(133,inl Tryz.prog (xe (wk129 k0)) 60 Tryz.f133)::(wk129 k0)
theorem xdw(h:SoundLK (JW c) k0):SoundLK (JW c) (wk130 k0) :=.cons (xa (xdv h) 60 (by kernel_rfl) Tryz.func133 (by kernel_rfl) (by kernel_rfl)) (xdv h)
noncomputable def wk131(k0:List (Nat×Sm)):List (Nat×Sm):=(134,inl Tryz.prog (xe (wk130 k0)) 60 Tryz.f134)::(wk130 k0)
theorem xdx(h:SoundLK (JW c) k0):SoundLK (JW c) (wk131 k0) :=.cons (xa (xdw h) 60 (by kernel_rfl) Tryz.func134 (by kernel_rfl) (by kernel_rfl)) (xdw h)
noncomputable def wk132(k0:List (Nat×Sm)):List (Nat×Sm):=(172,inl Tryz.prog (xe (wk131 k0)) 60 Tryz.f172)::(wk131 k0)
theorem xdy(h:SoundLK (JW c) k0):SoundLK (JW c) (wk132 k0) :=.cons (xa (xdx h) 60 (by kernel_rfl) Tryz.func172 (by kernel_rfl) (by kernel_rfl)) (xdx h)
noncomputable def wk133(k0:List (Nat×Sm)):List (Nat×Sm):=(173,inl Tryz.prog (xe (wk132 k0)) 60 Tryz.f173)::(wk132 k0)
theorem xdz(h:SoundLK (JW c) k0):SoundLK (JW c) (wk133 k0) :=.cons (xa (xdy h) 60 (by kernel_rfl) Tryz.func173 (by kernel_rfl) (by kernel_rfl)) (xdy h)
noncomputable def wk134(k0:List (Nat×Sm)):List (Nat×Sm):=(135,inl Tryz.prog (xe (wk133 k0)) 60 Tryz.f135)::(wk133 k0)
theorem xdA(h:SoundLK (JW c) k0):SoundLK (JW c) (wk134 k0) :=.cons (xa (xdz h) 60 (by kernel_rfl) Tryz.func135 (by kernel_rfl) (by kernel_rfl)) (xdz h)
noncomputable def wk135(k0:List (Nat×Sm)):List (Nat×Sm):=(180,inl Tryz.prog (xe (wk134 k0)) 60 Tryz.f180)::(wk134 k0)
theorem xdB(h:SoundLK (JW c) k0):SoundLK (JW c) (wk135 k0) :=.cons (xa (xdA h) 60 (by kernel_rfl) Tryz.func180 (by kernel_rfl) (by kernel_rfl)) (xdA h)
noncomputable def wk136(k0:List (Nat×Sm)):List (Nat×Sm):=(181,inl Tryz.prog (xe (wk135 k0)) 60 Tryz.f181)::(wk135 k0)
theorem xdC(h:SoundLK (JW c) k0):SoundLK (JW c) (wk136 k0) :=.cons (xa (xdB h) 60 (by kernel_rfl) Tryz.func181 (by kernel_rfl) (by kernel_rfl)) (xdB h)
noncomputable def wk137(k0:List (Nat×Sm)):List (Nat×Sm):=(182,inl Tryz.prog (xe (wk136 k0)) 60 Tryz.f182)::(wk136 k0)
theorem xdD(h:SoundLK (JW c) k0):SoundLK (JW c) (wk137 k0) :=.cons (xa (xdC h) 60 (by kernel_rfl) Tryz.func182 (by kernel_rfl) (by kernel_rfl)) (xdC h)
noncomputable def wk138(k0:List (Nat×Sm)):List (Nat×Sm):=(183,inl Tryz.prog (xe (wk137 k0)) 60 Tryz.f183)::(wk137 k0)
theorem xdE(h:SoundLK (JW c) k0):SoundLK (JW c) (wk138 k0) :=.cons (xa (xdD h) 60 (by kernel_rfl) Tryz.func183 (by kernel_rfl) (by kernel_rfl)) (xdD h)
noncomputable def wk139(k0:List (Nat×Sm)):List (Nat×Sm):=(232,inl Tryz.prog (xe (wk138 k0)) 60 Tryz.f232)::(wk138 k0)
theorem xdF(h:SoundLK (JW c) k0):SoundLK (JW c) (wk139 k0) :=.cons (xa (xdE h) 60 (by kernel_rfl) Tryz.func232 (by kernel_rfl) (by kernel_rfl)) (xdE h)
noncomputable def wk140(k0:List (Nat×Sm)):List (Nat×Sm):=(75,inl Tryz.prog (xe (wk139 k0)) 60 Tryz.f75)::(wk139 k0)
theorem xdG(h:SoundLK (JW c) k0):SoundLK (JW c) (wk140 k0) :=.cons (xa (xdF h) 60 (by kernel_rfl) Tryz.func75 (by kernel_rfl) (by kernel_rfl)) (xdF h)
noncomputable def wk141(k0:List (Nat×Sm)):List (Nat×Sm):=(76,inl Tryz.prog (xe (wk140 k0)) 60 Tryz.f76)::(wk140 k0)
theorem xdH(h:SoundLK (JW c) k0):SoundLK (JW c) (wk141 k0) :=.cons (xa (xdG h) 60 (by kernel_rfl) Tryz.func76 (by kernel_rfl) (by kernel_rfl)) (xdG h)
noncomputable def wk142(k0:List (Nat×Sm)):List (Nat×Sm):=(247,inl Tryz.prog (xe (wk141 k0)) 60 Tryz.f247)::(wk141 k0)
theorem xdI(h:SoundLK (JW c) k0):SoundLK (JW c) (wk142 k0) :=.cons (xa (xdH h) 60 (by kernel_rfl) Tryz.func247 (by kernel_rfl) (by kernel_rfl)) (xdH h)
noncomputable def wk143(k0:List (Nat×Sm)):List (Nat×Sm):=(233,inl Tryz.prog (xe (wk142 k0)) 60 Tryz.f233)::(wk142 k0)
theorem xdJ(h:SoundLK (JW c) k0):SoundLK (JW c) (wk143 k0) :=.cons (xa (xdI h) 60 (by kernel_rfl) Tryz.func233 (by kernel_rfl) (by kernel_rfl)) (xdI h)
noncomputable def wk144(k0:List (Nat×Sm)):List (Nat×Sm):=(212,inl Tryz.prog (xe (wk143 k0)) 60 Tryz.f212)::(wk143 k0)
theorem xdK(h:SoundLK (JW c) k0):SoundLK (JW c) (wk144 k0) :=.cons (xa (xdJ h) 60 (by kernel_rfl) Tryz.func212 (by kernel_rfl) (by kernel_rfl)) (xdJ h)
noncomputable def wk145(k0:List (Nat×Sm)):List (Nat×Sm):=(184,inl Tryz.prog (xe (wk144 k0)) 60 Tryz.f184)::(wk144 k0)
theorem xdL(h:SoundLK (JW c) k0):SoundLK (JW c) (wk145 k0) :=.cons (xa (xdK h) 60 (by kernel_rfl) Tryz.func184 (by kernel_rfl) (by kernel_rfl)) (xdK h)
noncomputable def wk146(k0:List (Nat×Sm)):List (Nat×Sm):=(141,inl Tryz.prog (xe (wk145 k0)) 60 Tryz.f141)::(wk145 k0)
theorem xdM(h:SoundLK (JW c) k0):SoundLK (JW c) (wk146 k0) :=.cons (xa (xdL h) 60 (by kernel_rfl) Tryz.func141 (by kernel_rfl) (by kernel_rfl)) (xdL h)
noncomputable def wk147(k0:List (Nat×Sm)):List (Nat×Sm):=(136,inl Tryz.prog (xe (wk146 k0)) 60 Tryz.f136)::(wk146 k0)
theorem xdN(h:SoundLK (JW c) k0):SoundLK (JW c) (wk147 k0) :=.cons (xa (xdM h) 60 (by kernel_rfl) Tryz.func136 (by kernel_rfl) (by kernel_rfl)) (xdM h)
noncomputable def wk148(k0:List (Nat×Sm)):List (Nat×Sm):=(137,inl Tryz.prog (xe (wk147 k0)) 60 Tryz.f137)::(wk147 k0)
theorem xdO(h:SoundLK (JW c) k0):SoundLK (JW c) (wk148 k0) :=.cons (xa (xdN h) 60 (by kernel_rfl) Tryz.func137 (by kernel_rfl) (by kernel_rfl)) (xdN h)
noncomputable def wk149(k0:List (Nat×Sm)):List (Nat×Sm):=(174,inl Tryz.prog (xe (wk148 k0)) 60 Tryz.f174)::(wk148 k0)
theorem xdP(h:SoundLK (JW c) k0):SoundLK (JW c) (wk149 k0) :=.cons (xa (xdO h) 60 (by kernel_rfl) Tryz.func174 (by kernel_rfl) (by kernel_rfl)) (xdO h)
noncomputable def wk150(k0:List (Nat×Sm)):List (Nat×Sm):=(138,inl Tryz.prog (xe (wk149 k0)) 60 Tryz.f138)::(wk149 k0)
theorem xdQ(h:SoundLK (JW c) k0):SoundLK (JW c) (wk150 k0) :=.cons (xa (xdP h) 60 (by kernel_rfl) Tryz.func138 (by kernel_rfl) (by kernel_rfl)) (xdP h)
noncomputable def wk151(k0:List (Nat×Sm)):List (Nat×Sm):=(175,inl Tryz.prog (xe (wk150 k0)) 60 Tryz.f175)::(wk150 k0)
theorem xdR(h:SoundLK (JW c) k0):SoundLK (JW c) (wk151 k0) :=.cons (xa (xdQ h) 60 (by kernel_rfl) Tryz.func175 (by kernel_rfl) (by kernel_rfl)) (xdQ h)
noncomputable def wk152(k0:List (Nat×Sm)):List (Nat×Sm):=(209,inl Tryz.prog (xe (wk151 k0)) 60 Tryz.f209)::(wk151 k0)
theorem xdS(h:SoundLK (JW c) k0):SoundLK (JW c) (wk152 k0) :=.cons (xa (xdR h) 60 (by kernel_rfl) Tryz.func209 (by kernel_rfl) (by kernel_rfl)) (xdR h)
noncomputable def wk153(k0:List (Nat×Sm)):List (Nat×Sm):=(176,inl Tryz.prog (xe (wk152 k0)) 60 Tryz.f176)::(wk152 k0)
theorem xdT(h:SoundLK (JW c) k0):SoundLK (JW c) (wk153 k0) :=.cons (xa (xdS h) 60 (by kernel_rfl) Tryz.func176 (by kernel_rfl) (by kernel_rfl)) (xdS h)
noncomputable def wk154(k0:List (Nat×Sm)):List (Nat×Sm):=(177,inl Tryz.prog (xe (wk153 k0)) 60 Tryz.f177)::(wk153 k0)
theorem xdU(h:SoundLK (JW c) k0):SoundLK (JW c) (wk154 k0) :=.cons (xa (xdT h) 60 (by kernel_rfl) Tryz.func177 (by kernel_rfl) (by kernel_rfl)) (xdT h)
noncomputable def wk155(k0:List (Nat×Sm)):List (Nat×Sm):=(178,inl Tryz.prog (xe (wk154 k0)) 60 Tryz.f178)::(wk154 k0)
theorem xdV(h:SoundLK (JW c) k0):SoundLK (JW c) (wk155 k0) :=.cons (xa (xdU h) 60 (by kernel_rfl) Tryz.func178 (by kernel_rfl) (by kernel_rfl)) (xdU h)
noncomputable def wk156(k0:List (Nat×Sm)):List (Nat×Sm):=(179,inl Tryz.prog (xe (wk155 k0)) 60 Tryz.f179)::(wk155 k0)
theorem xdW(h:SoundLK (JW c) k0):SoundLK (JW c) (wk156 k0) :=.cons (xa (xdV h) 60 (by kernel_rfl) Tryz.func179 (by kernel_rfl) (by kernel_rfl)) (xdV h)
noncomputable def wk157(k0:List (Nat×Sm)):List (Nat×Sm):=(139,inl Tryz.prog (xe (wk156 k0)) 60 Tryz.f139)::(wk156 k0)
theorem xdX(h:SoundLK (JW c) k0):SoundLK (JW c) (wk157 k0) :=.cons (xa (xdW h) 60 (by kernel_rfl) Tryz.func139 (by kernel_rfl) (by kernel_rfl)) (xdW h)
noncomputable def wk158(k0:List (Nat×Sm)):List (Nat×Sm):=(95,inl Tryz.prog (xe (wk157 k0)) 60 Tryz.f95)::(wk157 k0)
theorem xdY(h:SoundLK (JW c) k0):SoundLK (JW c) (wk158 k0) :=.cons (xa (xdX h) 60 (by kernel_rfl) Tryz.func95 (by kernel_rfl) (by kernel_rfl)) (xdX h)
noncomputable def wk159(k0:List (Nat×Sm)):List (Nat×Sm):=(96,inl Tryz.prog (xe (wk158 k0)) 60 Tryz.f96)::(wk158 k0)
theorem xdZ(h:SoundLK (JW c) k0):SoundLK (JW c) (wk159 k0) :=.cons (xa (xdY h) 60 (by kernel_rfl) Tryz.func96 (by kernel_rfl) (by kernel_rfl)) (xdY h)
noncomputable def wk160(k0:List (Nat×Sm)):List (Nat×Sm):=(61,inl Tryz.prog (xe (wk159 k0)) 60 Tryz.f61)::(wk159 k0)
theorem xd0(h:SoundLK (JW c) k0):SoundLK (JW c) (wk160 k0) :=.cons (xa (xdZ h) 60 (by kernel_rfl) Tryz.func61 (by kernel_rfl) (by kernel_rfl)) (xdZ h)
noncomputable def wk161(k0:List (Nat×Sm)):List (Nat×Sm):=(140,inl Tryz.prog (xe (wk160 k0)) 60 Tryz.f140)::(wk160 k0)
theorem xd1(h:SoundLK (JW c) k0):SoundLK (JW c) (wk161 k0) :=.cons (xa (xd0 h) 60 (by kernel_rfl) Tryz.func140 (by kernel_rfl) (by kernel_rfl)) (xd0 h)
noncomputable def wk162(k0:List (Nat×Sm)):List (Nat×Sm):=(97,inl Tryz.prog (xe (wk161 k0)) 60 Tryz.f97)::(wk161 k0)
theorem xd2(h:SoundLK (JW c) k0):SoundLK (JW c) (wk162 k0) :=.cons (xa (xd1 h) 60 (by kernel_rfl) Tryz.func97 (by kernel_rfl) (by kernel_rfl)) (xd1 h)
noncomputable def wk163(k0:List (Nat×Sm)):List (Nat×Sm):=(98,inl Tryz.prog (xe (wk162 k0)) 60 Tryz.f98)::(wk162 k0)
theorem xd3(h:SoundLK (JW c) k0):SoundLK (JW c) (wk163 k0) :=.cons (xa (xd2 h) 60 (by kernel_rfl) Tryz.func98 (by kernel_rfl) (by kernel_rfl)) (xd2 h)
noncomputable def wk164(k0:List (Nat×Sm)):List (Nat×Sm):=(62,inl Tryz.prog (xe (wk163 k0)) 60 Tryz.f62)::(wk163 k0)
theorem xd4(h:SoundLK (JW c) k0):SoundLK (JW c) (wk164 k0) :=.cons (xa (xd3 h) 60 (by kernel_rfl) Tryz.func62 (by kernel_rfl) (by kernel_rfl)) (xd3 h)
noncomputable def wk165(k0:List (Nat×Sm)):List (Nat×Sm):=(104,inl Tryz.prog (xe (wk164 k0)) 60 Tryz.f104)::(wk164 k0)
theorem xd5(h:SoundLK (JW c) k0):SoundLK (JW c) (wk165 k0) :=.cons (xa (xd4 h) 60 (by kernel_rfl) Tryz.func104 (by kernel_rfl) (by kernel_rfl)) (xd4 h)
noncomputable def wk166(k0:List (Nat×Sm)):List (Nat×Sm):=(99,inl Tryz.prog (xe (wk165 k0)) 60 Tryz.f99)::(wk165 k0)
theorem xd6(h:SoundLK (JW c) k0):SoundLK (JW c) (wk166 k0) :=.cons (xa (xd5 h) 60 (by kernel_rfl) Tryz.func99 (by kernel_rfl) (by kernel_rfl)) (xd5 h)
noncomputable def wk167(k0:List (Nat×Sm)):List (Nat×Sm):=(100,inl Tryz.prog (xe (wk166 k0)) 60 Tryz.f100)::(wk166 k0)
theorem xd7(h:SoundLK (JW c) k0):SoundLK (JW c) (wk167 k0) :=.cons (xa (xd6 h) 60 (by kernel_rfl) Tryz.func100 (by kernel_rfl) (by kernel_rfl)) (xd6 h)
noncomputable def wk168(k0:List (Nat×Sm)):List (Nat×Sm):=(63,inl Tryz.prog (xe (wk167 k0)) 60 Tryz.f63)::(wk167 k0)
theorem xd8(h:SoundLK (JW c) k0):SoundLK (JW c) (wk168 k0) :=.cons (xa (xd7 h) 60 (by kernel_rfl) Tryz.func63 (by kernel_rfl) (by kernel_rfl)) (xd7 h)
noncomputable def wk169(k0:List (Nat×Sm)):List (Nat×Sm):=(105,inl Tryz.prog (xe (wk168 k0)) 60 Tryz.f105)::(wk168 k0)
theorem xd9(h:SoundLK (JW c) k0):SoundLK (JW c) (wk169 k0) :=.cons (xa (xd8 h) 60 (by kernel_rfl) Tryz.func105 (by kernel_rfl) (by kernel_rfl)) (xd8 h)
noncomputable def wk170(k0:List (Nat×Sm)):List (Nat×Sm):=(64,inl Tryz.prog (xe (wk169 k0)) 60 Tryz.f64)::(wk169 k0)
theorem xea(h:SoundLK (JW c) k0):SoundLK (JW c) (wk170 k0) :=.cons (xa (xd9 h) 60 (by kernel_rfl) Tryz.func64 (by kernel_rfl) (by kernel_rfl)) (xd9 h)
noncomputable def wk171(k0:List (Nat×Sm)):List (Nat×Sm):=(65,inl Tryz.prog (xe (wk170 k0)) 60 Tryz.f65)::(wk170 k0)
theorem xeb(h:SoundLK (JW c) k0):SoundLK (JW c) (wk171 k0) :=.cons (xa (xea h) 60 (by kernel_rfl) Tryz.func65 (by kernel_rfl) (by kernel_rfl)) (xea h)
noncomputable def wk172(k0:List (Nat×Sm)):List (Nat×Sm):=(152,inl Tryz.prog (xe (wk171 k0)) 60 Tryz.f152)::(wk171 k0)
theorem xec(h:SoundLK (JW c) k0):SoundLK (JW c) (wk172 k0) :=.cons (xa (xeb h) 60 (by kernel_rfl) Tryz.func152 (by kernel_rfl) (by kernel_rfl)) (xeb h)
noncomputable def wk173(k0:List (Nat×Sm)):List (Nat×Sm):=(71,inl Tryz.prog (xe (wk172 k0)) 60 Tryz.f71)::(wk172 k0)
theorem xed(h:SoundLK (JW c) k0):SoundLK (JW c) (wk173 k0) :=.cons (xa (xec h) 60 (by kernel_rfl) Tryz.func71 (by kernel_rfl) (by kernel_rfl)) (xec h)
noncomputable def wk174(k0:List (Nat×Sm)):List (Nat×Sm):=(192,inl Tryz.prog (xe (wk173 k0)) 60 Tryz.f192)::(wk173 k0)
theorem xee(h:SoundLK (JW c) k0):SoundLK (JW c) (wk174 k0) :=.cons (xa (xed h) 60 (by kernel_rfl) Tryz.func192 (by kernel_rfl) (by kernel_rfl)) (xed h)
noncomputable def wk175(k0:List (Nat×Sm)):List (Nat×Sm):=(218,inl Tryz.prog (xe (wk174 k0)) 60 Tryz.f218)::(wk174 k0)
theorem xef(h:SoundLK (JW c) k0):SoundLK (JW c) (wk175 k0) :=.cons (xa (xee h) 60 (by kernel_rfl) Tryz.func218 (by kernel_rfl) (by kernel_rfl)) (xee h)
noncomputable def wk176(k0:List (Nat×Sm)):List (Nat×Sm):=(193,inl Tryz.prog (xe (wk175 k0)) 60 Tryz.f193)::(wk175 k0)
theorem xeg(h:SoundLK (JW c) k0):SoundLK (JW c) (wk176 k0) :=.cons (xa (xef h) 60 (by kernel_rfl) Tryz.func193 (by kernel_rfl) (by kernel_rfl)) (xef h)
noncomputable def wk177(k0:List (Nat×Sm)):List (Nat×Sm):=(153,inl Tryz.prog (xe (wk176 k0)) 60 Tryz.f153)::(wk176 k0)
theorem xeh(h:SoundLK (JW c) k0):SoundLK (JW c) (wk177 k0) :=.cons (xa (xeg h) 60 (by kernel_rfl) Tryz.func153 (by kernel_rfl) (by kernel_rfl)) (xeg h)
noncomputable def wk178(k0:List (Nat×Sm)):List (Nat×Sm):=(111,inl Tryz.prog (xe (wk177 k0)) 60 Tryz.f111)::(wk177 k0)
theorem xei(h:SoundLK (JW c) k0):SoundLK (JW c) (wk178 k0) :=.cons (xa (xeh h) 60 (by kernel_rfl) Tryz.func111 (by kernel_rfl) (by kernel_rfl)) (xeh h)
noncomputable def wk179(k0:List (Nat×Sm)):List (Nat×Sm):=(66,inl Tryz.prog (xe (wk178 k0)) 60 Tryz.f66)::(wk178 k0)
theorem xej(h:SoundLK (JW c) k0):SoundLK (JW c) (wk179 k0) :=.cons (xa (xei h) 60 (by kernel_rfl) Tryz.func66 (by kernel_rfl) (by kernel_rfl)) (xei h)
noncomputable def wk180(k0:List (Nat×Sm)):List (Nat×Sm):=(67,inl Tryz.prog (xe (wk179 k0)) 60 Tryz.f67)::(wk179 k0)
theorem xek(h:SoundLK (JW c) k0):SoundLK (JW c) (wk180 k0) :=.cons (xa (xej h) 60 (by kernel_rfl) Tryz.func67 (by kernel_rfl) (by kernel_rfl)) (xej h)
noncomputable def wk181(k0:List (Nat×Sm)):List (Nat×Sm):=(112,inl Tryz.prog (xe (wk180 k0)) 60 Tryz.f112)::(wk180 k0)
theorem xel(h:SoundLK (JW c) k0):SoundLK (JW c) (wk181 k0) :=.cons (xa (xek h) 60 (by kernel_rfl) Tryz.func112 (by kernel_rfl) (by kernel_rfl)) (xek h)
noncomputable def wk182(k0:List (Nat×Sm)):List (Nat×Sm):=(68,inl Tryz.prog (xe (wk181 k0)) 60 Tryz.f68)::(wk181 k0)
theorem xem(h:SoundLK (JW c) k0):SoundLK (JW c) (wk182 k0) :=.cons (xa (xel h) 60 (by kernel_rfl) Tryz.func68 (by kernel_rfl) (by kernel_rfl)) (xel h)
noncomputable def wk183(k0:List (Nat×Sm)):List (Nat×Sm):=(69,inl Tryz.prog (xe (wk182 k0)) 60 Tryz.f69)::(wk182 k0)
theorem s_wk183(h:SoundLK (JW c) k0):SoundLK (JW c) (wk183 k0) :=.cons (xa (xem h) 60 (by kernel_rfl) Tryz.func69 (by kernel_rfl) (by kernel_rfl)) (xem h)
end Go.Proofs.YtcpekofcmogaeaaGreat.Mx
namespace Go.Proofs.YtcpekofcmogaeaaGreat.Mx
open Go Go.Conc Lx Kx Tx
noncomputable def mCall:Sm:=inl Tryz.prog (xe (wk183 [])) 60 Tryz.f32
theorem xbb(c:WC):xH (JW c) 32 mCall:=xa (s_wk183 (c:=c) .nil) 60 (by kernel_rfl) Tryz.func32 (by kernel_rfl) (by kernel_rfl)
def okRun(p:Plan):Option ((V×Heap)×WS)->Bool
 | some ((.agg r,_),s1)=>wl s1.orc&&eqT s1.told p.tf&&eqIs r (resC p.rv)&&Nat.beq p.rv.length 11
 | _=>false
noncomputable def vOkW:VOk:=fun self l p=>okRun p ((evF Tryz.prog (xe (wk183 [])) 60 Tryz.f32 [.c .port,.agg (List.zipWith C.int geoK (l.take 22)),.agg (List.zipWith C.int callK (l.drop 22))] []).run (stepW {wc0 with self:=self}) ⟨0,none,p.orc⟩)
theorem xcf{c d:WC}(h:c.self=d.self):stepW c=stepW d:=by
 funext o s
 cases o<;>simp only[stepW,h]
theorem xiY{p:Plan}{r:Option ((V×Heap)×WS)}(h:okRun p r=true):p.rv.length=11/\ ∃H' s1,r=some ((.agg (resC p.rv),H'),s1)/\s1.orc = []/\s1.told=p.tf:=by
 unfold okRun at h
 split at h
 ·rename_i r' H' s1
  simp only[Bool.and_eq_true]at h
  obtain⟨⟨⟨h1,h2⟩,h3⟩,h4⟩:=h
  refine⟨Nat.eq_of_beq_eq_true h4,H',s1,?_,?_,Kp h2⟩
  ·rw[Ko h3]
  ·cases ho:s1.orc with
   | nil=>rfl
   | cons a l=>rw[ho]at h1;cases h1
 ·cases h
theorem xbc(self:Int)(lg lc:List Int)(p:Plan)(h:vOkW self (lg++lc) p=true)(hg:lg.length=22)(hc:lc.length=7):Vx self (.agg (List.zipWith Value.int geoK lg).toArray) (.agg (List.zipWith Value.int callK lc).toArray) p:=by
 obtain⟨h1,H',s1,h2,h3,h4⟩:=xiY h
 refine⟨h1,fun c hcs=>⟨s1,h3,h4,fun F₁ w₁ hR =>?_⟩⟩
 rw[show(lg++lc).take 22=lg from List.take_left' hg,show(lg++lc).drop 22=lc from List.drop_left' hg,xcf (d:=c) (c :={wc0 with self:=self}) hcs.symm]at h2
 refine((xbb c).2 [.c .port,.agg (List.zipWith C.int geoK lg),.agg (List.zipWith C.int callK lc)] [] _ rfl [] w₁ ⟨0,none,p.orc⟩ F₁ [pvW c,.agg (List.zipWith Value.int geoK lg).toArray,.agg (List.zipWith Value.int callK lc).toArray] (XM _ w₁) ?_ hR (fun b hb=>(wU b hb).elim) (.agg (resC p.rv),H') (.agg (resC p.rv)) H' s1 h2 rfl).mono ?_
 ·simp only[allSome,denV,den,ZD,Option.map_some]
  rfl
 ·rintro rv F' w' ⟨_,e',_,hd,_,hR',_⟩
  refine⟨?_,hR'⟩
  simp only[resC,denV,ZD,Option.map_some,oI]at hd
  exact hd.symm
#print axioms xbc
end Go.Proofs.YtcpekofcmogaeaaGreat.Mx
namespace Go.Proofs.YtcpekofcmogaeaaGreat.Mx
open Go Go.Conc Lx Kx Tx
def eqA(a b:Tx.Ask):Bool:=decide (a.k=b.k)&&decide (a.at_=b.at_)&&decide (a.a=b.a)&&decide (a.b=b.b)&&eqT a.told b.told&&decide (a.v=b.v)
theorem eqA_eq{a b:Tx.Ask}(h:eqA a b=true):a=b:=by
 simp only[eqA,Bool.and_eq_true,decide_eq_true_eq]at h
 obtain⟨⟨⟨⟨⟨h1,h2⟩,h3⟩,h4⟩,h5⟩,h6⟩:=h
 cases a;cases b
 simp only at h1 h2 h3 h4 h5 h6
 rw[h1,h2,h3,h4,h6,Kp h5]
def eqAs:List Tx.Ask->List Tx.Ask->Bool
 | [],[]=>true
 | x::l,y::m=>eqA x y&&eqAs l m
 | _,_=>false
theorem xen : ∀ {l m:List Tx.Ask},eqAs l m=true->l=m
 | [],[],_=>rfl
 | x::l,y::m,h=>by
  simp only[eqAs,Bool.and_eq_true]at h
  rw[eqA_eq h.1,xen h.2]
 | [],_::_,h=>by cases h
 | _::_,[],h=>by cases h
def eqP(p q:Plan):Bool:=eqAs p.orc q.orc&&eqZ p.rv q.rv&&eqT p.tf q.tf
theorem eqP_eq{p q:Plan}(h:eqP p q=true):p=q:=by
 simp only[eqP,Bool.and_eq_true]at h
 obtain⟨⟨h1,h2⟩,h3⟩:=h
 have h1:=xen h1
 have h2:=Xe h2
 have h3:=Kp h3
 cases p;cases q
 simp only at h1 h2 h3
 rw[h1,h2,h3]
def vOkL(L:List (Int×List Int×Plan)):VOk:=fun self l p=>L.any fun x=>decide (x.1=self)&&eqZ l x.2.1&&eqP p x.2.2
theorem xcg{L:List (Int×List Int×Plan)}(hL : ∀x∈L,vOkW x.1 x.2.1 x.2.2=true)(self:Int)(lg lc:List Int)(p:Plan)(h:vOkL L self (lg++lc) p=true)(hg:lg.length=22)(hc:lc.length=7):Vx self (.agg (List.zipWith Value.int geoK lg).toArray) (.agg (List.zipWith Value.int callK lc).toArray) p:=by
 simp only[vOkL,List.any_eq_true,Bool.and_eq_true,decide_eq_true_eq]at h
 obtain⟨x,hx,⟨rfl,h2⟩,h3⟩:=h
 have e1:=Xe h2
 have e2:=eqP_eq h3
 subst e2
 refine xbc _ lg lc _ ?_ hg hc
 rw[e1]
 exact hL x hx
end Go.Proofs.YtcpekofcmogaeaaGreat.Mx
namespace Go.Proofs.YtcpekofcmogaeaaGreat.Mx
open Go Go.Conc Lx Kx Tx
def xeo:Plan:=⟨[⟨1,1,0,0,none,0⟩,⟨1,1,0,0,none,0⟩,⟨1,41,0,0,none,0⟩,⟨1,42,0,0,none,0⟩,⟨1,17,0,0,none,0⟩,⟨1,49,0,0,none,0⟩,⟨2,53,0,0,none,0⟩,⟨1,49,0,0,none,0⟩,⟨1,17,0,0,none,0⟩,⟨2,53,0,0,none,0⟩,⟨2,54,0,0,none,0⟩,⟨1,23,0,0,none,0⟩,⟨1,23,0,0,none,0⟩,⟨3,0,0,1,none,1⟩,⟨1,7,0,0,none,1⟩,⟨1,22,0,0,none,9⟩,⟨4,7,18446744073709551615,0,none,1⟩,⟨2,22,12,0,none,0⟩,⟨2,22,11,0,none,0⟩,⟨1,23,0,0,none,0⟩,⟨2,23,4294967806,0,none,0⟩,⟨4,1,1,0,none,0⟩,⟨3,0,1,0,none,1⟩,⟨4,21,1,0,none,0⟩,⟨2,33,274877906977,0,none,0⟩,⟨4,2,1,0,some (resC [0,8,0,0,0,0,0,0,0,25,0]),0⟩,⟨4,5,1,0,some (resC [0,8,0,0,0,0,0,0,0,25,0]),0⟩,⟨4,6,8,0,some (resC [0,8,0,0,0,0,0,0,0,25,0]),0⟩],[0,8,0,0,0,0,0,0,0,25,0],some (resC [0,8,0,0,0,0,0,0,0,25,0])⟩
def planF:Plan:=⟨[⟨1,1,0,0,none,1⟩,⟨1,33,0,0,none,274877906977⟩,⟨3,33,274877906977,0,none,1⟩,⟨1,22,0,0,some (resC [0,8,0,0,0,0,0,0,0,3,0]),11⟩,⟨3,41,0,1,some (resC [0,8,0,0,0,0,0,0,0,3,0]),1⟩,⟨4,1,1,0,some (resC [0,8,0,0,0,0,0,0,0,3,0]),1⟩,⟨4,3,1,0,some (resC [0,8,0,0,0,0,0,0,0,3,0]),0⟩,⟨4,5,18446744073709551615,0,some (resC [0,8,0,0,0,0,0,0,0,3,0]),1⟩,⟨4,6,18446744073709551608,0,some (resC [0,8,0,0,0,0,0,0,0,3,0]),8⟩],[0,8,0,0,0,0,0,0,0,3,0],some (resC [0,8,0,0,0,0,0,0,0,3,0])⟩
def KJ:List Int :=[1,1,0,1,2,7,16,17,21,22,23,24,25,33,41,49,53,55,56,60,73,177]
def callM:List Int :=[1,8,0,0,0,0,0]
def callF:List Int :=[5,0,0,0,0,0,0]
theorem xiZ:vOkW 0 (KJ++callM) xeo=true:=by kernel_rfl
theorem xi0:vOkW 0 (KJ++callF) planF=true:=by kernel_rfl
def pl11:List (Int×List Int×Plan) :=[(0,KJ++callM,xeo),(0,KJ++callF,planF)]
theorem pl11_ok : ∀x∈pl11,vOkW x.1 x.2.1 x.2.2=true:=fun x hx=>by
 simp only[pl11,List.mem_cons,List.not_mem_nil,or_false]at hx
 rcases hx with rfl|rfl
 ·exact xiZ
 ·exact xi0
abbrev ask11:AskT:=askN (vOkL pl11)
theorem s_thr11:SoundLK (JN ask11) kThr:=s_kThr (xcg pl11_ok)
end Go.Proofs.YtcpekofcmogaeaaGreat.Mx
namespace Go.Proofs.YtcpekofcmogaeaaGreat.Mx
open Go Go.Conc Lx Kx Tx
noncomputable def kRow:List (Nat×Sm):=(18,mNewM)::kThr
theorem xi1{ask:AskT}(h:SoundLK (JN ask) kThr):SoundLK (JN ask) kRow :=.cons (XA h) h
end Go.Proofs.YtcpekofcmogaeaaGreat.Mx
namespace Go.Proofs.YtcpekofcmogaeaaGreat.Mx
open Go Go.Conc Lx Kx Tx
def xbd(i0 n0:Int):List (Nat×List Int×List Int) :=[(5,[((i0.toNat:Nat):Int)],[1]),
 (4,[((i0.toNat:Nat):Int)],[1,1,0,0]),
 (2,[((i0.toNat:Nat):Int),0,((n0.toNat:Nat):Int),0,0,0,0,0,0,0,0,0,0,0],[]),
 (6,[((i0.toNat:Nat):Int)],[]),
 (5,[((i0.toNat:Nat):Int)],[1]),
 (4,[((i0.toNat:Nat):Int)],[1,1,0,0]),
 (2,[((i0.toNat:Nat):Int),0,((n0.toNat:Nat):Int),0,0,0,0,0,0,0,0,0,0,0],[]),
 (6,[((i0.toNat:Nat):Int)],[]),
 (5,[((i0.toNat:Nat):Int)],[1]),
 (4,[((i0.toNat:Nat):Int)],[1,41,0,0]),
 (2,[((i0.toNat:Nat):Int),0,((n0.toNat:Nat):Int),0,0,0,0,0,0,0,0,0,0,0],[]),
 (6,[((i0.toNat:Nat):Int)],[]),
 (5,[((i0.toNat:Nat):Int)],[1]),
 (4,[((i0.toNat:Nat):Int)],[1,42,0,0]),
 (2,[((i0.toNat:Nat):Int),0,((n0.toNat:Nat):Int),0,0,0,0,0,0,0,0,0,0,0],[]),
 (6,[((i0.toNat:Nat):Int)],[]),
 (5,[((i0.toNat:Nat):Int)],[1]),
 (4,[((i0.toNat:Nat):Int)],[1,17,0,0]),
 (2,[((i0.toNat:Nat):Int),0,((n0.toNat:Nat):Int),0,0,0,0,0,0,0,0,0,0,0],[]),
 (6,[((i0.toNat:Nat):Int)],[]),
 (5,[((i0.toNat:Nat):Int)],[1]),
 (4,[((i0.toNat:Nat):Int)],[1,49,0,0]),
 (2,[((i0.toNat:Nat):Int),0,((n0.toNat:Nat):Int),0,0,0,0,0,0,0,0,0,0,0],[]),
 (6,[((i0.toNat:Nat):Int)],[]),
 (5,[((i0.toNat:Nat):Int)],[1]),
 (4,[((i0.toNat:Nat):Int)],[2,53,0,0]),
 (2,[((i0.toNat:Nat):Int),0,((n0.toNat:Nat):Int),0,0,0,0,0,0,0,0,0,0,0],[]),
 (6,[((i0.toNat:Nat):Int)],[]),
 (5,[((i0.toNat:Nat):Int)],[1]),
 (4,[((i0.toNat:Nat):Int)],[1,49,0,0]),
 (2,[((i0.toNat:Nat):Int),0,((n0.toNat:Nat):Int),0,0,0,0,0,0,0,0,0,0,0],[]),
 (6,[((i0.toNat:Nat):Int)],[]),
 (5,[((i0.toNat:Nat):Int)],[1]),
 (4,[((i0.toNat:Nat):Int)],[1,17,0,0]),
 (2,[((i0.toNat:Nat):Int),0,((n0.toNat:Nat):Int),0,0,0,0,0,0,0,0,0,0,0],[]),
 (6,[((i0.toNat:Nat):Int)],[]),
 (5,[((i0.toNat:Nat):Int)],[1]),
 (4,[((i0.toNat:Nat):Int)],[2,53,0,0]),
 (2,[((i0.toNat:Nat):Int),0,((n0.toNat:Nat):Int),0,0,0,0,0,0,0,0,0,0,0],[]),
 (6,[((i0.toNat:Nat):Int)],[]),
 (5,[((i0.toNat:Nat):Int)],[1]),
 (4,[((i0.toNat:Nat):Int)],[2,54,0,0]),
 (2,[((i0.toNat:Nat):Int),0,((n0.toNat:Nat):Int),0,0,0,0,0,0,0,0,0,0,0],[]),
 (6,[((i0.toNat:Nat):Int)],[]),
 (5,[((i0.toNat:Nat):Int)],[1]),
 (4,[((i0.toNat:Nat):Int)],[1,23,0,0]),
 (2,[((i0.toNat:Nat):Int),0,((n0.toNat:Nat):Int),0,0,0,0,0,0,0,0,0,0,0],[]),
 (6,[((i0.toNat:Nat):Int)],[]),
 (5,[((i0.toNat:Nat):Int)],[1]),
 (4,[((i0.toNat:Nat):Int)],[1,23,0,0]),
 (2,[((i0.toNat:Nat):Int),0,((n0.toNat:Nat):Int),0,0,0,0,0,0,0,0,0,0,0],[]),
 (6,[((i0.toNat:Nat):Int)],[]),
 (5,[((i0.toNat:Nat):Int)],[1]),
 (4,[((i0.toNat:Nat):Int)],[3,0,0,1]),
 (2,[((i0.toNat:Nat):Int),1,((n0.toNat:Nat):Int),0,0,0,0,0,0,0,0,0,0,0],[]),
 (6,[((i0.toNat:Nat):Int)],[]),
 (5,[((i0.toNat:Nat):Int)],[1]),
 (4,[((i0.toNat:Nat):Int)],[1,7,0,0]),
 (2,[((i0.toNat:Nat):Int),1,((n0.toNat:Nat):Int),0,0,0,0,0,0,0,0,0,0,0],[]),
 (6,[((i0.toNat:Nat):Int)],[]),
 (5,[((i0.toNat:Nat):Int)],[1]),
 (4,[((i0.toNat:Nat):Int)],[1,22,0,0]),
 (2,[((i0.toNat:Nat):Int),9,((n0.toNat:Nat):Int),0,0,0,0,0,0,0,0,0,0,0],[]),
 (6,[((i0.toNat:Nat):Int)],[]),
 (5,[((i0.toNat:Nat):Int)],[1]),
 (4,[((i0.toNat:Nat):Int)],[4,7,18446744073709551615,0]),
 (2,[((i0.toNat:Nat):Int),1,((n0.toNat:Nat):Int),0,0,0,0,0,0,0,0,0,0,0],[]),
 (6,[((i0.toNat:Nat):Int)],[]),
 (5,[((i0.toNat:Nat):Int)],[1]),
 (4,[((i0.toNat:Nat):Int)],[2,22,12,0]),
 (2,[((i0.toNat:Nat):Int),0,((n0.toNat:Nat):Int),0,0,0,0,0,0,0,0,0,0,0],[]),
 (6,[((i0.toNat:Nat):Int)],[]),
 (5,[((i0.toNat:Nat):Int)],[1]),
 (4,[((i0.toNat:Nat):Int)],[2,22,11,0]),
 (2,[((i0.toNat:Nat):Int),0,((n0.toNat:Nat):Int),0,0,0,0,0,0,0,0,0,0,0],[]),
 (6,[((i0.toNat:Nat):Int)],[]),
 (5,[((i0.toNat:Nat):Int)],[1]),
 (4,[((i0.toNat:Nat):Int)],[1,23,0,0]),
 (2,[((i0.toNat:Nat):Int),0,((n0.toNat:Nat):Int),0,0,0,0,0,0,0,0,0,0,0],[]),
 (6,[((i0.toNat:Nat):Int)],[]),
 (5,[((i0.toNat:Nat):Int)],[1]),
 (4,[((i0.toNat:Nat):Int)],[2,23,4294967806,0]),
 (2,[((i0.toNat:Nat):Int),0,((n0.toNat:Nat):Int),0,0,0,0,0,0,0,0,0,0,0],[]),
 (6,[((i0.toNat:Nat):Int)],[]),
 (5,[((i0.toNat:Nat):Int)],[1]),
 (4,[((i0.toNat:Nat):Int)],[4,1,1,0]),
 (2,[((i0.toNat:Nat):Int),0,((n0.toNat:Nat):Int),0,0,0,0,0,0,0,0,0,0,0],[]),
 (6,[((i0.toNat:Nat):Int)],[]),
 (5,[((i0.toNat:Nat):Int)],[1]),
 (4,[((i0.toNat:Nat):Int)],[3,0,1,0]),
 (2,[((i0.toNat:Nat):Int),1,((n0.toNat:Nat):Int),0,0,0,0,0,0,0,0,0,0,0],[]),
 (6,[((i0.toNat:Nat):Int)],[]),
 (5,[((i0.toNat:Nat):Int)],[1]),
 (4,[((i0.toNat:Nat):Int)],[4,21,1,0]),
 (2,[((i0.toNat:Nat):Int),0,((n0.toNat:Nat):Int),0,0,0,0,0,0,0,0,0,0,0],[]),
 (6,[((i0.toNat:Nat):Int)],[]),
 (5,[((i0.toNat:Nat):Int)],[1]),
 (4,[((i0.toNat:Nat):Int)],[2,33,274877906977,0]),
 (2,[((i0.toNat:Nat):Int),0,((n0.toNat:Nat):Int),0,0,0,0,0,0,0,0,0,0,0],[]),
 (6,[((i0.toNat:Nat):Int)],[0,8,0,0,0,0,0,0,0,25,0]),
 (5,[((i0.toNat:Nat):Int)],[1]),
 (4,[((i0.toNat:Nat):Int)],[4,2,1,0]),
 (2,[((i0.toNat:Nat):Int),0,((n0.toNat:Nat):Int),0,0,0,0,0,0,0,0,0,0,0],[]),
 (6,[((i0.toNat:Nat):Int)],[0,8,0,0,0,0,0,0,0,25,0]),
 (5,[((i0.toNat:Nat):Int)],[1]),
 (4,[((i0.toNat:Nat):Int)],[4,5,1,0]),
 (2,[((i0.toNat:Nat):Int),0,((n0.toNat:Nat):Int),0,0,0,0,0,0,0,0,0,0,0],[]),
 (6,[((i0.toNat:Nat):Int)],[0,8,0,0,0,0,0,0,0,25,0]),
 (5,[((i0.toNat:Nat):Int)],[1]),
 (4,[((i0.toNat:Nat):Int)],[4,6,8,0]),
 (2,[((i0.toNat:Nat):Int),0,((n0.toNat:Nat):Int),0,0,0,0,0,0,0,0,0,0,0],[0,8,0,0,0,0,0,0,0,25,0]),
 (6,[((i0.toNat:Nat):Int)],[0,8,0,0,0,0,0,0,0,25,0]),
 (5,[((i0.toNat:Nat):Int)],[0]),
 (4,[((i0.toNat:Nat):Int)],[]),
 (3,[((i0.toNat:Nat):Int),((n0.toNat:Nat):Int),0,8,0,0,0,0,0,0,0,25,0],[])]
def aw20T:T Unit:=xc0 0 [0] fun i0 =>.op (.ask 5 [((i0.toNat:Nat):Int)]) fun x=>bif eqZ x [0]then(xc0 1 [((i0.toNat:Nat):Int),1,1,0,1,2,7,16,17,21,22,23,24,25,33,41,49,53,55,56,60,73,177,1,8,0,0,0,0,0,0,0,0,0,0,0,0,0,0,0,0] fun n0=>scr (xbd i0 n0))else .fail
def KK(i0 n0:Int):List (Nat×List Int×List Int) :=[(0,[0],[i0]),(5,[((i0.toNat:Nat):Int)],[0]),(1,[((i0.toNat:Nat):Int),1,1,0,1,2,7,16,17,21,22,23,24,25,33,41,49,53,55,56,60,73,177,1,8,0,0,0,0,0,0,0,0,0,0,0,0,0,0,0,0],[n0])]++xbd i0 n0
theorem xi2(i0 n0:Int):drv ((KK i0 n0).map fun x=>x.2.2) (evF Tryz.prog (xe (mr25 kRow)) 300 Tryz.f10 [] [])=((KK i0 n0).map fun x=>(x.1,x.2.1),some (.c (.bool true),[])):=by kernel_rfl
theorem xi3{σ:Type}{step:PStep σ}{s s':σ}(h:aw20T.run step s=some ((),s')):(evF Tryz.prog (xe (mr25 kRow)) 300 Tryz.f10 [] []).run step s=some ((.c (.bool true),[]),s'):=by
 obtain⟨i0,s0,e0,h0⟩:=VA h
 obtain⟨s1,e1,h1⟩:=xcd h0
 obtain⟨n0,s2,e2,h2⟩:=VA h1
 exact XT (KK i0 n0) _ _ (xi2 i0 n0) _ _ (ZG e0 (ZG e1 (ZG e2 h2)))
def mAw20:Sm:=fun
 | [],[]=>some (mkS Unit aw20T fun _=>some (.c (.bool true),[]))
 | _,_=>none
theorem XB{ask:AskT}(h:SoundLK (JN ask) (mr25 kRow)):xH (JN ask) 10 mAw20:=by
 refine xfl h 300 (by kernel_rfl) Tryz.func10 (by kernel_rfl) (by kernel_rfl) (args0 :=[]) (t:=aw20T) (v0 :=.c (.bool true)) (H0 :=[]) (fun args H S hS =>?_) fun s s' hr=>xi3 hr
 unfold mAw20 at hS
 split at hS
 ·cases hS;exact⟨rfl,rfl,rfl⟩
 ·cases hS
#print axioms XB
end Go.Proofs.YtcpekofcmogaeaaGreat.Mx
namespace Go.Proofs.YtcpekofcmogaeaaGreat.Mx
open Go Go.Conc Lx Kx Tx
noncomputable def kEnd:List (Nat×Sm):=(10,mAw20)::mr25 kRow
theorem s_kEnd{ask:AskT}(h:SoundLK (JN ask) kThr):SoundLK (JN ask) kEnd :=.cons (XB (xgR (xi1 h))) (xgR (xi1 h))
def okEnd:Option ((V×Heap)×MS)->Bool
 | some ((.c (.bool b),_),s)=>b&&s.ths.all (fun t=> !t.busy)
 | _=>false
theorem xi4{r:Option ((V×Heap)×MS)}(h:okEnd r=true) : ∃H' s',r=some ((.c (.bool true),H'),s')/\ ∀t∈s'.ths,t.busy=false:=by
 unfold okEnd at h
 split at h
 ·rename_i b H' s'
  simp only[Bool.and_eq_true,List.all_eq_true,Bool.not_eq_true']at h
  obtain⟨rfl,h⟩:=h
  exact⟨H',s',rfl,h⟩
 ·cases h
theorem XE:okEnd ((evF Tryz.prog (xe kEnd) 300 Tryz.f4 [] []).run (JN ask11).step ⟨[],[xeo,planF,xeo],0⟩)=true:=by kernel_rfl
theorem machineKnown_run(W:World) : ∃M last o w' t',runNT Tryz.prog (M+1) (solo (G (Frame.enter Tryz.prog 4 #[] .normal) []) W) #[]=(.ended o w',t')/\runN Tryz.prog M (solo (G (Frame.enter Tryz.prog 4 #[] .normal) []) W) = .next last/\step Tryz.prog last = .ended o w'/\Go.Conc.Good Tryz.prog (fun v w'=>v = .bool true/\Keeps (fun _=>False) W w') last o w' t':=by
 obtain⟨H',s',h1,h2⟩:=xi4 XE
 exact law_top (s_kEnd s_thr11).known (by kernel_rfl) Tryz.func4 (by kernel_rfl) (by kernel_rfl) (by kernel_rfl) 300 h1 h2 W
#print axioms machineKnown_run
end Go.Proofs.YtcpekofcmogaeaaGreat.Mx
