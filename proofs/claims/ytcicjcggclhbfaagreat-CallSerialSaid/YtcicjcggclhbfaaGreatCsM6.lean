/- Part. -/
import Derived.Laws.BitsAllLaws
import Derived.Test.YtcicjcggclhbfaaGreatCsM4
import Derived.Test.YtcicjcggclhbfaaGreatCsM11
set_option linter.all false
open Go.IntKind (i64 u64 u32 u8)
namespace Go.Proofs.YtcicjcggclhbfaaGreat
theorem dT{p:Prop}[Decidable p]:(decide p=true)=p:=_root_.decide_eq_true_eq
theorem dF{p:Prop}[Decidable p]:decide p=false ↔ ¬p:=_root_.decide_eq_false_iff_not
namespace Lx
open Go
theorem Xg{a b i:Nat}(hb:b<2 ^ i):a*2 ^ i ||| b=a*2 ^ i+b:=by
 rw[Nat.mul_comm a (2 ^ i),Nat.two_pow_add_eq_or_of_lt hb]
theorem xdX{a b i:Nat}(hb:b<2 ^ i):b ||| a*2 ^ i=b+a*2 ^ i:=by
 rw[Nat.or_comm,Xg hb,Nat.add_comm]
theorem kT{a b:Int}{i:Nat}(ha:0<=a)(hb:0<=b)(hi:a<2 ^ i)(hm:b%2 ^ i=0)(h:a+b<18446744073709551616):orW a b=a+b:=by
 unfold orW
 obtain⟨x,rfl⟩:=Int.eq_ofNat_of_zero_le ha
 obtain⟨y,rfl⟩:=Int.eq_ofNat_of_zero_le hb
 rw[u64_or_nat x y (by omega) (by omega)]
 have h1:x<2 ^ i:=by
  have:((2:Int) ^ i)=((2 ^ i:Nat):Int):=by simp
  rw[this]at hi;omega
 have h2:y%2 ^ i=0:=by
  have:((2:Int) ^ i)=((2 ^ i:Nat):Int):=by simp
  rw[this]at hm
  omega
 obtain⟨z,rfl⟩ : ∃z,y=z*2 ^ i:=⟨y / 2 ^ i,by have:=Nat.div_add_mod y (2 ^ i);rw[h2,Nat.mul_comm]at this;omega⟩
 rw[xdX h1]
 simp
theorem xbq(x k:Nat):x &&& (2 ^ k-1)=x%2 ^ k:=Nat.and_two_pow_sub_one_eq_mod x k
theorem xsh(k:Nat)(h:k<64):xw8 (k:Int)=((2 ^ k-1:Nat):Int):=by
  unfold xw8
  have hk:min (k:Int).toNat u64.bits=k:=by show min k 64=k;omega
  have hp:2 ^ k<2 ^ 64:=Nat.pow_lt_pow_right (by decide) h
  have h1:(1:Int)*2 ^ k=((2 ^ k:Nat):Int):=by simp
  rw[hk,h1,dJ,dJ]
  have h2:1<=2 ^ k:=Nat.one_le_two_pow
  have e:(18446744073709551616:Int)=((2 ^ 64:Nat):Int):=by decide
  rw[e]
  have:((2 ^ k:Nat):Int)%((2 ^ 64:Nat):Int)=((2 ^ k:Nat):Int):=Int.emod_eq_of_lt (by omega) (by exact_mod_cast hp)
  rw[this]
  rw[Int.emod_eq_of_lt (by omega) (by
                                       have:((2 ^ k:Nat):Int)<((2 ^ 64:Nat):Int):=by exact_mod_cast hp
                                       omega)]
  omega
theorem vt(k:IntKind)(w p m:Nat)(hw:w<18446744073709551616)(hp:p<=64)(hm:m<64):ofW k (w:Int) (p:Int) (m:Int)=k.wrap ((w / 2 ^ p%2 ^ m:Nat):Int):=by
  unfold ofW
  have h1:min (p:Int).toNat u64.bits=p:=by show min p 64=p;omega
  have h2:((w:Int).fdiv (2 ^ p))=((w / 2 ^ p:Nat):Int):=by
    rw[Int.fdiv_eq_ediv_of_nonneg _ (by exact_mod_cast Nat.zero_le (2 ^ p))]
    simp
  have h3:w / 2 ^ p<18446744073709551616:=Nat.lt_of_le_of_lt (Nat.div_le_self _ _) hw
  have Ea:2 ^ m<2 ^ 64:=Nat.pow_lt_pow_right (by decide) hm
  have h4:2 ^ m-1<18446744073709551616:=by
                                                   have e:(2:Nat) ^ 64=18446744073709551616:=by decide
                                                   omega
  rw[h1,h2,xsh m hm,u64_and_nat _ _ h3 h4,xbq]
theorem xY(x p m:Nat)(hx:x<2 ^ m)(hp:p<=64)(hm:m<64)(ht:x*2 ^ p<18446744073709551616):xR (x:Int) (p:Int) (m:Int)=((x*2 ^ p:Nat):Int):=by
 unfold xR
 have h1:min (p:Int).toNat u64.bits=p:=by show min p 64=p;omega
 have Ea:2 ^ m<2 ^ 64:=Nat.pow_lt_pow_right (by decide) hm
 have tt:(2:Nat) ^ 64=18446744073709551616:=by decide
 have hw:u64.wrap (x:Int)=(x:Int):=by rw[dJ];omega
 rw[h1,hw,xsh m hm,u64_and_nat _ _ (by omega) (by omega),xbq,Nat.mod_eq_of_lt hx,dJ]
 have:((x:Int)*2 ^ p)=((x*2 ^ p:Nat):Int):=by simp
 rw[this];omega
/-! ### the words -/
theorem pg_word(kd ln cl ow:Nat)(h1:kd<8)(h2:ln<1024)(h3:cl<4)(h4:ow<128):Pg.word ⟨kd,ln,cl,ow⟩=((kd+ln*8+cl*8192+ow*65536:Nat):Int):=by
 unfold Pg.word
 simp only
 have f1:xR (kd:Int) 0 3=((kd:Nat):Int):=by simpa using xY kd 0 3 (by simpa using h1) (by omega) (by omega) (by omega)
 have f2:xR (ln:Int) 3 10=((ln*8:Nat):Int):=by simpa using xY ln 3 10 (by simpa using h2) (by omega) (by omega) (by omega)
 have f3:xR (cl:Int) 13 2=((cl*8192:Nat):Int):=by simpa using xY cl 13 2 (by simpa using h3) (by omega) (by omega) (by omega)
 have f4:xR (ow:Int) 16 7=((ow*65536:Nat):Int):=by simpa using xY ow 16 7 (by simpa using h4) (by omega) (by omega) (by omega)
 rw[f1,f2,f3,f4]
 rw[kT (a:=(kd:Int)) (b:=((ln*8:Nat):Int)) (i:=3) (by omega) (by omega) (by first|(simp;done)|(simp;omega)) (by first|(simp;done)|(simp;omega)) (by omega)]
 rw[kT (a:=(kd:Int)+((ln*8:Nat):Int)) (b:=((cl*8192:Nat):Int)) (i:=13) (by omega) (by omega) (by first|(simp;done)|(simp;omega)) (by first|(simp;done)|(simp;omega)) (by omega)]
 rw[kT (i:=16) (by omega) (by omega) (by first|(simp;done)|(simp;omega)) (by first|(simp;done)|(simp;omega)) (by omega)]
 omega
theorem wrap_small(n:Nat)(h:n<9223372036854775808):i64.wrap (n:Int)=n:=by rw[IntKind.wrap_i64];omega
theorem xBM(w:Nat)(hw:w<18446744073709551616):pgOf (w:Int)=⟨((w%8:Nat):Int),((w / 8%1024:Nat):Int),((w / 8192%4:Nat):Int),((w / 65536%128:Nat):Int)⟩:=by
 unfold pgOf
 have e1:=vt .i64 w 0 3 hw (by omega) (by omega)
 have e2:=vt .i64 w 3 10 hw (by omega) (by omega)
 have e3:=vt .i64 w 13 2 hw (by omega) (by omega)
 have e4:=vt .i64 w 16 7 hw (by omega) (by omega)
 rw[wrap_small _ (by omega)]at e1 e2 e3 e4
 have f1:ofW .i64 (w:Int) 0 3=((w%8:Nat):Int):=by simpa using e1
 have f2:ofW .i64 (w:Int) 3 10=((w / 8%1024:Nat):Int):=by simpa using e2
 have f3:ofW .i64 (w:Int) 13 2=((w / 8192%4:Nat):Int):=by simpa using e3
 have f4:ofW .i64 (w:Int) 16 7=((w / 65536%128:Nat):Int):=by simpa using e4
 rw[f1,f2,f3,f4]
theorem xzy(kd ln cl ow:Nat)(h1:kd<8)(h2:ln<1024)(h3:cl<4)(h4:ow<128):pgOf (Pg.word ⟨kd,ln,cl,ow⟩)=⟨kd,ln,cl,ow⟩:=by
 rw[pg_word kd ln cl ow h1 h2 h3 h4,xBM _ (by omega)]
 congr 1<;>omega
theorem xBN(kd sz ot vr:Nat)(h1:kd<4)(h2:sz<65536)(h3:ot<4096)(h4:vr<4294967296):Stt.word ⟨kd,sz,ot,vr⟩=((kd+sz*4+ot*262144+vr*4294967296:Nat):Int):=by
 unfold Stt.word
 simp only
 have f1:xR (kd:Int) 0 2=((kd:Nat):Int):=by simpa using xY kd 0 2 (by simpa using h1) (by omega) (by omega) (by omega)
 have f2:xR (sz:Int) 2 16=((sz*4:Nat):Int):=by simpa using xY sz 2 16 (by simpa using h2) (by omega) (by omega) (by omega)
 have f3:xR (ot:Int) 18 12=((ot*262144:Nat):Int):=by simpa using xY ot 18 12 (by simpa using h3) (by omega) (by omega) (by omega)
 have f4:xR (vr:Int) 32 32=((vr*4294967296:Nat):Int):=by simpa using xY vr 32 32 (by simpa using h4) (by omega) (by omega) (by omega)
 rw[f1,f2,f3,f4]
 rw[kT (a:=(kd:Int)) (b:=((sz*4:Nat):Int)) (i:=2) (by omega) (by omega) (by first|(simp;done)|(simp;omega)) (by first|(simp;done)|(simp;omega)) (by omega)]
 rw[kT (a:=(kd:Int)+((sz*4:Nat):Int)) (b:=((ot*262144:Nat):Int)) (i:=18) (by omega) (by omega) (by first|(simp;done)|(simp;omega)) (by first|(simp;done)|(simp;omega)) (by omega)]
 rw[kT (i:=32) (by omega) (by omega) (by first|(simp;done)|(simp;omega)) (by first|(simp;done)|(simp;omega)) (by omega)]
 omega
theorem jU(n:Nat)(h:n<4294967296):u32.wrap (n:Int)=n:=by
 have:u32.wrap (n:Int)=(n:Int)%4294967296:=by simp[IntKind.wrap,IntKind.bits,IntKind.signed]
 rw[this];omega
theorem xkK(w:Nat)(hw:w<18446744073709551616):wF (w:Int)=⟨((w%4:Nat):Int),((w / 4%65536:Nat):Int),((w / 262144%4096:Nat):Int),((w / 4294967296%4294967296:Nat):Int)⟩:=by
 unfold wF
 have e1:=vt .i64 w 0 2 hw (by omega) (by omega)
 have e2:=vt .i64 w 2 16 hw (by omega) (by omega)
 have e3:=vt .i64 w 18 12 hw (by omega) (by omega)
 have e4:=vt .u32 w 32 32 hw (by omega) (by omega)
 rw[wrap_small _ (by omega)]at e1 e2 e3
 rw[jU _ (by omega)]at e4
 have f1:ofW .i64 (w:Int) 0 2=((w%4:Nat):Int):=by simpa using e1
 have f2:ofW .i64 (w:Int) 2 16=((w / 4%65536:Nat):Int):=by simpa using e2
 have f3:ofW .i64 (w:Int) 18 12=((w / 262144%4096:Nat):Int):=by simpa using e3
 have f4:ofW .u32 (w:Int) 32 32=((w / 4294967296%4294967296:Nat):Int):=by simpa using e4
 rw[f1,f2,f3,f4]
theorem xvU(kd sz ot vr:Nat)(h1:kd<4)(h2:sz<65536)(h3:ot<4096)(h4:vr<4294967296):wF (Stt.word ⟨kd,sz,ot,vr⟩)=⟨kd,sz,ot,vr⟩:=by
 rw[xBN kd sz ot vr h1 h2 h3 h4,xkK _ (by omega)]
 congr 1<;>omega
theorem jV(ix vr:Nat)(h1:ix<16777216)(h2:vr<4294967296):Ref.word ⟨ix,false,vr⟩=((ix+vr*4294967296:Nat):Int):=by
 unfold Ref.word
 simp only[cond_false]
 have f1:xR (ix:Int) 0 24=((ix:Nat):Int):=by simpa using xY ix 0 24 (by simpa using h1) (by omega) (by omega) (by omega)
 have f4:xR (vr:Int) 32 32=((vr*4294967296:Nat):Int):=by simpa using xY vr 32 32 (by simpa using h2) (by omega) (by omega) (by omega)
 rw[f1,f4]
 rw[kT (i:=24) (by omega) (by omega) (by first|(simp;done)|(simp;omega)) (by first|(simp;done)|(simp;omega)) (by omega)]
 omega
theorem xkL(w:Nat)(hw:w<18446744073709551616):xkC (w:Int)=⟨((w%16777216:Nat):Int),decide (w / 16777216%2=1),((w / 4294967296%4294967296:Nat):Int)⟩:=by
 unfold xkC
 have e1:=vt .i64 w 0 24 hw (by omega) (by omega)
 have e2:=vt .i64 w 24 1 hw (by omega) (by omega)
 have e4:=vt .u32 w 32 32 hw (by omega) (by omega)
 rw[wrap_small _ (by omega)]at e1 e2
 rw[jU _ (by omega)]at e4
 have f1:ofW .i64 (w:Int) 0 24=((w%16777216:Nat):Int):=by simpa using e1
 have f2:ofW .i64 (w:Int) 24 1=((w / 16777216%2:Nat):Int):=by simpa using e2
 have f4:ofW .u32 (w:Int) 32 32=((w / 4294967296%4294967296:Nat):Int):=by simpa using e4
 rw[f1,f2,f4]
 congr 1
 rw[Bool.eq_iff_iff,beq_iff_eq,dT]
 omega
theorem xib(ix vr:Nat)(h1:ix<16777216)(h2:vr<4294967296):xkC (Ref.word ⟨ix,false,vr⟩)=⟨ix,false,vr⟩:=by
 rw[jV ix vr h1 h2,xkL _ (by omega)]
 congr 1
 .omega
 .simp;omega
 .omega
theorem bt_word(mp cl vr:Nat)(h1:mp<256)(h2:cl<7)(h4:vr<4294967296):Bt.word ⟨mp,true,cl,vr⟩=((mp+(cl+1)*256+vr*4294967296:Nat):Int):=by
 unfold Bt.word
 simp only[cond_true]
 have w1:i64.wrap ((cl:Int)+1)=((cl+1:Nat):Int):=by have:=wrap_small (cl+1) (by omega);rw[<- this];rfl
 have f1:xR (mp:Int) 0 8=((mp:Nat):Int):=by simpa using xY mp 0 8 (by simpa using h1) (by omega) (by omega) (by omega)
 have f2:xR ((cl+1:Nat):Int) 8 3=(((cl+1)*256:Nat):Int):=by simpa using xY (cl+1) 8 3 (by simp;omega) (by omega) (by omega) (by omega)
 have f4:xR (vr:Int) 32 32=((vr*4294967296:Nat):Int):=by simpa using xY vr 32 32 (by simpa using h4) (by omega) (by omega) (by omega)
 rw[w1,f1,f2,f4]
 rw[kT (a:=(mp:Int)) (b:=((vr*4294967296:Nat):Int)) (i:=8) (by omega) (by omega) (by first|(simp;done)|(simp;omega)) (by first|(simp;done)|(simp;omega)) (by omega)]
 have:orW ((mp:Int)+((vr*4294967296:Nat):Int)) (((cl+1)*256:Nat):Int)=(mp:Int)+((vr*4294967296:Nat):Int)+(((cl+1)*256:Nat):Int):=by
  unfold orW
  have h:=u64_or_nat (mp+vr*4294967296) ((cl+1)*256) (by omega) (by omega)
  have hc:((mp+vr*4294967296:Nat):Int)=(mp:Int)+((vr*4294967296:Nat):Int):=by omega
  rw[<- hc]
  refine h.trans ?_
  have e1:(mp+vr*4294967296) ||| (cl+1)*256=mp+vr*4294967296+(cl+1)*256:=by
   have g1:mp+vr*4294967296=vr*2 ^ 32 ||| mp:=by rw[Xg (by omega)];omega
   have g2:mp ||| (cl+1)*2 ^ 8=mp+(cl+1)*2 ^ 8:=xdX (by omega)
   rw[g1,Nat.or_assoc,show(cl+1)*256=(cl+1)*2 ^ 8 by omega,g2,Xg (by omega),Xg (by omega)]
   omega
  rw[e1];omega
 rw[this];omega
theorem xBO(mp cl vr:Nat)(h1:mp<256)(h4:vr<4294967296):Bt.word ⟨mp,false,cl,vr⟩=((mp+vr*4294967296:Nat):Int):=by
 unfold Bt.word
 simp only[cond_false]
 have f1:xR (mp:Int) 0 8=((mp:Nat):Int):=by simpa using xY mp 0 8 (by simpa using h1) (by omega) (by omega) (by omega)
 have f4:xR (vr:Int) 32 32=((vr*4294967296:Nat):Int):=by simpa using xY vr 32 32 (by simpa using h4) (by omega) (by omega) (by omega)
 rw[f1,f4]
 rw[kT (i:=8) (by omega) (by omega) (by first|(simp;done)|(simp;omega)) (by first|(simp;done)|(simp;omega)) (by omega)]
 omega
theorem xjl(n:Nat)(h:n<256):u8.wrap (n:Int)=n:=by
 have:u8.wrap (n:Int)=(n:Int)%256:=by simp[IntKind.wrap,IntKind.bits,IntKind.signed]
 rw[this];omega
theorem xsi(w:Nat)(hw:w<18446744073709551616):btOf (w:Int)=⟨((w%256:Nat):Int),decide (0<w / 256%8),if 0<w / 256%8 then((w / 256%8-1:Nat):Int)else 0,((w / 4294967296%4294967296:Nat):Int)⟩:=by
 unfold btOf
 have e1:=vt .u8 w 0 8 hw (by omega) (by omega)
 have e2:=vt .i64 w 8 3 hw (by omega) (by omega)
 have e4:=vt .u32 w 32 32 hw (by omega) (by omega)
 rw[xjl _ (by omega)]at e1
 rw[wrap_small _ (by omega)]at e2
 rw[jU _ (by omega)]at e4
 have f1:ofW .u8 (w:Int) 0 8=((w%256:Nat):Int):=by simpa using e1
 have f2:ofW .i64 (w:Int) 8 3=((w / 256%8:Nat):Int):=by simpa using e2
 have f4:ofW .u32 (w:Int) 32 32=((w / 4294967296%4294967296:Nat):Int):=by simpa using e4
 rw[f1,f2,f4]
 have hd:decide (((w / 256%8:Nat):Int)>0)=decide (0<w / 256%8):=by
  rw[Bool.eq_iff_iff,dT,dT];omega
 rw[hd]
 by_cases h:0<w / 256%8
 .simp only[h,decide_true,cond_true,if_true]
  congr 1
  have:=wrap_small (w / 256%8-1) (by omega)
  rw[<- this];congr 1;omega
 .simp only[h,decide_false,cond_false,if_false]
theorem xzz(mp cl vr:Nat)(h1:mp<256)(h2:cl<7)(h4:vr<4294967296):btOf (Bt.word ⟨mp,true,cl,vr⟩)=⟨mp,true,cl,vr⟩:=by
 rw[bt_word mp cl vr h1 h2 h4,xsi _ (by omega)]
 have hq:(mp+(cl+1)*256+vr*4294967296) / 256%8=cl+1:=by omega
 rw[hq]
 simp only[Nat.zero_lt_succ,decide_true,if_true]
 congr 1<;>omega
theorem xvV(mp cl vr:Nat)(h1:mp<256)(h4:vr<4294967296):btOf (Bt.word ⟨mp,false,cl,vr⟩)=⟨mp,false,0,vr⟩:=by
 rw[xBO mp cl vr h1 h4,xsi _ (by omega)]
 have hq:(mp+vr*4294967296) / 256%8=0:=by omega
 rw[hq]
 simp only[Nat.lt_irrefl,decide_false,if_false]
 congr 1<;>omega
end Lx
section
open Go Go.RowKit Lx
def nodesN(n t:Nat):Nat:=t*4*(n+1)+t*(2*t+3)
def Zr(n t:Nat):Nat->Nat
 | 0=>1|1=>1|2=>5|3=>9|4=>1|5=>4|6=>t|7=>n|8=>n|9=>n|10=>n*8|11=>n*8
 | 12=>t*4*2|13=>t*4|14=>t*2|15=>t|16=>t*(2*t+2)|17=>nodesN n t|18=>nodesN n t*8|_=>0
def Br(n t:Nat):Nat->Nat
 | 0=>0
 | r+1=>Br n t r+Zr n t r
theorem kU(n t:Nat) : ∀ {r q:Nat},r<=q->Br n t r<=Br n t q
 | r,0,h=>by
         obtain rfl:r=0:=by omega
         exact dI _
 | r,q+1,h=>by
  by_cases hr:r=q+1
  .subst hr;exact dI _
  .have:=kU n t (r:=r) (q:=q) (by omega)
   simp only[Br];omega
theorem Br_inj(n t:Nat){r q i j:Nat}(hi:i<Zr n t r)(hj:j<Zr n t q)(h:Br n t r+i=Br n t q+j):r=q/\i=j:=by
 have h1:Br n t (r+1)=Br n t r+Zr n t r:=rfl
 have h2:Br n t (q+1)=Br n t q+Zr n t q:=rfl
 rcases Nat.lt_trichotomy r q with an|heq|Ng
 .have:=kU n t (show r+1<=q by omega);omega
 .subst heq;exact⟨rfl,by omega⟩
 .have:=kU n t (show q+1<=r by omega);omega
theorem xbr{n t:Nat}(hn:n<=256)(ht:t<=64):nodesN n t<=74176:=by
 unfold nodesN
 have h1:t*4*(n+1)<=64*4*257:=Nat.mul_le_mul (Nat.mul_le_mul_right 4 ht) (by omega)
 have h2:t*(2*t+3)<=64*131:=Nat.mul_le_mul ht (by omega)
 omega
theorem xxf{n t:Nat}(hn:n<=256)(ht:t<=64):Br n t 19<=800000:=by
 have h1:=xbr hn ht
 have h2:t*(2*t+2)<=64*130:=Nat.mul_le_mul ht (by omega)
 simp only[Br,Zr]
 omega
def xd(n t:Nat):Geo:=⟨n,t,Br n t 0,Br n t 1,Br n t 2,Br n t 3,Br n t 4,Br n t 5,Br n t 6,Br n t 7,Br n t 8,Br n t 9,Br n t 10,Br n t 11,Br n t 12,Br n t 13,Br n t 14,Br n t 15,Br n t 16,Br n t 17,Br n t 18,Br n t 19⟩
theorem xfo(n t:Nat) : ∀r,r<=19->(xd n t).base r=(Br n t r:Int)
 | 0,_=>rfl|1,_=>rfl|2,_=>rfl|3,_=>rfl|4,_=>rfl|5,_=>rfl|6,_=>rfl|7,_=>rfl|8,_=>rfl|9,_=>rfl
 | 10,_=>rfl|11,_=>rfl|12,_=>rfl|13,_=>rfl|14,_=>rfl|15,_=>rfl|16,_=>rfl|17,_=>rfl|18,_=>rfl|19,_=>rfl
 | r+20,h=>by omega
structure Few(n t:Nat):Prop where
 n1:1<=n
 n2:n<=256
 t1:1<=t
 t2:t<=64
theorem Few.top{n t:Nat}(h:Few n t){r:Nat}(hr:r<=19):Br n t r<=800000:=Nat.le_trans (kU n t hr) (xxf h.n2 h.t2)
theorem wx{n t:Nat}(hf:Few n t){r i:Nat}(hr:r<19)(hi:i<Zr n t r):atF (xd n t) r (i:Int)=((Br n t r+i:Nat):Int):=by
 unfold atF
 have h1:=hf.top (r:=r+1) (by omega)
 have h2:Br n t (r+1)=Br n t r+Zr n t r:=rfl
 rw[xfo n t r (by omega),xfo n t (r+1) (by omega)]
 have e1:i64.wrap (((Br n t (r+1):Nat):Int)-((Br n t r:Nat):Int))=((Zr n t r:Nat):Int):=by rw[IntKind.wrap_i64];omega
 have e2:i64.wrap (((Br n t r:Nat):Int)+(i:Int))=((Br n t r+i:Nat):Int):=by rw[IntKind.wrap_i64];omega
 rw[e1,e2,show decide ((i:Int)<0)=false from dC (by omega),show decide ((i:Int)>=((Zr n t r:Nat):Int))=false from dC (by omega)]
 rfl
theorem at_bad{n t:Nat}(hf:Few n t){r:Nat}{i:Int}(hr:r<19)(hi:i<0\/(Zr n t r:Int)<=i):atF (xd n t) r i = -1:=by
 unfold atF
 have h1:=hf.top (r:=r+1) (by omega)
 have h2:Br n t (r+1)=Br n t r+Zr n t r:=rfl
 rw[xfo n t r (by omega),xfo n t (r+1) (by omega)]
 have e1:i64.wrap (((Br n t (r+1):Nat):Int)-((Br n t r:Nat):Int))=((Zr n t r:Nat):Int):=by rw[IntKind.wrap_i64];omega
 rw[e1]
 rcases hi with hi|hi
 .rw[show decide (i<0)=true by simpa using hi];rfl
 .by_cases h0:i<0
  .rw[show decide (i<0)=true by simpa using h0];rfl
  .rw[show decide (i<0)=false by simpa using h0,show decide (i>=((Zr n t r:Nat):Int))=true by simpa using hi];rfl
theorem xic{a k m:Nat}(ha:a<=1073741824)(hk:k<m)(hm:m<=1000):inF (a:Int) (k:Int) (m:Int)=((a*m+k:Nat):Int):=by
 unfold inF
 have h1:a*m<=1073741824*1000:=Nat.mul_le_mul ha hm
 have e1:i64.wrap (i64.wrap ((a:Int)*(m:Int))+(k:Int))=((a*m+k:Nat):Int):=by
  have:((a:Int)*(m:Int))=((a*m:Nat):Int):=by simp
  rw[this,IntKind.wrap_i64,IntKind.wrap_i64];omega
 rw[e1,show decide ((a:Int)<0)=false from dC (by omega),show decide ((a:Int)>1073741824)=false from dC (by omega),show decide ((k:Int)<0)=false from dC (by omega),show decide ((k:Int)>=(m:Int))=false from dC (by omega)]
 rfl
theorem in_bad{a k m:Int}(h:a<0\/k<0\/m<=k):inF a k m = -1:=by
 unfold inF
 by_cases h1:a<0
 .rw[show decide (a<0)=true by simpa using h1];rfl
 .by_cases h2:a>1073741824
  .rw[show decide (a<0)=false by simpa using h1,show decide (a>1073741824)=true by simpa using h2];rfl
  .by_cases h3:k<0
   .rw[show decide (a<0)=false by simpa using h1,show decide (a>1073741824)=false by simpa using h2,show decide (k<0)=true by simpa using h3];rfl
   .have h4:m<=k:=by omega
    rw[show decide (a<0)=false by simpa using h1,show decide (a>1073741824)=false by simpa using h2,show decide (k<0)=false by simpa using h3,show decide (k>=m)=true by simpa using h4];rfl
/-! ### a direct port, by regions -/
structure AS where
 w:Nat->Nat->Int
 b:List Int
 self:Int
 steps:Nat
 told:Option (List C)
def AS.set(A:AS)(r i:Nat)(v:Int):AS :={A with w:=fun q j=>if q=r/\j=i then v else A.w q j}
def AS.tick(A:AS):AS :={A with steps:=A.steps+1}
def decF(n t:Nat)(a:Int):Nat->Option (Nat×Nat)
 | 0=>none
 | r+1=>if(Br n t r:Int)<=a/\a<(Br n t (r+1):Int)then some (r,(a-Br n t r).toNat)else decF n t a r
theorem xK{n t r i:Nat}(hi:i<Zr n t r) : ∀q,r<q->decF n t ((Br n t r+i:Nat):Int) q=some (r,i)
 | 0,h=>by omega
 | q+1,h=>by
  have h1:Br n t (r+1)=Br n t r+Zr n t r:=rfl
  simp only[decF]
  by_cases hq:r=q
  .subst hq
   rw[dB ⟨by omega,by omega⟩]
   congr 2;omega
  .have:=kU n t (show r+1<=q by omega)
   rw[dA (by omega)]
   exact xK hi q (by omega)
theorem xbs{n t:Nat}{a:Int}{r i:Nat} : ∀q,decF n t a q=some (r,i)->r<q/\i<Zr n t r/\a=((Br n t r+i:Nat):Int)
 | 0,h=>by simp[decF]at h
 | q+1,h=>by
  simp only[decF]at h
  split at h
  .rename_i hc
   simp only[oI,dH]at h
   obtain⟨rfl,rfl⟩:=h
   have h1:Br n t (q+1)=Br n t q+Zr n t q:=rfl
   exact⟨by omega,by omega,by omega⟩
  .obtain⟨h1,h2,h3⟩:=xbs q h
   exact⟨by omega,h2,h3⟩
theorem xid{n t:Nat}{a:Int} : ∀q,decF n t a q=none->a<0\/(Br n t q:Int)<=a
 | 0,h=>by simp only[Br];omega
 | q+1,h=>by
  simp only[decF]at h
  split at h
  .cases h
  .rename_i hc
   have:=xid q h
   have h1:=kU n t (show q<=q+1 by omega)
   omega
def xo(n t:Nat):PStep AS:=fun o=>match o with
 | .load a=>fun A=>match decF n t a 19 with
  | some (r,i)=>some (A.w r i,A.tick)
  | none=>some (0,A.tick)
 | .store a v=>fun A=>match decF n t a 19 with
  | some (r,i)=>some ((),(A.set r i v).tick)
  | none=>some ((),A.tick)
 | .cas a x y=>fun A=>match decF n t a 19 with
  | some (r,i)=>if A.w r i=x then some (true,(A.set r i y).tick)else some (false,A.tick)
  | none=>some (false,A.tick)
 | .add a d=>fun A=>match decF n t a 19 with
  | some (r,i)=>some (A.w r i,(A.set r i (u64.wrap (A.w r i+d))).tick)
  | none=>some (0,A.tick)
 | .get a=>fun A=>match atI A.b a with
  | some x=>if 0<=x/\x<=255 then some (x,A.tick)else none
  | none=>some (0,A.tick)
 | .put a b=>fun A=>if 0<=b/\b<=255 then some ((),({A with b:=putI A.b a b}:AS).tick)else none
 | .self=>fun A=>some (A.self,A)
 | .steps=>fun A=>some (i64.wrap A.steps,A)
 | .tell r=>fun A=>some ((),{A with told:=some r})
structure Rep(n t:Nat)(A:AS)(s:DS):Prop where
 len:s.m.words.length=Br n t 19
 row : ∀r i,r<19->i<Zr n t r->s.m.words[Br n t r+i]? = some (A.w r i)
 bytes:s.m.bytes=A.b
 self:s.self=A.self
 steps:s.steps=i64.wrap A.steps
 told:s.told=A.told
theorem Rep.tick{n t:Nat}{A:AS}{s:DS}(h:Rep n t A s):Rep n t A.tick {s with steps:=i64.wrap (s.steps+1)}:=by
 refine⟨h.len,h.row,h.bytes,h.self,?_,h.told⟩
 show i64.wrap (s.steps+1)=i64.wrap ((A.steps+1:Nat):Int)
 rw[h.steps,IntKind.wrap_i64,IntKind.wrap_i64,IntKind.wrap_i64];omega
theorem Rep.set{n t:Nat}{A:AS}{s:DS}(h:Rep n t A s){r i:Nat}(hr:r<19)(hi:i<Zr n t r)(v:Int):Rep n t (A.set r i v) {s with m :={s.m with words:=s.m.words.set (Br n t r+i) v}}:=by
 refine⟨by simpa using h.len,fun q j hq hj =>?_,h.bytes,h.self,h.steps,h.told⟩
 have hl:=h.len
 have hb:=kU n t (show r+1<=19 by omega)
 have h1:Br n t (r+1)=Br n t r+Zr n t r:=rfl
 simp only[AS.set]
 by_cases he:q=r/\j=i
 .obtain⟨rfl,rfl⟩:=he
  rw[dB ⟨rfl,rfl⟩,List.getElem?_set_self (by omega)]
 .rw[dA he,List.getElem?_set_ne]
  .exact h.row q j hq hj
  .intro hh
   obtain⟨h2,h3⟩:=Br_inj n t hi hj hh
   exact he ⟨h2.symm,h3.symm⟩
theorem xoz{n t:Nat}{A:AS}{s:DS}(h:Rep n t A s){a:Int}(hd:decF n t a 19=none):atI s.m.words a=none:=by
 have h1:=xid 19 hd
 cases a with
 | negSucc m=>rfl
 | ofNat m=>
  simp only[atI]
  rw[List.getElem?_eq_none]
  rw[h.len];simp at h1;omega
theorem xBP{n t:Nat}{A:AS}{s:DS}(h:Rep n t A s){a:Int}(hd:decF n t a 19=none)(v:Int):putI s.m.words a v=s.m.words:=by
 have h1:=xid 19 hd
 cases a with
 | negSucc m=>rfl
 | ofNat m=>
  simp only[putI]
  rw[List.set_eq_of_length_le]
  rw[h.len];simp at h1;omega
theorem Xh{n t:Nat}{A:AS}{s:DS}(h:Rep n t A s){a:Int}{r i:Nat}(hd:decF n t a 19=some (r,i)):atI s.m.words a=some (A.w r i)/\ ∀v,putI s.m.words a v=s.m.words.set (Br n t r+i) v:=by
 obtain⟨h1,h2,rfl⟩:=xbs 19 hd
 exact⟨h.row r i h1 h2,fun v=>rfl⟩
theorem xBQ{n t:Nat}{A A':AS}{s:DS}(h:Rep n t A s)(o:POp)(x:o.Ans)(hs:xo n t o A=some (x,A')) : ∃s',yn o s=some (x,s')/\Rep n t A' s':=by
 cases o with
 | load a=>
  simp only[xo]at hs
  split at hs
  .rename_i r i hd
   cases hs
   refine⟨_,?_,h.tick⟩
   simp only[yn,dacc,acc,if_true,(Xh h hd).1,Option.getD_some]
  .rename_i hd
   cases hs
   refine⟨_,?_,h.tick⟩
   simp only[yn,dacc,acc,if_true,xoz h hd,Option.getD_none]
 | store a v=>
  simp only[xo]at hs
  split at hs
  .rename_i r i hd
   cases hs
   obtain⟨h1,h2,h3⟩:=xbs 19 hd
   refine⟨_,?_,(h.set h1 h2 v).tick⟩
   simp only[yn,dacc,acc,show ¬ (2:Int)=1 by decide,if_false,if_true,dL,(Xh h hd).2]
  .rename_i hd
   cases hs
   refine⟨_,?_,h.tick⟩
   simp only[yn,dacc,acc,show ¬ (2:Int)=1 by decide,if_false,if_true,dL,xBP h hd]
 | cas a x' y=>
  simp only[xo]at hs
  split at hs
  .rename_i r i hd
   obtain⟨h1,h2,h3⟩:=xbs 19 hd
   split at hs
   .rename_i hx
    cases hs
    refine⟨_,?_,(h.set h1 h2 y).tick⟩
    simp only[yn,dacc,acc,show ¬ (3:Int)=1 by decide,show ¬ (3:Int)=2 by decide,if_false,if_true,(Xh h hd).1,hx,dL,(Xh h hd).2]
    rfl
   .rename_i hx
    cases hs
    refine⟨_,?_,h.tick⟩
    simp only[yn,dacc,acc,show ¬ (3:Int)=1 by decide,show ¬ (3:Int)=2 by decide,if_false,if_true,(Xh h hd).1,dA hx,dL]
    rfl
  .rename_i hd
   cases hs
   refine⟨_,?_,h.tick⟩
   simp only[yn,dacc,acc,show ¬ (3:Int)=1 by decide,show ¬ (3:Int)=2 by decide,if_false,if_true,xoz h hd,dL]
   rfl
 | add a d=>
  simp only[xo]at hs
  split at hs
  .rename_i r i hd
   obtain⟨h1,h2,h3⟩:=xbs 19 hd
   cases hs
   refine⟨_,?_,(h.set h1 h2 _).tick⟩
   simp only[yn,dacc,acc,show ¬ (4:Int)=1 by decide,show ¬ (4:Int)=2 by decide,show ¬ (4:Int)=3 by decide,if_false,if_true,(Xh h hd).1,(Xh h hd).2]
  .rename_i hd
   cases hs
   refine⟨_,?_,h.tick⟩
   simp only[yn,dacc,acc,show ¬ (4:Int)=1 by decide,show ¬ (4:Int)=2 by decide,show ¬ (4:Int)=3 by decide,if_false,if_true,xoz h hd]
 | get a=>
  simp only[xo]at hs
  have e:yn (.get a) s=match(match atI s.m.bytes a with|some x=>if 0<=x/\x<=255 then some (x,s.m)else none|none=>some (0,s.m)) with
   | some (x,M')=>some (x,{s with m:=M',steps:=i64.wrap (s.steps+1)})
   | none=>none:=by
   simp only[yn,dacc,acc,show ¬ (5:Int)=1 by decide,show ¬ (5:Int)=2 by decide,show ¬ (5:Int)=3 by decide,show ¬ (5:Int)=4 by decide,if_false,if_true]
   rfl
  rw[e,h.bytes]
  split at hs
  .rename_i y hy
   split at hs
   .rename_i hc
    cases hs
    simp only[hc,and_self,if_true]
    exact⟨_,rfl,h.tick⟩
   .cases hs
  .rename_i hy
   cases hs
   exact⟨_,rfl,h.tick⟩
 | put a b=>
  simp only[xo]at hs
  split at hs
  .rename_i hc
   cases hs
   refine⟨_,?_,(Rep.tick (s :={s with m :={s.m with bytes:=putI s.m.bytes a b}}) (A :={A with b:=putI A.b a b}) ⟨h.len,h.row,by show putI s.m.bytes a b=putI A.b a b;rw[h.bytes],h.self,h.steps,h.told⟩)⟩
   simp only[yn,dacc,acc,show ¬ (6:Int)=1 by decide,show ¬ (6:Int)=2 by decide,show ¬ (6:Int)=3 by decide,show ¬ (6:Int)=4 by decide,show ¬ (6:Int)=5 by decide,if_false,if_true,hc,and_self,dL]
  .cases hs
 | self=>
  simp only[xo,oI,dH]at hs
  obtain⟨rfl,rfl⟩:=hs
  exact⟨s,by simp only[yn,h.self],h⟩
 | steps=>
  simp only[xo,oI,dH]at hs
  obtain⟨rfl,rfl⟩:=hs
  exact⟨s,by simp only[yn,h.steps],h⟩
 | tell r=>
  simp only[xo,oI,dH]at hs
  obtain⟨_,rfl⟩:=hs
  exact⟨_,rfl,⟨h.len,h.row,h.bytes,h.self,h.steps,rfl⟩⟩
theorem WR{n t:Nat}{α:Type} : ∀ (q:T α) {A A':AS} {s:DS} {a:α},Rep n t A s->q.run (xo n t) A=some (a,A') ->∃s',q.run yn s=some (a,s')/\Rep n t A' s'
 | .ret a,A,A',s,x,h,hr=>by cases hr;exact⟨s,rfl,h⟩
 | .fail,A,A',s,x,h,hr=>by cases hr
 | .op o k,A,A',s,x,h,hr=>by
  simp only[T.run]at hr |-
  split at hr
  .rename_i c A1 hc
   obtain⟨s1,h1,h2⟩:=xBQ h o c hc
   rw[h1]
   exact WR (k c) h2 hr
  .cases hr
/-! ### what runs come to -/
section
variable{n t:Nat}{α β:Type}{A:AS}{Q:α->AS->Prop}{c:Nat}
end
end
section
open Go Go.RowKit Lx
/-! ### the state's parts -/
@[simp] theorem AS.set_w (A:AS) (r i:Nat) (v:Int) (q j:Nat):(A.set r i v).w q j=if q=r/\j=i then v else A.w q j:=rfl
@[simp] theorem AS.set_b (A:AS) (r i:Nat) (v:Int):(A.set r i v).b=A.b:=rfl
@[simp] theorem AS.set_self (A:AS) (r i:Nat) (v:Int):(A.set r i v).self=A.self:=rfl
@[simp] theorem AS.set_steps (A:AS) (r i:Nat) (v:Int):(A.set r i v).steps=A.steps:=rfl
@[simp] theorem AS.set_told (A:AS) (r i:Nat) (v:Int):(A.set r i v).told=A.told:=rfl
@[simp] theorem AS.tick_w (A:AS):A.tick.w=A.w:=rfl
@[simp] theorem AS.tick_b (A:AS):A.tick.b=A.b:=rfl
@[simp] theorem AS.tick_self (A:AS):A.tick.self=A.self:=rfl
@[simp] theorem AS.tick_steps (A:AS):A.tick.steps=A.steps+1:=rfl
@[simp] theorem AS.tick_told (A:AS):A.tick.told=A.told:=rfl
structure Fr(R:List Nat)(c:Nat)(A A':AS):Prop where
 w : ∀r,r∉R ->∀i,A'.w r i=A.w r i
 b:A'.b=A.b
 self:A'.self=A.self
 told:A'.told=A.told
 lo:A.steps<=A'.steps
 hi:A'.steps<=A.steps+c
theorem Fr.refl(R:List Nat)(A:AS):Fr R 0 A A:=⟨fun _ _ _=>rfl,rfl,rfl,rfl,dI _,dI _⟩
theorem Fr.trans{R R' S:List Nat}{c d e:Nat}{A A' A'':AS}(h:Fr R c A A')(h':Fr R' d A' A'')(hR : ∀r∈R,r∈S:=by simp)(hR' : ∀r∈R',r∈S:=by simp)(hc:c+d<=e:=by omega):Fr S e A A'':=
 ⟨fun r hr i=>by rw[h'.w r (fun hh=>hr (hR' r hh)) i,h.w r (fun hh=>hr (hR r hh)) i],h'.b.trans h.b,h'.self.trans h.self,h'.told.trans h.told,by have:=h.lo;have:=h'.lo;omega,by have:=h.hi;have:=h'.hi;omega⟩
theorem Fr.mono{R S:List Nat}{c e:Nat}{A A':AS}(h:Fr R c A A')(hR : ∀r∈R,r∈S:=by simp)(hc:c<=e:=by omega):Fr S e A A':=
 ⟨fun r hr i=>h.w r (fun hh=>hr (hR r hh)) i,h.b,h.self,h.told,h.lo,by have:=h.hi;omega⟩
theorem Fr.tick(R:List Nat)(A:AS):Fr R 1 A A.tick:=⟨fun _ _ _=>rfl,rfl,rfl,rfl,by simp,by simp⟩
theorem Fr.set{R:List Nat}(A:AS){r i:Nat}(v:Int)(h:r∈R):Fr R 0 A (A.set r i v):=⟨fun q hq j=>by
 simp only[AS.set_w]
 rw[dA]
 rintro ⟨rfl,_⟩
 exact hq h,rfl,rfl,rfl,dI _,dI _⟩
theorem Fr.sett{R:List Nat}(A:AS){r i:Nat}(v:Int)(h:r∈R):Fr R 1 A (A.set r i v).tick:=(Fr.set A v h).trans (Fr.tick R _) (fun _ h=>h) (fun _ h=>h) (dI _)
/-! ### runs -/
def Rn(n t:Nat){α:Type}(q:T α)(A:AS)(Q:α->AS->Prop):Prop :=∃a A',q.run (xo n t) A=some (a,A')/\Q a A'
section
variable{n t:Nat}{α β:Type}{A:AS}{Q:α->AS->Prop}
theorem Rn.ret{a:α}(h:Q a A):Rn n t (.ret a) A Q:=⟨a,A,rfl,h⟩
theorem Rn.mono{q:T α}{Q':α->AS->Prop}(h:Rn n t q A Q)(hq : ∀a A',Q a A'->Q' a A'):Rn n t q A Q':=by
 obtain⟨a,A',h1,h2⟩:=h
 exact⟨a,A',h1,hq a A' h2⟩
theorem Rn.bind{q:T α}{f:α->T β}{Q1:α->AS->Prop}{Q2:β->AS->Prop}(h:Rn n t q A Q1)(hf : ∀a A',Q1 a A'->Rn n t (f a) A' Q2):Rn n t (q.bind f) A Q2:=by
 obtain⟨a,A',h1,h4⟩:=h
 obtain⟨b,A2,g1,g4⟩:=hf a A' h4
 exact⟨b,A2,by rw[T.run_bind,h1];exact g1,g4⟩
theorem Rn.run{q:T α}{f:α->T β}{a:α}{A':AS}{Q2:β->AS->Prop}(h:q.run (xo n t) A=some (a,A'))(hf:Rn n t (f a) A' Q2):Rn n t (q.bind f) A Q2:=by
 obtain⟨b,A2,g1,g4⟩:=hf
 exact⟨b,A2,by rw[T.run_bind,h];exact g1,g4⟩
theorem Rn.of{q:T α}{a:α}{A':AS}(h:q.run (xo n t) A=some (a,A'))(hq:Q a A'):Rn n t q A Q:=⟨a,A',h,hq⟩
theorem Rn.op{o:POp}{k:o.Ans->T α}{x:o.Ans}{A1:AS}(h:xo n t o A=some (x,A1))(hk:Rn n t (k x) A1 Q):Rn n t (.op o k) A Q:=by
 obtain⟨a,A',g1,g4⟩:=hk
 exact⟨a,A',by simp only[T.run,h];exact g1,g4⟩
theorem Rn.load{a:Int}{k:Int->T α}{r i:Nat}(ha:a=((Br n t r+i:Nat):Int))(hr:r<19)(hi:i<Zr n t r)(hk:Rn n t (k (A.w r i)) A.tick Q):Rn n t (.op (.load a) k) A Q:=by
 subst ha
 exact Rn.op (x:=A.w r i) (by simp only[xo,xK hi 19 hr]) hk
theorem Rn.store{a v:Int}{k:Unit->T α}{r i:Nat}(ha:a=((Br n t r+i:Nat):Int))(hr:r<19)(hi:i<Zr n t r)(hk:Rn n t (k ()) (A.set r i v).tick Q):Rn n t (.op (.store a v) k) A Q:=by
 subst ha
 exact Rn.op (o :=.store _ v) (x:=()) (by simp only[xo,xK hi 19 hr]) hk
theorem Rn.add{a d:Int}{k:Int->T α}{r i:Nat}(ha:a=((Br n t r+i:Nat):Int))(hr:r<19)(hi:i<Zr n t r)(hk:Rn n t (k (A.w r i)) (A.set r i (u64.wrap (A.w r i+d))).tick Q):Rn n t (.op (.add a d) k) A Q:=by
 subst ha
 exact Rn.op (o :=.add _ d) (x:=A.w r i) (by simp only[xo,xK hi 19 hr]) hk
theorem Rn.cas{a x y:Int}{k:Bool->T α}{r i:Nat}(ha:a=((Br n t r+i:Nat):Int))(hr:r<19)(hi:i<Zr n t r)(hx:A.w r i=x)(hk:Rn n t (k true) (A.set r i y).tick Q):Rn n t (.op (.cas a x y) k) A Q:=by
 subst ha
 exact Rn.op (o :=.cas _ _ y) (x:=true) (by simp only[xo,xK hi 19 hr,dB hx]) hk
theorem Rn.cas_not{a x y:Int}{k:Bool->T α}{r i:Nat}(ha:a=((Br n t r+i:Nat):Int))(hr:r<19)(hi:i<Zr n t r)(hx:A.w r i≠x)(hk:Rn n t (k false) A.tick Q):Rn n t (.op (.cas a x y) k) A Q:=by
 subst ha
 exact Rn.op (o :=.cas _ x y) (x:=false) (by simp only[xo,xK hi 19 hr,dA hx]) hk
theorem Rn.self{k:Int->T α}(hk:Rn n t (k A.self) A Q):Rn n t (.op .self k) A Q:=Rn.op (o :=.self) (x:=A.self) rfl hk
theorem Rn.steps{k:Int->T α}(hk:Rn n t (k (i64.wrap A.steps)) A Q):Rn n t (.op .steps k) A Q:=Rn.op (o :=.steps) (x:=i64.wrap A.steps) rfl hk
theorem Rn.tell{l:List C}{k:Unit->T α}(hk:Rn n t (k ()) {A with told:=some l} Q):Rn n t (.op (.tell l) k) A Q:=Rn.op (o :=.tell l) (x:=()) rfl hk
theorem Rn.yes{x y:T α}{b:Bool}(hb:b=true)(h:Rn n t x A Q):Rn n t (bif b then x else y) A Q:=by subst hb;exact h
theorem Rn.no{x y:T α}{b:Bool}(hb:b=false)(h:Rn n t y A Q):Rn n t (bif b then x else y) A Q:=by subst hb;exact h
theorem Rn.cond{x y:T α}{b:Bool}(h1:b=true->Rn n t x A Q)(h2:b=false->Rn n t y A Q):Rn n t (bif b then x else y) A Q:=by
 cases b
 .exact h2 rfl
 .exact h1 rfl
theorem Rn.loop{σ:Type}{B:σ->(σ->T α)->T α}(I:Nat->σ->AS->Prop)(hB : ∀k i A (κ:σ->T α),I k i A->(∀j i' A',j<k->I j i' A'->Rn n t (κ i') A' Q)->Rn n t (B i κ) A Q) :
  ∀ (N k:Nat) (i:σ) (A:AS),k<N->I k i A->Rn n t (xu N B i) A Q
 | 0,k,i,A,h,hI=>by omega
 | N+1,k,i,A,h,hI=>hB k i A (xu N B) hI fun j i' A' hj hI'=>Rn.loop I hB N j i' A' (by omega) hI'
end
end
section
open Go Go.RowKit Lx
theorem w64{x:Int}(h1 : -9223372036854775808<=x)(h2:x<9223372036854775808):i64.wrap x=x:=by rw[IntKind.wrap_i64];omega
def lg(m:Nat):Nat:=Lib.bitLen m-1
theorem xxg : ∀m,m<257->lg m<9:=by decide +kernel
theorem lg_step : ∀m,m<256->lg m<=lg (m+1):=by decide +kernel
theorem bl_pos : ∀m,m<257->0<m->1<=Lib.bitLen m:=by decide +kernel
theorem lg_mono{a b:Nat}(h:a<=b)(hb:b<=256):lg a<=lg b:=by
 induction b with
 | zero=>
      obtain rfl:a=0:=by omega
      exact dI _
 | succ b ih=>
  by_cases ha:a=b+1
  .subst ha;exact dI _
  .exact Nat.le_trans (ih (by omega) (by omega)) (lg_step b (by omega))
section
variable{n t:Nat}(hf:Few n t){α:Type}
include hf
theorem xoA{A:AS}{m:Nat}(h1:1<=m)(h2:m<=256):(logT (m:Int)).run (xo n t) A=some ((lg m:Int),A):=by
 have e1:u64.wrap (m:Int)=(m:Int):=by rw[dJ];omega
 have hb:=bl_pos m (by omega) (by omega)
 have hl:=xxg m (by omega)
 unfold logT xwy
 rw[e1,show(decide (0<=(m:Int))&&decide ((m:Int)<=18446744073709551615))=true by simp;omega]
 simp only[yE,cond_true,T.bind,T.run,Int.toNat_natCast]
 have e2:i64.wrap ((Lib.bitLen m:Int)-1)=(lg m:Int):=by
  unfold lg at hl |-
  rw[w64 (by omega) (by omega)];omega
 rw[e2]
theorem at7{p:Nat}(hp:p<n):atF (xd n t) 7 (p:Int)=((Br n t 7+p:Nat):Int):=wx hf (by omega) hp
theorem at3{p:Nat}(hp:p<9):atF (xd n t) 3 (p:Int)=((Br n t 3+p:Nat):Int):=wx hf (by omega) hp
theorem WS{A:AS}{p:Nat}(hp:p<n):(Vc (xd n t) (p:Int)).run (xo n t) A=some (pgOf (A.w 7 p),A.tick):=by
 unfold Vc xlq
 rw[at7 hf hp]
 simp only[T.run,xo,xK (show p<Zr n t 7 from hp) 19 (by omega)]
def AS.pg(A:AS)(p k m:Nat):AS:=(A.set 7 p (Pg.word ⟨k,m,0,0⟩)).tick
def AS.bin(A:AS)(m:Nat)(d:Int):AS:=(A.set 3 (lg m) (u64.wrap (A.w 3 (lg m)+d))).tick
theorem kV{A:AS}{p:Nat}(hp:p<n)(k m:Nat):(qK (xd n t) (p:Int) (k:Int) (m:Int)).run (xo n t) A=some ((),A.pg p k m):=by
 unfold qK xlr
 rw[at7 hf hp]
 simp only[T.run,xo,xK (show p<Zr n t 7 from hp) 19 (by omega)]
 rfl
theorem ka{A:AS}{m:Nat}(h1:1<=m)(h2:m<=256)(b:Bool):(kj (xd n t) (m:Int) b).run (xo n t) A=some ((),A.bin m (if b then 18446744073709551615 else 1)):=by
 have hl:=xxg m (by omega)
 unfold kj xab
 cases b
 .simp only[cond_false,T.run_bind,xoA hf h1 h2,at3 hf hl,T.run,xo,xK (show lg m<Zr n t 3 from hl) 19 (by omega)]
  rfl
 .simp only[cond_true,T.run_bind,xoA hf h1 h2,at3 hf hl,T.run,xo,xK (show lg m<Zr n t 3 from hl) 19 (by omega)]
  rfl
def AS.lay(A:AS)(p m:Nat):AS:=if m=0 then A else if 1<m then((A.pg (p+m-1) 2 m).pg p 1 m).bin m 1 else(A.pg p 1 m).bin m 1
theorem xfp{A:AS}{p m:Nat}(h:p+m<=n):(layT (xd n t) (p:Int) (m:Int)).run (xo n t) A=some ((),A.lay p m):=by
 have hn:=hf.n2
 unfold layT xwG AS.lay
 by_cases h0:m=0
 .subst h0;rfl
 .rw[dA h0,show((m:Int)==0)=false by simp;omega,cond_false]
  by_cases h1:1<m
  .have e:i64.wrap (i64.wrap ((p:Int)+(m:Int))-1)=((p+m-1:Nat):Int):=by
    rw[w64 (x:=(p:Int)+(m:Int)) (by omega) (by omega),w64 (by omega) (by omega)];omega
   rw[dB h1,show decide ((m:Int)>1)=true by simp;omega,cond_true,e]
   have r1:=kV hf (A:=A) (p:=p+m-1) (by omega) 2 m
   have r2:=kV hf (A:=A.pg (p+m-1) 2 m) (p:=p) (by omega) 1 m
   have r3:=ka hf (A:=(A.pg (p+m-1) 2 m).pg p 1 m) (m:=m) (by omega) (by omega) false
   rw[show((2:Int))=((2:Nat):Int)by rfl,show((1:Int))=((1:Nat):Int)by rfl]
   simp only[T.run_bind,r1,r2,r3,T.run]
   rfl
  .rw[dA h1,show decide ((m:Int)>1)=false by simp;omega,cond_false]
   have r2:=kV hf (A:=A) (p:=p) (by omega) 1 m
   have r3:=ka hf (A:=A.pg p 1 m) (m:=m) (by omega) (by omega) false
   rw[show((1:Int))=((1:Nat):Int)by rfl]
   simp only[T.run_bind,r2,r3,T.run]
   rfl
end
end
section
open Go Go.RowKit Lx
theorem wN(x:Nat)(h:x<9223372036854775808):i64.wrap (x:Int)=(x:Int):=by rw[IntKind.wrap_i64];omega
inductive Kd where
 | free
 | run
 | dfr
 | slab (c o:Nat)
 deriving DecidableEq
structure Sg where
 len:Nat
 kd:Kd
def plen:List Sg->Nat
 | []=>0
 | s::l=>s.len+plen l
theorem xz(L M:List Sg):plen (L++M)=plen L+plen M:=by
 induction L with
 | nil=>simp[plen]
 | cons s l ih=>simp only[List.cons_append,plen,ih];omega
def pw(k m c o:Nat):Int:=Pg.word ⟨k,m,c,o⟩
def body:Int:=pw 0 0 0 0
def Kd.head:Kd->Nat->Int
 | .free,m=>pw 1 m 0 0
 | .run,m=>pw 4 m 0 0
 | .dfr,m=>pw 5 m 0 0
 | .slab c o,_=>pw 3 1 c o
theorem vu(k m c o:Nat)(h1:k<8)(h2:m<1024)(h3:c<4)(h4:o<128):pgOf (pw k m c o)=⟨k,m,c,o⟩:=xzy k m c o h1 h2 h3 h4
def Sg.word(s:Sg)(i:Nat):Int:=
 if i=0 then s.kd.head s.len else if i+1=s.len/\s.kd = .free then pw 2 s.len 0 0 else body
def pageW:List Sg->Nat->Int
 | [],_=>body
 | s::l,p=>if p<s.len then s.word p else pageW l (p-s.len)
theorem yg(L M:List Sg)(p:Nat):pageW (L++M) p=if p<plen L then pageW L p else pageW M (p-plen L):=by
 induction L generalizing p with
 | nil=>simp[plen]
 | cons s l ih=>
  have bw:plen (s::l)=s.len+plen l:=rfl
  simp only[List.cons_append,pageW]
  by_cases h:p<s.len
  .rw[dB h,dB h,dB (show p<plen (s::l)by omega)]
  .rw[dA h,dA h,ih]
   by_cases h2:p-s.len<plen l
   .rw[dB h2,dB (show p<plen (s::l)by omega)]
   .rw[dA h2,dA (show ¬p<plen (s::l)by omega)];congr 1;omega
def Sg.ok(s:Sg):Prop:=1<=s.len/\ ∀c o,s.kd = .slab c o->s.len=1/\c<4/\o<64
def cntF:List Sg->Nat->Nat
 | [],_=>0
 | s::l,b=>(if s.kd = .free/\lg s.len=b then 1 else 0)+cntF l b
theorem kz(L M:List Sg)(b:Nat):cntF (L++M) b=cntF L b+cntF M b:=by
 induction L with
 | nil=>simp[cntF]
 | cons s l ih=>simp only[List.cons_append,cntF,ih];omega
theorem WT(L:List Sg)(b:Nat)(h : ∀s∈L,s.ok):cntF L b<=plen L:=by
 induction L with
 | nil=>simp[cntF]
 | cons s l ih=>
  have h1:=(h s (by simp)).1
  have h2:=ih fun x hx=>h x (by simp[hx])
  simp only[cntF,plen]
  split<;>omega
theorem xBR{L:List Sg}{s:Sg}(h:s∈L)(hk:s.kd = .free):1<=cntF L (lg s.len):=by
 induction L with
 | nil=>cases h
 | cons x l ih=>
  simp only[cntF]
  rcases List.mem_cons.1 h with rfl|h
  .rw[dB ⟨hk,rfl⟩];omega
  .have:=ih h;omega
theorem xxh{L:List Sg}{s:Sg}(h:s∈L):s.len<=plen L:=by
 induction L with
 | nil=>cases h
 | cons x l ih=>
  simp only[plen]
  rcases List.mem_cons.1 h with rfl|h
  .omega
  .have:=ih h;omega
structure Laid(n:Nat)(A:AS)(S:List Sg):Prop where
 len:plen S=n
 ok : ∀s∈S,s.ok
 w : ∀p,p<n->A.w 7 p=pageW S p
 bins : ∀b,b<9->A.w 3 b=(cntF S b:Int)
theorem Laid.of{n:Nat}{A A':AS}{S:List Sg}(h:Laid n A S)(h7 : ∀i,A'.w 7 i=A.w 7 i)(h3 : ∀i,A'.w 3 i=A.w 3 i):Laid n A' S:=
 ⟨h.len,h.ok,fun p hp=>by rw[h7,h.w p hp],fun b hb=>by rw[h3,h.bins b hb]⟩
theorem Laid.fr{n c:Nat}{R:List Nat}{A A':AS}{S:List Sg}(h:Laid n A S)(f:Fr R c A A')(h7:7∉R)(h3:3∉R):Laid n A' S:=h.of (f.w 7 h7) (f.w 3 h3)
theorem Laid.at_{n:Nat}{A:AS}{L R:List Sg}{s:Sg}(h:Laid n A (L++s::R)):A.w 7 (plen L)=s.kd.head s.len/\plen L<n:=by
 have h1:=h.len
 have h2:=(h.ok s (by simp)).1
 rw[xz,plen]at h1
 refine⟨?_,by omega⟩
 rw[h.w _ (by omega),yg,dA (by omega),Nat.sub_self,pageW,dB (by omega),Sg.word,dB rfl]
def kindOf:Kd->Nat
 | .free=>1
 | .run=>4
 | .dfr=>5
 | .slab _ _=>3
theorem xbt{s:Sg}(h:s.ok)(hl:s.len<=256):(pgOf (s.kd.head s.len)).kind=(kindOf s.kd:Int)/\(pgOf (s.kd.head s.len)).len=(s.len:Int):=by
 obtain⟨len,kd⟩:=s
 simp only at hl
 cases kd with
 | free=>simp only[Kd.head];rw[vu 1 len 0 0 (by omega) (by omega) (by omega) (by omega)];exact⟨rfl,rfl⟩
 | run=>simp only[Kd.head];rw[vu 4 len 0 0 (by omega) (by omega) (by omega) (by omega)];exact⟨rfl,rfl⟩
 | dfr=>simp only[Kd.head];rw[vu 5 len 0 0 (by omega) (by omega) (by omega) (by omega)];exact⟨rfl,rfl⟩
 | slab c o=>
  obtain⟨h1,h2,h3⟩:=h.2 c o rfl
  simp only at h1
  subst h1
  simp only[Kd.head]
  rw[vu 3 1 c o (by omega) (by omega) (by omega) (by omega)]
  exact⟨rfl,rfl⟩
def up(p a:Nat):Nat:=(p+a-1) / a*a
theorem xxi(p a:Nat)(ha:1<=a):p<=up p a:=by
 unfold up
 have:=Nat.div_add_mod (p+a-1) a
 have h2:=Nat.mod_lt (p+a-1) (show a>0 by omega)
 have e:a*((p+a-1) / a)=(p+a-1) / a*a:=Nat.mul_comm _ _
 omega
theorem xxj(p a:Nat)(ha:1<=a):up p a<p+a:=by
 unfold up
 have:=Nat.div_mul_le_self (p+a-1) a
 omega
theorem up_mod(p a:Nat):up p a%a=0:=by unfold up;exact Nat.mul_mod_left _ _
theorem xBS{p q a:Nat}(ha:1<=a)(hq:q%a=0)(h:p<=q):up p a<=q:=by
 have h1:=xxj p a ha
 have h2:=up_mod p a
 obtain⟨x,hx⟩:=Nat.dvd_of_mod_eq_zero hq
 obtain⟨y,hy⟩:=Nat.dvd_of_mod_eq_zero h2
 by_cases Or:y<=x
 .rw[hx,hy];exact Nat.mul_le_mul_left a Or
 .exfalso
  have:a*(x+1)<=a*y:=Nat.mul_le_mul_left a (by omega)
  rw[Nat.mul_add]at this
  omega
def xbu(s:Sg)(p k a:Nat):Prop:=s.kd = .free/\up p a+k<=p+s.len
section
variable{n t:Nat}(hf:Few n t)
include hf
theorem wrap_add{x y:Nat}(h:x+y<9223372036854775808):i64.wrap ((x:Int)+(y:Int))=((x+y:Nat):Int):=by
 rw[w64 (by omega) (by omega)];omega
theorem up_int{p a:Nat}(hp:p<=1000)(ha:1<=a)(s8:a<=1000):i64.wrap (i64.wrap (Int.tdiv (i64.wrap (i64.wrap ((p:Int)+(a:Int))-1)) (a:Int))*(a:Int))=(up p a:Int):=by
 have h1:=xxj p a ha
 rw[wrap_add hf (x:=p) (y:=a) (by omega),w64 (x:=((p+a:Nat):Int)-1) (by omega) (by omega)]
 have e:((p+a:Nat):Int)-1=((p+a-1:Nat):Int):=by omega
 rw[e,dS (by omega)]
 have e2:((p+a-1:Nat):Int) / (a:Int)=(((p+a-1) / a:Nat):Int):=rfl
 have hd:(p+a-1) / a<=p+a-1:=Nat.div_le_self _ _
 have fw:(p+a-1) / a<9223372036854775808:=Nat.lt_of_le_of_lt hd (by omega)
 rw[e2,wN ((p+a-1) / a) fw]
 have e3:(((p+a-1) / a:Nat):Int)*(a:Int)=(up p a:Int):=by unfold up;simp
 rw[e3,wN (up p a) (by omega)]
theorem xL{x:Nat}(h:x<9223372036854775807):i64.wrap ((x:Int)+1)=((x+1:Nat):Int):=by
 rw[w64 (by omega) (by omega)];omega
theorem run_any{A:AS}{S:List Sg}(h:Laid n A S){k:Nat}(hk:1<=k)(ef:k<=256):Rn n t (anyT (xd n t) (k:Int)) A fun r A'=>Fr [] 9 A A'/\(r=false ->∀s∈S,s.kd = .free->s.len<k):=by
 have hl:=xxg k (by omega)
 unfold anyT xwD
 refine Rn.run (xoA hf hk ef) ?_
 unfold YF
 refine Rn.loop (fun r i A' =>∃b:Nat,i=(b:Int)/\b<=9/\r=9-b/\lg k<=b/\Fr [] (b-lg k) A A'/\ ∀c,lg k<=c->c<b->A.w 3 c=0) ?_ xa (9-lg k) (lg k:Int) A (by unfold xa;omega) ⟨lg k,rfl,by omega,rfl,dI _,by rw[Nat.sub_self];exact Fr.refl _ _,fun c h1 h2=>by omega⟩
 rintro r i A1 κ ⟨b,rfl,hb,rfl,hlb,ao,hz⟩ hκ
 unfold xeq
 by_cases Nk:b<9
 .refine Rn.yes (by simp;omega) ?_
  refine Rn.load (r:=3) (i:=b) (at3 hf Nk) (by omega) Nk ?_
  have hw:A1.w 3 b=A.w 3 b:=ao.w 3 (by simp) b
  refine Rn.cond (fun hx =>?_) (fun hx =>?_)
  .refine Rn.ret ⟨(ao.trans (Fr.tick [] A1)),fun h=>by cases h⟩
  .rw[xL hf (x:=b) (by omega)]
   refine hκ (9-(b+1)) _ _ (by omega) ⟨b+1,rfl,by omega,rfl,by omega,ao.trans (Fr.tick [] A1),fun c h1 h2 =>?_⟩
   by_cases As:c=b
   .subst As;rw[<- hw];simpa using hx
   .exact hz c h1 (by omega)
 .refine Rn.no (by simp;omega) ?_
  refine Rn.ret ⟨ao.mono,fun _ s hs iw =>?_⟩
  have d8:s.len<=256:=by have:=xxh hs;rw[h.len]at this;have:=hf.n2;omega
  have h1:=xBR hs iw
  by_cases an:s.len<k
  .exact an
  .exfalso
   have h2:=lg_mono (show k<=s.len by omega) d8
   have h3:=xxg s.len (by omega)
   have h4:=hz (lg s.len) h2 (by omega)
   rw[h.bins _ h3]at h4
   omega
end
end
section
open Go Go.RowKit Lx
def kF(k a:Nat):Nat->List Sg->Prop
 | _,[]=>True
 | p,s::l=> ¬xbu s p k a/\kF k a (p+s.len) l
theorem xie{k a:Nat}{s:Sg} : ∀ {p:Nat} {L:List Sg},kF k a p L ->¬xbu s (p+plen L) k a->kF k a p (L ++ [s])
 | p,[],_,h=>⟨by simpa[plen]using h,trivial⟩
 | p,x::l,h1,h=>⟨h1.1,xie h1.2 (by rw[plen,<- Nat.add_assoc]at h;exact h)⟩
theorem xdY{k a:Nat} : ∀ {p:Nat} {L:List Sg},(∀s∈L,s.kd = .free->s.len<k)->1<=a->kF k a p L
 | p,[],_,_=>trivial
 | p,s::l,h,ha=>⟨fun eg=>by
   have h1:=h s (by simp) eg.1
   have h2:=eg.2
   have h3:=xxi p a ha
   omega,xdY (fun x hx=>h x (by simp[hx])) ha⟩
section
variable{n t:Nat}(hf:Few n t)
include hf
theorem xBT{A:AS}{w:Pg}{kd:Kd}{m:Nat}(h1:w.kind=(kindOf kd:Int))(h2:w.len=(m:Int))(hm:1<=m):(kE w).run (xo n t) A=some ((m:Int),A):=by
 unfold kE xbK
 rw[h1,h2,show((kindOf kd:Int)==0)=false by cases kd<;>rfl,show((kindOf kd:Int)==2)=false by cases kd<;>rfl,dA (by omega)]
 rfl
theorem xBU{A:AS}{S:List Sg}(h:Laid n A S){k a:Nat}(hk:1<=k)(ef:k<=256)(ha:1<=a)(s8:a<=256):Rn n t (xjR (xd n t) (k:Int) (a:Int)) A fun r A'=>Fr [] 300 A A'/\
  ((r=⟨0,0,0⟩/\kF k a 0 S)\/ ∃L s R,S=L++s::R/\xbu s (plen L) k a/\r=⟨(plen L:Int),(s.len:Int),(up (plen L) a:Int)⟩):=by
 have hn:=hf.n2
 unfold xjR xmg
 refine Rn.bind (run_any hf h hk ef) ?_
 rintro r A1 ⟨ao,hr⟩
 cases r with
 | false=>
  refine Rn.yes rfl (Rn.ret ⟨ao.mono,.inl ⟨rfl,xdY (hr rfl) ha⟩⟩)
 | true=>
  refine Rn.no rfl ?_
  have h1:=h.fr ao (by simp) (by simp)
  have af:=h.len
  have hlenS : ∀L:List Sg,(∀s∈L,s.ok)->L.length<=plen L:=by
   intro L
   induction L with
   | nil=>intro _;simp[plen]
   | cons x l ih=>intro hh;have:=ih fun y hy=>hh y (by simp[hy]);have:=(hh x (by simp)).1;simp only[List.length_cons,plen];omega
  have hSl:=hlenS S h.ok
  unfold jv
  refine Rn.loop (fun r i A' =>∃L R,S=L++R/\r=R.length/\i.1=(plen L:Int)/\Fr [] (9+L.length) A A'/\((i.2=(0,0,0)/\kF k a 0 L)\/ ∃L1 s R1,S=L1++s::R1/\xbu s (plen L1) k a/\i.2=((plen L1:Int),(s.len:Int),(up (plen L1) a:Int)))) ?_ xa S.length (0,0,0,0) A1 (by unfold xa;omega) ⟨[],S,rfl,rfl,rfl,ao.mono (by simp) (by simp),.inl ⟨rfl,trivial⟩⟩
  rintro r ⟨i,x,y,z⟩ A2 κ ⟨L,R,hS,rfl,hi,ae,de⟩ hκ
  simp only at hi de
  subst hi
  unfold xga xmf xf9
  simp only
  cases R with
  | nil=>
   have bw:plen L=n:=by rw[<- af,hS];simp
   refine Rn.no (by rw[dF,bw];exact Int.lt_irrefl _) ?_
   refine Rn.ret ⟨ae.mono (by simp) (by have:=hS▸hSl;simp at this;omega),?_⟩
   rcases de with⟨hc,bg⟩|⟨L1,s,R1,e1,e2,e3⟩
   .simp only[dH]at hc
    obtain⟨rfl,rfl,rfl⟩:=hc
    exact .inl ⟨rfl,by rw[hS,List.append_nil];exact bg⟩
   .simp only[dH]at e3
    obtain⟨rfl,rfl,rfl⟩:=e3
    exact .inr ⟨L1,s,R1,e1,e2,rfl⟩
  | cons s R=>
   have h2:=h.fr ae (by simp) (by simp)
   rw[hS]at h2
   obtain⟨hw,an⟩:=h2.at_
   have i6:=h2.ok s (by simp)
   have d8:s.len<=n-plen L:=by have:=h2.len;rw[xz,plen]at this;omega
   obtain⟨iw,mi⟩:=xbt i6 (by omega)
   have D8:=xxj (plen L) a ha
   have hLl:L.length<=256:=by have:=hlenS L (fun x hx=>h2.ok x (by simp[hx]));omega
   refine Rn.yes (by rw[dT];show((plen L:Nat):Int)<((n:Nat):Int);omega) ?_
   refine Rn.run (WS hf an) ?_
   rw[hw]
   refine Rn.yes (by rw[show((a:Int)==0)=false by simp;omega];rfl) ?_
   have nt : ∀p q v,((p,q,v)=((x,y,z):Int×Int×Int)/\(¬xbu s (plen L) k a\/y≠0)\/(xbu s (plen L) k a/\(p,q,v)=((plen L:Int),(s.len:Int),(up (plen L) a:Int))))->Rn n t (κ (i64.wrap ((plen L:Int)+(s.len:Int)),p,q,v)) A2.tick fun r A'=>Fr [] 300 A A'/\
     ((r=⟨0,0,0⟩/\kF k a 0 S)\/ ∃L s R,S=L++s::R/\xbu s (plen L) k a/\r=⟨(plen L:Int),(s.len:Int),(up (plen L) a:Int)⟩):=by
    intro p q v mq
    rw[wrap_add hf (x:=plen L) (y:=s.len) (by omega)]
    refine hκ R.length _ _ (by simp) ⟨L ++ [s],R,by rw[hS];simp,rfl,?_,ae.trans (Fr.tick [] A2) (by simp) (by simp) (by simp;omega),?_⟩
    .simp only[xz,plen];omega
    .rcases mq with⟨mq,bg⟩|⟨eg,mq⟩
     .simp only[mq]
      rcases de with⟨hc,J4⟩|hc
      .rcases bg with bg|bg
       .exact .inl ⟨hc,xie J4 (by simpa using bg)⟩
       .simp only[dH]at hc
        exact absurd hc.2.1 bg
      .exact .inr hc
     .simp only[mq]
      exact .inr ⟨L,s,R,hS,eg,rfl⟩
   have j9 : ∀ {A:AS},(kE {kind:=(pgOf (s.kd.head s.len)).kind,len:=(pgOf (s.kd.head s.len)).len,cls:=(pgOf (s.kd.head s.len)).cls,owner:=(pgOf (s.kd.head s.len)).owner}).run (xo n t) A=some ((s.len:Int),A):=xBT hf iw mi i6.1
   by_cases gl:s.kd = .free
   .refine Rn.yes (by rw[iw,gl];rfl) ?_
    rw[up_int hf (p:=plen L) (by omega) ha (by omega),mi,wrap_add hf (x:=up (plen L) a) (y:=k) (by omega),wrap_add hf (x:=plen L) (y:=s.len) (by omega)]
    by_cases eg:up (plen L) a+k<=plen L+s.len
    .refine Rn.yes (by rw[dT];omega) ?_
     refine Rn.cond (fun _ =>?_) (fun hy =>?_)
     .exact Rn.run j9 (nt _ _ _ (.inr ⟨⟨gl,eg⟩,rfl⟩))
     .refine Rn.cond (fun _ =>?_) (fun Gb =>?_)
      .exact Rn.run j9 (nt _ _ _ (.inr ⟨⟨gl,eg⟩,rfl⟩))
      .exact Rn.run j9 (nt _ _ _ (.inl ⟨rfl,.inr (by simpa using hy)⟩))
    .refine Rn.no (by rw[dF];omega) ?_
     exact Rn.run j9 (nt _ _ _ (.inl ⟨rfl,.inl fun hh=>eg hh.2⟩))
   .refine Rn.no (by rw[iw];cases oo:s.kd<;>first|rfl|exact absurd oo gl) ?_
    refine Rn.run j9 (nt _ _ _ (.inl ⟨rfl,.inl fun hh=>gl hh.1⟩))
end
end
section
open Go Go.RowKit Lx
/-! ### what laying does, word by word -/
theorem Zh(A:AS)(p k m q:Nat):(A.pg p k m).w 7 q=if q=p then pw k m 0 0 else A.w 7 q:=by
 simp only[AS.pg,AS.tick_w,AS.set_w,true_and];rfl
theorem pg_w(A:AS)(p k m r q:Nat)(h:r≠7):(A.pg p k m).w r q=A.w r q:=by
 simp only[AS.pg,AS.tick_w,AS.set_w,h,false_and,if_false]
theorem xif(A:AS)(m:Nat)(d:Int)(r q:Nat)(h:r≠3):(A.bin m d).w r q=A.w r q:=by
 simp only[AS.bin,AS.tick_w,AS.set_w,h,false_and,if_false]
theorem xvW(A:AS)(m:Nat)(d:Int)(b:Nat):(A.bin m d).w 3 b=if b=lg m then u64.wrap (A.w 3 b+d)else A.w 3 b:=by
 simp only[AS.bin,AS.tick_w,AS.set_w,true_and]
 split
 .rename_i h;rw[h]
 .rfl
theorem Zi(A:AS)(p k m:Nat):Fr [7] 1 A (A.pg p k m):=Fr.sett A _ (by simp)
theorem Kr(A:AS)(m:Nat)(d:Int):Fr [3] 1 A (A.bin m d):=Fr.sett A _ (by simp)
theorem xoB(A:AS)(p m q:Nat):(A.lay p m).w 7 q=if m≠0/\q=p then pw 1 m 0 0 else if 1<m/\q=p+m-1 then pw 2 m 0 0 else A.w 7 q:=by
 unfold AS.lay
 by_cases h0:m=0
 .rw[dB h0,dA (by omega),dA (by omega)]
 .rw[dA h0]
  by_cases h1:1<m
  .rw[dB h1,xif _ _ _ _ _ (by decide),Zh,Zh]
   by_cases hq:q=p
   .rw[dB hq,dB ⟨h0,hq⟩]
   .rw[dA hq,dA (show ¬ (m≠0/\q=p)by omega)]
    by_cases mf:q=p+m-1
    .rw[dB mf,dB ⟨h1,mf⟩]
    .rw[dA mf,dA (show ¬ (1<m/\q=p+m-1)by omega)]
  .rw[dA h1,xif _ _ _ _ _ (by decide),Zh]
   by_cases hq:q=p
   .rw[dB hq,dB ⟨h0,hq⟩]
   .rw[dA hq,dA (by omega),dA (by omega)]
theorem xbv{A:AS}{c:Nat->Nat}(h : ∀b,b<9->A.w 3 b=(c b:Int))(hc : ∀b,b<9->c b<=100000)(p m:Nat) : ∀b,b<9->(A.lay p m).w 3 b=((c b+if m≠0/\lg m=b then 1 else 0:Nat):Int):=by
 intro b hb
 have hw : ∀B:AS,(∀b,B.w 3 b=A.w 3 b)->(B.bin m 1).w 3 b=((c b+if lg m=b then 1 else 0:Nat):Int):=by
  intro B hB
  rw[xvW,hB,h b hb]
  have:=hc b hb
  by_cases hl:b=lg m
  .rw[dB hl,dB hl.symm,dJ];omega
  .rw[dA hl,dA (fun hh=>hl hh.symm)];rfl
 unfold AS.lay
 by_cases h0:m=0
 .rw[dB h0,dA (by omega),h b hb];rfl
 .rw[dA h0]
  have e:(if m≠0/\lg m=b then 1 else 0)=(if lg m=b then 1 else 0):=by simp[h0]
  rw[e]
  by_cases h1:1<m
  .rw[dB h1]
   exact hw _ fun b=>by rw[pg_w _ _ _ _ _ _ (by decide),pg_w _ _ _ _ _ _ (by decide)]
  .rw[dA h1]
   exact hw _ fun b=>by rw[pg_w _ _ _ _ _ _ (by decide)]
theorem xig(A:AS)(p m:Nat):Fr [7,3] 3 A (A.lay p m):=by
 unfold AS.lay
 by_cases h0:m=0
 .rw[dB h0];exact(Fr.refl [] A).mono
 .rw[dA h0]
  by_cases h1:1<m
  .rw[dB h1]
   exact((Zi A _ _ _).trans (Zi _ _ _ _) (S :=[7]) (e:=2)).trans (Kr _ _ _)
  .rw[dA h1]
   exact(Zi A _ _ _).trans (Kr _ _ _)
def frs(m:Nat):List Sg:=if m=0 then []else [⟨m,.free⟩]
theorem yM(m:Nat):plen (frs m)=m:=by
 unfold frs
 split
 .rename_i h;simp[plen,h]
 .simp[plen]
theorem xsj(m b:Nat):cntF (frs m) b=if m≠0/\lg m=b then 1 else 0:=by
 unfold frs
 by_cases h:m=0
 .rw[dB h,dA (by omega)];rfl
 .rw[dA h];simp[cntF,h]
theorem xc5{m:Nat}{s:Sg}(h:s∈frs m):s.ok/\s.kd = .free:=by
 unfold frs at h
 split at h
 .cases h
 .simp only[List.mem_singleton]at h
  subst h
  exact⟨⟨by simp;omega,fun c o hh=>by cases hh⟩,rfl⟩
theorem jf(m:Nat)(M:List Sg)(q:Nat):pageW (frs m++M) q=if q<m then Sg.word ⟨m,.free⟩ q else pageW M (q-m):=by
 rw[yg,yM]
 by_cases h:q<m
 .rw[dB h,dB h,frs,dA (by omega),pageW,dB h]
 .rw[dA h,dA h]
theorem xP(s:Sg)(l:List Sg):plen (s::l)=s.len+plen l:=rfl
theorem vi(s:Sg)(l:List Sg)(p:Nat):pageW (s::l) p=if p<s.len then s.word p else pageW l (p-s.len):=rfl
theorem Xi{s:Sg}{q:Nat}(h0:0<q)(h1:q+1<s.len):s.word q=body:=by
 unfold Sg.word
 rw[dA (by omega),dA (by omega)]
theorem xih(m:Nat):Sg.word ⟨m,.free⟩ 0=pw 1 m 0 0:=rfl
theorem Xj{m q:Nat}(h:1<m)(hq:q+1=m):Sg.word ⟨m,.free⟩ q=pw 2 m 0 0:=by
 unfold Sg.word
 rw[dA (by omega),dB ⟨hq,rfl⟩]
theorem xBV{m q:Nat}(h:0<q):Sg.word ⟨m,.run⟩ q=body:=by
 unfold Sg.word
 rw[dA (by omega),dA (by rintro ⟨_,hh⟩;cases hh)]
section
variable{n t:Nat}(hf:Few n t)
include hf
theorem xvX{β:Type}{A:AS}{u k:Nat}(hk:1<=k)(hu:u+k<=n){x y:Int}{κ:Unit->T β}{Q:β->AS->Prop}
  (h : ∀A',Fr [7] (k-1) A A'->(∀p,A'.w 7 p=if u<p/\p<u+k then body else A.w 7 p)->Rn n t (κ ()) A' Q):Rn n t (vw (k:Int) 0 false (xd n t) x y (u:Int) ((u+1:Nat):Int) κ) A Q:=by
 have hn:=hf.n2
 unfold vw
 refine Rn.loop (fun r i A' =>∃j:Nat,i=(j:Int)/\u+1<=j/\j<=u+k/\r=u+k-j/\Fr [7] (j-u-1) A A'/\ ∀p,A'.w 7 p=if u<p/\p<j then body else A.w 7 p) ?_ xa (k-1) _ A (by unfold xa;omega) ⟨u+1,rfl,by omega,by omega,by omega,by rw[show u+1-u-1=0 by omega];exact Fr.refl _ _,fun p=>by rw[dA (by omega)]⟩
 rintro r i A1 κ' ⟨j,rfl,h1,h2,rfl,ao,hw⟩ hκ
 unfold VC
 rw[wrap_add hf (x:=u) (y:=k) (by omega)]
 by_cases hj:j<u+k
 .refine Rn.yes (by rw[dT];omega) ?_
  refine Rn.run (kV hf (p:=j) (by omega) 0 0) ?_
  rw[xL hf (x:=j) (by omega)]
  refine hκ (u+k-(j+1)) _ _ (by omega) ⟨j+1,rfl,by omega,by omega,rfl,ao.trans (Zi _ _ _ _),fun p =>?_⟩
  rw[Zh,hw]
  by_cases hp:p=j
  .rw[dB hp,dB (by omega)];rfl
  .rw[dA hp]
   by_cases Ea:u<p/\p<j
   .rw[dB Ea,dB (by omega)]
   .rw[dA Ea,dA (by omega)]
 .have Dn:j=u+k:=by omega
  refine Rn.no (by rw[dF];omega) ?_
  exact h A1 ao.mono (by rw[Dn]at hw;exact hw)
theorem xBW{A A6:AS}{L R:List Sg}{s:Sg}{u k:Nat}(h:Laid n A (L++s::R))(hs:s.kd = .free)(hk:1<=k)(hu:plen L<=u)(G2:u+k<=plen L+s.len)
  (h7 : ∀p,A6.w 7 p=if plen L+s.len-u-k≠0/\p=u+k then pw 1 (plen L+s.len-u-k) 0 0 else if 1<plen L+s.len-u-k/\p=u+k+(plen L+s.len-u-k)-1 then pw 2 (plen L+s.len-u-k) 0 0 else
   if u-plen L≠0/\p=plen L then pw 1 (u-plen L) 0 0 else if 1<u-plen L/\p=plen L+(u-plen L)-1 then pw 2 (u-plen L) 0 0 else if p=u then pw 4 k 0 0 else if u<p/\p<u+k then body else A.w 7 p)
  (h3 : ∀b,b<9->A6.w 3 b=((cntF L b+cntF R b+(if u-plen L≠0/\lg (u-plen L)=b then 1 else 0)+(if plen L+s.len-u-k≠0/\lg (plen L+s.len-u-k)=b then 1 else 0):Nat):Int)) :
  Laid n A6 (L++(frs (u-plen L)++(⟨k,.run⟩::(frs (plen L+s.len-u-k)++R)))):=by
 have af:=h.len
 rw[xz,xP]at af
 generalize hx:u-plen L=x at *
 generalize hy:plen L+s.len-u-k=y at *
 refine⟨?_,fun z hz =>?_,fun p hp =>?_,fun b hb =>?_⟩
 .simp only[xz,xP,yM];omega
 .simp only[List.mem_append,List.mem_cons]at hz
  rcases hz with hz|hz|rfl|hz|hz
  .exact h.ok z (by simp[hz])
  .exact(xc5 hz).1
  .exact⟨hk,fun c o hh=>by cases hh⟩
  .exact(xc5 hz).1
  .exact h.ok z (by simp[hz])
 .have hw:=h.w p hp
  rw[yg]at hw
  rw[h7,yg]
  by_cases c1:p<plen L
  .rw[dB c1]at hw |-
   rw[dA (by omega),dA (by omega),dA (by omega),dA (by omega),dA (by omega),dA (by omega),hw]
  .rw[dA c1,vi]at hw
   rw[dA (show ¬p<plen L from c1),jf]
   by_cases c2:p<u
   .rw[dA (by omega),dA (by omega),dB (show p-plen L<x by omega)]
    by_cases c3:p=plen L
    .rw[dB (by omega),c3,Nat.sub_self];rfl
    .rw[dA (by omega)]
     by_cases c4:p=plen L+x-1
     .rw[dB (by omega),Xj (by omega) (by omega)]
     .rw[dA (by omega),dA (by omega),dA (by omega),hw,dB (by omega),Xi (by omega) (by omega),Xi (by omega) (by simp only;omega)]
   .rw[dA (show ¬p-plen L<x by omega),vi]
    simp only
    by_cases c3:p<u+k
    .rw[dA (by omega),dA (by omega),dA (by omega),dA (by omega),dB (show p-plen L-x<k by omega)]
     by_cases c4:p=u
     .rw[dB c4,show p-plen L-x=0 by omega];rfl
     .rw[dA c4,dB (by omega),xBV (by omega)]
    .rw[dA (show ¬p-plen L-x<k by omega),jf]
     by_cases c4:p<plen L+s.len
     .rw[dB (show p-plen L-x-k<y by omega)]
      by_cases c5:p=u+k
      .rw[dB (by omega),show p-plen L-x-k=0 by omega];rfl
      .rw[dA (by omega)]
       by_cases c6:p=u+k+y-1
       .rw[dB (by omega),Xj (by omega) (by omega)]
       .rw[dA (by omega),dA (by omega),dA (by omega),dA (by omega),dA (by omega),hw,dB (by omega),Xi (by omega) (by omega),Xi (by omega) (by simp only;omega)]
     .rw[dA (by omega),dA (by omega),dA (by omega),dA (by omega),dA (by omega),dA (by omega),hw,dA (by omega),dA (show ¬p-plen L-x-k<y by omega)]
      congr 1;omega
 .rw[h3 b hb]
  simp only[kz,cntF,xsj]
  have e:(if(Kd.run=Kd.free/\lg k=b)then 1 else 0)=0:=by rw[dA (by rintro ⟨hh,_⟩;cases hh)]
  rw[e]
  omega
theorem xii{A:AS}{S:List Sg}(h:Laid n A S){k a:Nat}(hk:1<=k)(ef:k<=n)(ha:1<=a)(s8:a<9223372036854775808):Rn n t (kM (xd n t) (k:Int) (a:Int)) A fun r A'=>
  (r=(0,false)/\Fr [] 300 A A'/\kF k (min a 256) 0 S)\/
  ∃L s R,S=L++s::R/\xbu s (plen L) k (min a 256)/\r=((up (plen L) (min a 256):Int),true)/\Fr [7,3] 1000 A A'/\
   Laid n A' (L++(frs (up (plen L) (min a 256)-plen L)++(⟨k,.run⟩::(frs (plen L+s.len-up (plen L) (min a 256)-k)++R)))):=by
 have hn:=hf.n2
 have D2:1<=min a 256/\min a 256<=256:=by omega
 unfold kM XE
 refine Rn.no (by rw[dF];omega) ?_
 refine Rn.no (by rw[dF];omega) ?_
 refine Rn.no (by rw[dF];show ¬ (k:Int)>((n:Nat):Int);omega) ?_
 rw[show(if(256:Int)<(a:Int)then(256:Int)else(a:Int))=((min a 256:Nat):Int)by split<;>omega]
 generalize min a 256=a' at *
 refine Rn.bind (xBU hf h hk (by omega) D2.1 D2.2) ?_
 rintro r A1 ⟨ao,hr⟩
 rcases hr with⟨rfl,bg⟩|⟨L,s,R,rfl,eg,rfl⟩
 .exact Rn.yes rfl (Rn.ret (.inl ⟨rfl,ao,bg⟩))
 .have h1:=h.fr ao (by simp) (by simp)
  have i6:=h.ok s (by simp)
  have af:=h.len
  rw[xz,xP]at af
  have D8:=xxi (plen L) a' D2.1
  obtain⟨gl,y7⟩:=eg
  refine Rn.no (by simp;have:=i6.1;omega) ?_
  refine Rn.run (ka hf i6.1 (by omega) true) ?_
  simp only
  obtain⟨u,hu⟩ : ∃u,u=up (plen L) a':=⟨_,rfl⟩
  rw[<- hu]at D8 y7 |-
  rw[xL hf (x:=u) (by omega)]
  refine xvX hf hk (by omega) fun A3 ar D6 =>?_
  refine Rn.run (kV hf (p:=u) (by omega) 4 k) ?_
  have e1:i64.wrap ((u:Int)-(plen L:Int))=((u-plen L:Nat):Int):=by rw[w64 (by omega) (by omega)];omega
  rw[e1]
  refine Rn.run (xfp hf (p:=plen L) (m:=u-plen L) (by omega)) ?_
  have e2:i64.wrap (i64.wrap (i64.wrap ((plen L:Int)+(s.len:Int))-(u:Int))-(k:Int))=((plen L+s.len-u-k:Nat):Int):=by
   rw[wrap_add hf (by omega),w64 (x:=((plen L+s.len:Nat):Int)-(u:Int)) (by omega) (by omega),w64 (by omega) (by omega)];omega
  rw[e2,wrap_add hf (x:=u) (y:=k) (by omega)]
  refine Rn.run (xfp hf (p:=u+k) (m:=plen L+s.len-u-k) (by omega)) ?_
  refine Rn.ret (.inr ⟨L,s,R,rfl,⟨gl,by rw[<- hu];exact y7⟩,by rw[<- hu],?_,?_⟩)
  .refine(((((ao.trans (Kr _ _ _) (S :=[7,3]) (e:=301)).trans ar (S :=[7,3]) (e:=301+(k-1))).trans (Zi _ _ _ _) (S :=[7,3]) (e:=301+k)).trans (xig _ _ _) (S :=[7,3]) (e:=304+k)).trans (xig _ _ _) (S :=[7,3]) (e:=1000))
  .rw[<- hu]
   refine xBW hf h1 gl hk D8 y7 (fun p =>?_) ?_
   .rw[xoB,xoB,Zh,D6,xif _ _ _ _ _ (by decide)]
   .have Gq : ∀b,b<9->(A1.bin s.len (if true=true then 18446744073709551615 else 1)).w 3 b=((cntF L b+cntF R b:Nat):Int):=by
     intro b hb
     rw[xvW,h1.bins b hb]
     simp only[kz,cntF,gl,true_and,if_true]
     have hc:=WT L b fun x hx=>h.ok x (by simp[hx])
     have su:=WT R b fun x hx=>h.ok x (by simp[hx])
     by_cases hl:b=lg s.len
     .rw[dB hl,dB hl.symm,dJ];omega
     .rw[dA hl,dA (fun hh=>hl hh.symm)];omega
    have Lp : ∀b,b<9->(A3.pg u 4 k).w 3 b=((cntF L b+cntF R b:Nat):Int):=fun b hb=>by
     rw[pg_w _ _ _ _ _ _ (by decide),ar.w 3 (by simp) b];exact Gq b hb
    have As : ∀b,b<9->cntF L b+cntF R b<=1000:=fun b hb=>by
     have hc:=WT L b fun x hx=>h.ok x (by simp[hx])
     have su:=WT R b fun x hx=>h.ok x (by simp[hx])
     omega
    have Lo:=xbv (A:=A3.pg u 4 k) (c:=fun b=>cntF L b+cntF R b) Lp (fun b hb=>by have:=As b hb;omega) (plen L) (u-plen L)
    exact xbv (A:=(A3.pg u 4 k).lay (plen L) (u-plen L)) (c:=fun b=>cntF L b+cntF R b+if u-plen L≠0/\lg (u-plen L)=b then 1 else 0) Lo (fun b hb=>by have:=As b hb;split<;>omega) (u+k) (plen L+s.len-u-k)
end
end
section
open Go Go.RowKit Lx
def yh(L:List Sg):Bool:=match L.getLast? with
 | some s=>decide (s.kd = .free)
 | none=>false
def firstFree:List Sg->Bool
 | []=>false
 | s::_=>decide (s.kd = .free)
def Norm:List Sg->Prop
 | []=>True
 | s::l=>(s.kd = .free->firstFree l=false)/\Norm l
theorem xjm(s x:Sg)(l:List Sg):yh (s::x::l)=yh (x::l):=by simp[yh]
theorem xO : ∀ (L M:List Sg),Norm (L++M)↔Norm L/\Norm M/\(yh L=true->firstFree M=false)
 | [],M=>by simp[Norm,yh]
 | [s],M=>by
  simp only[List.singleton_append,Norm,firstFree,yh,List.getLast?_singleton,dT,implies_true,true_and]
  exact And.comm
 | s::x::l,M=>by
  have ih:=xO (x::l) M
  rw[List.cons_append,Norm,ih,xjm]
  have e:firstFree (x::l++M)=firstFree (x::l):=rfl
  rw[e]
  simp only[Norm,and_assoc]
theorem Vl(L:List Sg)(s:Sg):yh (L ++ [s])=decide (s.kd = .free):=by simp[yh]
theorem xxk{m:Nat}(h:0<m):frs m = [⟨m,.free⟩]:=by unfold frs;rw[dA (by omega)]
theorem xBX:frs 0 = []:=rfl
theorem xvY(L:List Sg)(bl : ∀s∈L,s.ok)(hN:Norm L) : ∃L0 b,L=L0++frs b/\yh L0=false/\(b=0->yh L=false):=by
 rcases List.eq_nil_or_concat L with rfl|⟨L0,s,rfl⟩
 .exact⟨[],0,rfl,rfl,fun _=>rfl⟩
 .by_cases hs:s.kd = .free
  .have h1:=(bl s (by simp)).1
   refine⟨L0,s.len,?_,?_,fun h=>by omega⟩
   .rw[xxk (by omega)]
    obtain⟨len,kd⟩:=s
    simp only at hs
    rw[hs,List.concat_eq_append]
   .cases hl:yh L0 with
    | false=>rfl
    | true=>
     rw[List.concat_eq_append,xO]at hN
     have:=hN.2.2 hl
     simp[firstFree,hs]at this
  .refine⟨L0.concat s,0,by simp[xBX],?_,fun _ =>?_⟩<;>
   .rw[List.concat_eq_append,Vl];simpa using hs
theorem xsk(R:List Sg)(bl : ∀s∈R,s.ok)(hN:Norm R) : ∃a R0,R=frs a++R0/\firstFree R0=false/\(a=0->firstFree R=false):=by
 cases R with
 | nil=>exact⟨0,[],rfl,rfl,fun _=>rfl⟩
 | cons s R0=>
  by_cases hs:s.kd = .free
  .have h1:=(bl s (by simp)).1
   refine⟨s.len,R0,?_,hN.1 hs,fun h=>by omega⟩
   rw[xxk (by omega)]
   obtain⟨len,kd⟩:=s
   simp only at hs
   rw[hs];rfl
  .exact⟨0,s::R0,rfl,by simp[firstFree,hs],fun _=>by simp[firstFree,hs]⟩
theorem WU{s:Sg}(bl:s.ok)(hs:s.kd ≠ .free){q:Nat}(h:0<q):s.word q=body:=by
 unfold Sg.word
 rw[dA (by omega),dA (fun hh=>hs hh.2)]
section
variable{n t:Nat}(hf:Few n t)
include hf
theorem xzA{A A':AS}{L0 R0:List Sg}{s:Sg}{b a:Nat}(h:Laid n A (L0++(frs b++(s::(frs a++R0)))))(hs:s.kd ≠ .free)
  (h7 : ∀q,A'.w 7 q=if q=plen L0 then pw 1 (b+s.len+a) 0 0 else if 1<b+s.len+a/\q=plen L0+(b+s.len+a)-1 then pw 2 (b+s.len+a) 0 0 else
   if q=plen L0+b\/(0<b/\q=plen L0+b-1)\/(0<a/\q=plen L0+b+s.len)then body else A.w 7 q)
  (h3 : ∀c,c<9->A'.w 3 c=((cntF L0 c+cntF R0 c+(if lg (b+s.len+a)=c then 1 else 0):Nat):Int)) :
  Laid n A' (L0++(⟨b+s.len+a,.free⟩::R0)):=by
 have af:=h.len
 simp only[xz,xP,yM]at af
 have i6:=h.ok s (by simp)
 have cq:=i6.1
 refine⟨?_,fun z hz =>?_,fun q hq =>?_,fun c hc =>?_⟩
 .simp only[xz,xP];omega
 .simp only[List.mem_append,List.mem_cons]at hz
  rcases hz with hz|rfl|hz
  .exact h.ok z (by simp[hz])
  .exact⟨by simp only;omega,fun c o hh=>by cases hh⟩
  .exact h.ok z (by simp[hz])
 .have hw:=h.w q hq
  rw[yg]at hw
  rw[h7,yg,vi]
  simp only
  by_cases c1:q<plen L0
  .rw[dB c1]at hw |-
   rw[dA (by omega),dA (by omega),dA (by omega),hw]
  .rw[dA c1,jf,vi,jf]at hw
   rw[dA (show ¬q<plen L0 from c1)]
   by_cases c2:q=plen L0
   .rw[dB c2,dB (by omega),c2,Nat.sub_self];rfl
   .rw[dA c2]
    by_cases c3:q<plen L0+(b+s.len+a)
    .rw[dB (show q-plen L0<b+s.len+a by omega)]
     by_cases c4:q=plen L0+(b+s.len+a)-1
     .rw[dB (by omega),Xj (by omega) (by omega)]
     .rw[dA (by omega),Xi (s:=⟨b+s.len+a,.free⟩) (by omega) (by simp only;omega)]
      by_cases c5:q=plen L0+b\/(0<b/\q=plen L0+b-1)\/(0<a/\q=plen L0+b+s.len)
      .rw[dB c5]
      .rw[dA c5,hw]
       by_cases c6:q-plen L0<b
       .rw[dB c6,Xi (by omega) (by simp only;omega)]
       .rw[dA c6]
        by_cases c7:q-plen L0-b<s.len
        .rw[dB c7,WU i6 hs (by omega)]
        .rw[dA c7,dB (by omega),Xi (by omega) (by simp only;omega)]
    .rw[dA (show ¬q-plen L0<b+s.len+a by omega),dA (by omega),dA (by omega),hw,dA (by omega),dA (by omega),dA (by omega)]
     congr 1;omega
 .rw[h3 c hc]
  simp only[kz,cntF,true_and]
  omega
theorem xzB{A:AS}{L0 M:List Sg}{b:Nat}(h:Laid n A (L0++(frs b++M)))(hb:b=0->yh L0=false)(hM:0<plen M):Rn n t (xbT (xd n t) ((plen L0+b:Nat):Int)) A fun r A'=>r=(b:Int)/\Fr [] 1 A A':=by
 have hn:=hf.n2
 have af:=h.len
 simp only[xz,yM]at af
 unfold xbT xen
 by_cases h0:plen L0+b=0
 .refine Rn.yes (by rw[h0];rfl) (Rn.ret ⟨by omega,(Fr.refl [] A).mono⟩)
 .refine Rn.no (by simp;omega) ?_
  have e:i64.wrap (((plen L0+b:Nat):Int)-1)=((plen L0+b-1:Nat):Int):=by rw[w64 (by omega) (by omega)];omega
  rw[e]
  refine Rn.run (WS hf (p:=plen L0+b-1) (by omega)) ?_
  have hw:=h.w (plen L0+b-1) (by omega)
  rw[hw,yg]
  by_cases pj:b=0
  .have hl:=hb pj
   subst pj
   rcases List.eq_nil_or_concat L0 with rfl|⟨L1,x,rfl⟩
   .simp[plen]at h0
   .rw[List.concat_eq_append]at *
    rw[Vl,dF]at hl
    have sd:=h.ok x (by simp)
    have Jb:=sd.1
    have bw:plen (L1 ++ [x])=plen L1+x.len:=by simp[xz,plen]
    rw[dB (by omega),yg,dA (by omega),vi,dB (by omega)]
    have key : ∀w:Pg,w.kind≠2->w.kind≠1->Rn n t (bif w.kind==2 then T.ret w.len else bif w.kind==1 then T.ret w.len else T.ret (0:Int)) A.tick fun r A'=>r=((0:Nat):Int)/\Fr [] 1 A A':=by
     intro w h2 h1
     exact Rn.no (by simpa using h2) (Rn.no (by simpa using h1) (Rn.ret ⟨rfl,Fr.tick [] A⟩))
    refine key _ ?_ ?_
    all_goals
     by_cases nf:plen (L1 ++ [x])+0-1-plen L1=0
     .rw[nf]
      obtain⟨g1,_⟩:=xbt sd (by omega)
      show(pgOf (x.kd.head x.len)).kind≠_
      rw[g1]
      cases hk:x.kd<;>first|(exact absurd hk hl)|(simp[kindOf])
     .rw[WU sd hl (by omega)]
      unfold body
      rw[vu 0 0 0 0 (by omega) (by omega) (by omega) (by omega)]
      simp
  .rw[dA (by omega),jf,dB (by omega)]
   by_cases dl:b=1
   .rw[show plen L0+b-1-plen L0=0 by omega,xih,vu 1 b 0 0 (by omega) (by omega) (by omega) (by omega)]
    exact Rn.ret ⟨rfl,Fr.tick [] A⟩
   .rw[Xj (by omega) (by omega),vu 2 b 0 0 (by omega) (by omega) (by omega) (by omega)]
    exact Rn.ret ⟨rfl,Fr.tick [] A⟩
theorem xvZ{A:AS}{M R0:List Sg}{a:Nat}(h:Laid n A (M++(frs a++R0)))(ha:a=0->firstFree R0=false):Rn n t (Yz (xd n t) ((plen M:Nat):Int)) A fun r A'=>r=(a:Int)/\Fr [] 1 A A':=by
 have hn:=hf.n2
 have af:=h.len
 simp only[xz,yM]at af
 have hlenR:R0 = []\/ ∃x R1,R0=x::R1:=by cases R0<;>simp
 unfold Yz KV
 by_cases h0:plen M=n
 .refine Rn.yes (by rw[h0];show((n:Int)==((n:Nat):Int))=true;simp) (Rn.ret ⟨by omega,(Fr.refl [] A).mono⟩)
 .refine Rn.no (by show(((plen M:Nat):Int)==((n:Nat):Int))=false;simp;omega) ?_
  have an:plen M<n:=by omega
  refine Rn.run (WS hf (p:=plen M) an) ?_
  have hw:=h.w (plen M) an
  rw[hw,yg,dA (by omega),Nat.sub_self,jf]
  by_cases Av:a=0
  .have hl:=ha Av
   subst Av
   rw[dA (by omega)]
   rcases hlenR with rfl|⟨x,R1,rfl⟩
   .simp[plen]at af;omega
   .simp only[firstFree,dF]at hl
    have sd:=h.ok x (by simp)
    have hxl:=sd.1
    simp only[xP]at af
    rw[vi,dB (by omega)]
    show Rn n t (bif (pgOf (x.kd.head x.len)).kind==1 then _ else _) _ _
    obtain⟨g1,_⟩:=xbt sd (by omega)
    refine Rn.no ?_ (Rn.ret ⟨rfl,Fr.tick [] A⟩)
    rw[g1]
    cases hk:x.kd<;>first|(exact absurd hk hl)|rfl
  .rw[dB (by omega),xih,vu 1 a 0 0 (by omega) (by omega) (by omega) (by omega)]
   exact Rn.ret ⟨rfl,Fr.tick [] A⟩
theorem xkM{A:AS}{L R:List Sg}{s:Sg}(h:Laid n A (L++(s::R)))(hN:Norm (L++(s::R)))(hs:s.kd ≠ .free):Rn n t (VD (xd n t) (plen L:Int) (s.len:Int)) A fun r A'=>
  r=true/\Fr [7,3] 50 A A'/\ ∃L0 b a R0,L=L0++frs b/\R=frs a++R0/\yh L0=false/\firstFree R0=false/\Laid n A' (L0++(⟨b+s.len+a,.free⟩::R0)):=by
 have hn:=hf.n2
 have i6:=h.ok s (by simp)
 have cq:=i6.1
 obtain⟨hN1,hN2,_⟩:=(xO _ _).1 hN
 obtain⟨L0,b,rfl,ms,hb⟩:=xvY L (fun x hx=>h.ok x (by simp[hx])) hN1
 obtain⟨a,R0,rfl,df,ha⟩:=xsk R (fun x hx=>h.ok x (by simp[hx])) hN2.2
 obtain⟨Mo,Dh⟩:=h.at_
 have af:=h.len
 simp only[xz,xP,yM]at af Mo Dh
 obtain⟨g1,g2⟩:=xbt i6 (by omega)
 have e0:plen (L0++frs b)=plen L0+b:=by simp[xz,yM]
 have hA:Laid n A (L0++(frs b++(s::(frs a++R0)))):=by simpa using h
 have hA2:Laid n A ((L0++(frs b ++ [s]))++(frs a++R0)):=by simpa using h
 rw[e0]
 unfold VD xey xmq
 refine Rn.no (by rw[dF];omega) ?_
 refine Rn.no (by rw[dF];omega) ?_
 refine Rn.no (by rw[dF];show ¬ (((plen L0+b:Nat):Int)>=((n:Nat):Int));omega) ?_
 refine Rn.run (WS hf Dh) ?_
 rw[Mo]
 have E3:(xjG (Pg.mk (pgOf (s.kd.head s.len)).kind (pgOf (s.kd.head s.len)).len (pgOf (s.kd.head s.len)).cls (pgOf (s.kd.head s.len)).owner) (s.len:Int)).run (xo n t) A.tick=some (true,A.tick):=by
  unfold xjG xlA
  simp only[g1,g2]
  rw[show((s.len:Int)==(s.len:Int))=true by simp]
  cases hk:s.kd<;>first|(exact absurd hk hs)|rfl
 refine Rn.run E3 (Rn.no rfl ?_)
 refine Rn.bind (xzB hf (A:=A.tick) (hA.of (fun _=>rfl) (fun _=>rfl)) (fun _=>ms) (by rw[xP];omega)) ?_
 rintro r A1 ⟨rfl,ag⟩
 rw[wrap_add hf (x:=plen L0+b) (y:=s.len) (by omega)]
 have e1:plen (L0++(frs b ++ [s]))=plen L0+b+s.len:=by simp[xz,yM,plen];omega
 have Gp:=xvZ hf (A:=A1) ((hA2.of (A':=A.tick) (fun _=>rfl) (fun _=>rfl)).fr ag (by simp) (by simp)) (fun _=>df)
 rw[e1]at Gp
 refine Rn.bind Gp ?_
 rintro r A2 ⟨rfl,ae⟩
 refine Rn.run (kV hf (p:=plen L0+b) Dh 0 0) ?_
 have du:Fr [7,3] 3 A A2:=((Fr.tick [] A).trans ag (S :=[]) (e:=2)).trans ae
 have nk : ∀r i,A2.w r i=A.w r i:=fun r i=>by rw[ae.w r (by simp),ag.w r (by simp)];rfl
 have e2:i64.wrap (((plen L0+b:Nat):Int)-(b:Int))=(plen L0:Int):=by rw[w64 (by omega) (by omega)];omega
 have e3:i64.wrap (i64.wrap ((b:Int)+(s.len:Int))+(a:Int))=((b+s.len+a:Nat):Int):=by rw[wrap_add hf (by omega),wrap_add hf (by omega)]
 have As : ∀c,c<9->A.w 3 c=((cntF L0 c+cntF R0 c+(if b≠0/\lg b=c then 1 else 0)+(if a≠0/\lg a=c then 1 else 0):Nat):Int):=by
  intro c hc
  rw[hA.bins c hc]
  simp only[kz,cntF,xsj]
  rw[dA (show ¬ (s.kd = .free/\lg s.len=c)from fun hh=>hs hh.1)]
  omega
 have gg : ∀c,cntF L0 c+cntF R0 c<=1000:=fun c=>by
  have q1:=WT L0 c fun x hx=>h.ok x (by simp[hx])
  have q2:=WT R0 c fun x hx=>h.ok x (by simp[hx])
  omega
 have fin : ∀B:AS,Fr [7,3] 10 A2 B->(∀q,B.w 7 q=if q=plen L0+b\/(0<b/\q=plen L0+b-1)\/(0<a/\q=plen L0+b+s.len)then body else A.w 7 q)->(∀c,c<9->B.w 3 c=((cntF L0 c+cntF R0 c:Nat):Int))->
   Rn n t ((layT (xd n t) (i64.wrap (((plen L0+b:Nat):Int)-(b:Int))) (i64.wrap (i64.wrap ((b:Int)+(s.len:Int))+(a:Int)))).bind fun _=>T.ret true) B fun r A'=>
    r=true/\Fr [7,3] 50 A A'/\ ∃L0' b' a' R0',L0++frs b=L0'++frs b'/\frs a++R0=frs a'++R0'/\yh L0'=false/\firstFree R0'=false/\Laid n A' (L0'++(⟨b'+s.len+a',.free⟩::R0')):=by
  intro B hB h7 h3
  rw[e2,e3]
  refine Rn.run (xfp hf (p:=plen L0) (m:=b+s.len+a) (by omega)) (Rn.ret ⟨rfl,(du.trans hB (S :=[7,3]) (e:=20)).trans (xig _ _ _),L0,b,a,R0,rfl,rfl,ms,df,?_⟩)
  refine xzA hf hA hs (fun q =>?_) (fun c hc =>?_)
  .rw[xoB,h7]
   by_cases c1:q=plen L0
   .rw[dB ⟨by omega,c1⟩,dB c1]
   .rw[dA (by omega),dA c1]
  .rw[xbv (c:=fun c=>cntF L0 c+cntF R0 c) h3 (fun c hc=>by have:=gg c;omega) (plen L0) (b+s.len+a) c hc]
   have e:(b+s.len+a≠0/\lg (b+s.len+a)=c)↔lg (b+s.len+a)=c:=⟨fun h=>h.2,fun h=>⟨by omega,h⟩⟩
   simp only[e]
 have e4:i64.wrap (((plen L0+b:Nat):Int)-1)=((plen L0+b-1:Nat):Int)\/b=0:=by
  by_cases pj:b=0
  .exact .inr pj
  .left;rw[w64 (by omega) (by omega)];omega
 have less : ∀ (B:AS) (m:Nat) (c:Nat) (v:Nat),B.w 3 c=((v+(if m≠0/\lg m=c then 1 else 0):Nat):Int)->v<=10000->m≠0->(B.bin m (if true=true then 18446744073709551615 else 1)).w 3 c=(v:Int):=by
  intro B m c v hB hv hm
  rw[xvW,hB]
  by_cases hl:c=lg m
  .rw[dB hl,dB ⟨hm,hl.symm⟩,dJ];simp only[if_true];omega
  .rw[dA hl,dA (fun hh=>hl hh.2.symm)];rfl
 by_cases pj:b=0
 .refine Rn.no (by rw[dF];omega) ?_
  by_cases Av:a=0
  .refine Rn.no (by rw[dF];omega) ?_
   refine fin _ ((Zi _ _ _ _).mono) (fun q =>?_) (fun c hc =>?_)
   .rw[Zh,nk]
    by_cases hq:q=plen L0+b
    .rw[dB hq,dB (.inl hq)];rfl
    .rw[dA hq,dA (by omega)]
   .rw[pg_w _ _ _ _ _ _ (by decide),nk,As c hc];simp[pj,Av]
  .refine Rn.yes (by rw[dT];omega) ?_
   refine Rn.run (ka hf (by omega) (by omega) true) ?_
   refine Rn.run (kV hf (p:=plen L0+b+s.len) (by omega) 0 0) ?_
   refine fin _ (((Zi _ _ _ _).trans (Kr _ _ _) (S :=[7,3]) (e:=2)).trans (Zi _ _ _ _)) (fun q =>?_) (fun c hc =>?_)
   .rw[Zh,xif _ _ _ _ _ (by decide),Zh,nk]
    by_cases hq:q=plen L0+b+s.len
    .rw[dB hq,dB (by omega)];rfl
    .rw[dA hq]
     by_cases mf:q=plen L0+b
     .rw[dB mf,dB (by omega)];rfl
     .rw[dA mf,dA (by omega)]
   .rw[pg_w _ _ _ _ _ _ (by decide)]
    refine less _ a c _ ?_ (by have:=gg c;omega) Av
    rw[pg_w _ _ _ _ _ _ (by decide),nk,As c hc];simp[pj]
 .have e4:=e4.resolve_right pj
  refine Rn.yes (by rw[dT];omega) ?_
  refine Rn.run (ka hf (by omega) (by omega) true) ?_
  rw[e4]
  refine Rn.run (kV hf (p:=plen L0+b-1) (by omega) 0 0) ?_
  by_cases Av:a=0
  .refine Rn.no (by rw[dF];omega) ?_
   refine fin _ (((Zi _ _ _ _).trans (Kr _ _ _) (S :=[7,3]) (e:=2)).trans (Zi _ _ _ _)) (fun q =>?_) (fun c hc =>?_)
   .rw[Zh,xif _ _ _ _ _ (by decide),Zh,nk]
    by_cases hq:q=plen L0+b-1
    .rw[dB hq,dB (by omega)];rfl
    .rw[dA hq]
     by_cases mf:q=plen L0+b
     .rw[dB mf,dB (by omega)];rfl
     .rw[dA mf,dA (by omega)]
   .rw[pg_w _ _ _ _ _ _ (by decide)]
    refine less _ b c _ ?_ (by have:=gg c;omega) pj
    rw[pg_w _ _ _ _ _ _ (by decide),nk,As c hc];simp[Av]
  .refine Rn.yes (by rw[dT];omega) ?_
   refine Rn.run (ka hf (by omega) (by omega) true) ?_
   refine Rn.run (kV hf (p:=plen L0+b+s.len) (by omega) 0 0) ?_
   refine fin _ (((((Zi _ _ _ _).trans (Kr _ _ _) (S :=[7,3]) (e:=2)).trans (Zi _ _ _ _) (S :=[7,3]) (e:=3)).trans (Kr _ _ _) (S :=[7,3]) (e:=4)).trans (Zi _ _ _ _)) (fun q =>?_) (fun c hc =>?_)
   .rw[Zh,xif _ _ _ _ _ (by decide),Zh,xif _ _ _ _ _ (by decide),Zh,nk]
    by_cases hq:q=plen L0+b+s.len
    .rw[dB hq,dB (by omega)];rfl
    .rw[dA hq]
     by_cases G5:q=plen L0+b-1
     .rw[dB G5,dB (by omega)];rfl
     .rw[dA G5]
      by_cases mf:q=plen L0+b
      .rw[dB mf,dB (by omega)];rfl
      .rw[dA mf,dA (by omega)]
   .rw[pg_w _ _ _ _ _ _ (by decide)]
    refine less _ a c _ ?_ (by have:=gg c;omega) Av
    rw[pg_w _ _ _ _ _ _ (by decide)]
    refine less _ b c _ ?_ (by have:=gg c;split<;>omega) pj
    rw[pg_w _ _ _ _ _ _ (by decide),nk,As c hc]
    congr 1;omega
end
end
end Go.Proofs.YtcicjcggclhbfaaGreat
