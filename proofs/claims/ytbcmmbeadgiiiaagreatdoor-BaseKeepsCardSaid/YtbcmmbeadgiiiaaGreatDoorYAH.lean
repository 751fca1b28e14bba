import Derived.Test.YtbcmmbeadgiiiaaGreatDoorYAD
import Derived.WalkLawsBesides
import Derived.WalkSpells
import Derived.BigQuiet
set_option linter.all false
namespace Go.Proofs.YtbcmmbeadgiiiaaGreatDoor
open Go.RowKit Tryz
set_option maxRecDepth 100000
set_option maxHeartbeats 16000000
variable{a b l v:List Nat}{xs:List ay}{base c i n x:Nat}{E T e:aB}{w w' wr:ax}{u:ay}
def Qn(a:Nat)(ha:a<4294967296):(BitVec.ofInt 32 (a:Int)).toNat=a:=by rw[lK,mD];exact jM (by omega)
def ZR(a b:Nat)(ha:a<4294967296)(hb:b<4294967296):bits .or .u32 (a:Int) (b:Int)=((a|||b:Nat):Int):=by have hx:a|||b<2^32:=kE (by omega) (by omega);show IntKind.u32.wrap ((BitVec.ofInt 32 (a:Int)|||BitVec.ofInt 32 (b:Int)).toNat:Int)=_;rw[pG,Qn a ha,Qn b hb,lW];omega
def YZ(a b:Nat)(ha:a<4294967296)(hb:b<4294967296):bits .xor .u32 (a:Int) (b:Int)=((a^^^b:Nat):Int):=by have hx:a^^^b<2^32:=kX (by omega) (by omega);show IntKind.u32.wrap ((BitVec.ofInt 32 (a:Int)^^^BitVec.ofInt 32 (b:Int)).toNat:Int)=_;rw[BitVec.toNat_xor,Qn a ha,Qn b hb,lW];omega
def zq3(a b:Nat)(ha:a<4294967296)(hb:b<4294967296):bits .and .u32 (a:Int) (b:Int)=((a&&&b:Nat):Int):=by have hx:a&&&b<2^32:=jg Nat.and_le_left (by omega);show IntKind.u32.wrap ((BitVec.ofInt 32 (a:Int)&&&BitVec.ofInt 32 (b:Int)).toNat:Int)=_;rw[BitVec.toNat_and,Qn a ha,Qn b hb,lW];omega
def zaF(a b:Nat)(ha:a<4294967296)(hb:b<4294967296):a^^^b<4294967296:=kX (n:=32) ha hb
def zoO(x n:Nat)(hx:x<4294967296):bits .or .u32 ((x:Int)/2^n) ((x:Int)*2^(32-n) % 4294967296)=((CX x n:Nat):Int):=by
 have e1:((x:Int)*2^(32-n) % 4294967296)=((x*2^(32-n) % 4294967296:Nat):Int):=by simp
 have e2:((x:Int)/2^n)=((x/2^n:Nat):Int):=by simp
 rw[e1,e2];exact ZR _ _ (jg (jX _ _) hx) (jh _ (by omega))
def zgN{a b:Int}(h:a=b):Ending.returned (.int .u32 a)= .returned (.int .u32 b):=by rw[h]
def zht(x:Int)(X n:Nat)(hx:X<4294967296)(he:x=X)(hn:n<=32)(w:ax):
  ae 273 #[.int .u32 x,.int .i64 n] w λe w'=>e= .returned (.int .u32 (CX X n))∧∃k,w'=w.drewN k:=by
 subst he;go_enter func273,ntmps273;go_wp2
 go_quiet (fail)
 go_wp2;go_ret;exact⟨zgN (zoO X n hx),⟨_,rfl⟩⟩
def FD(x n:Int)(hx0:0<=x)(hx:x<4294967296)(Rt:0<=n)(hn:n<=32)(w:ax)(k:Nat):
  ae 273 #[.int .u32 x,.int .i64 n] (w.drewN k) λe w''=>e= .returned (.int .u32 (CX x.toNat n.toNat:Nat))∧∃m,w''=w.drewN m:=by
 obtain⟨X,rfl⟩:∃X:Nat,x=X:=⟨x.toNat,by omega⟩
 obtain⟨N,rfl⟩:∃N:Nat,n=N:=⟨n.toNat,by omega⟩
 exact kY (zht _ X N (by omega) rfl (by omega) _)
def rF(w:ax):Prop:=∀i,i<64->w.cell? ⟨4,i,none⟩=some (.int .u32 ((xK.getD i 0:Nat):Int))
def rF.qm(h:rF w){S:Nat->Prop}(hk:Keep S w w')(hn:¬S 4):rF w':=
 λi hi=>by
  have h1:=h i hi;rw[<-h1];refine hk.cell ?_ hn;rcases ou 4 w.heap.size with h'|h'
  ·exact h'
  simp[World.cell?,jy h']at h1
def Um(x a b c:Nat)(hx:x<4294967296)(hc:c<4294967296):bits BinOp.xor IntKind.u32 (bits BinOp.xor IntKind.u32 ((CX x a:Nat):Int) ((CX x b:Nat):Int)) ((c:Nat):Int)=((CX x a^^^CX x b^^^c:Nat):Int):=by rw[YZ _ _ (MS x a hx) (MS x b hx),YZ _ _ (zaF _ _ (MS x a hx) (MS x b hx)) hc]
def XH(x:Nat)(hx:x<4294967296):bits BinOp.xor IntKind.u32 (bits BinOp.xor IntKind.u32 ((CX x 7:Nat):Int) ((CX x 18:Nat):Int)) ((x:Int)/8)=((zek x:Nat):Int):=by
 have e:(x:Int)/8=((x/2^3:Nat):Int):=by omega
 rw[e];exact Um x 7 18 _ hx (jg (jX _ _) hx)
def XG(x:Nat)(hx:x<4294967296):bits BinOp.xor IntKind.u32 (bits BinOp.xor IntKind.u32 ((CX x 17:Nat):Int) ((CX x 19:Nat):Int)) ((x:Int)/1024)=((zej x:Nat):Int):=by
 have e:(x:Int)/1024=((x/2^10:Nat):Int):=by omega
 rw[e];exact Um x 17 19 _ hx (jg (jX _ _) hx)
def zdR(x:Nat)(hx:x<4294967296):bits BinOp.xor IntKind.u32 (bits BinOp.xor IntKind.u32 ((CX x 6:Nat):Int) ((CX x 11:Nat):Int)) ((CX x 25:Nat):Int)=((zlv x:Nat):Int):=
 Um x 6 11 _ hx (MS x 25 hx)
def zdS(x:Nat)(hx:x<4294967296):bits BinOp.xor IntKind.u32 (bits BinOp.xor IntKind.u32 ((CX x 2:Nat):Int) ((CX x 13:Nat):Int)) ((CX x 22:Nat):Int)=((zlw x:Nat):Int):=
 Um x 2 13 _ hx (MS x 22 hx)
def zx7(a b c d:Nat)(ha:a<256)(hb:b<256)(hc:c<256)(hd:d<256):
  bits BinOp.or IntKind.u32 (bits BinOp.or IntKind.u32 (bits BinOp.or IntKind.u32 ((a:Int) % 4294967296*16777216 % 4294967296) ((b:Int) % 4294967296*65536 % 4294967296)) ((c:Int) % 4294967296*256 % 4294967296)) ((d:Int) % 4294967296)=((16777216*a+65536*b+256*c+d:Nat):Int):=by
 have e0:(a:Int) % 4294967296*16777216 % 4294967296=((2^24*a:Nat):Int):=by omega
 have e1:(b:Int) % 4294967296*65536 % 4294967296=((65536*b:Nat):Int):=by omega
 have e2:(c:Int) % 4294967296*256 % 4294967296=((256*c:Nat):Int):=by omega
 have e3:(d:Int) % 4294967296=(d:Nat):=by omega
 have o1:2^24*a|||65536*b=2^16*(256*a+b):=by rw[<-iW (by omega)];omega
 have o2:2^16*(256*a+b)|||256*c=2^8*(65536*a+256*b+c):=by rw[<-iW (by omega)];omega
 have o3:2^8*(65536*a+256*b+c)|||d=16777216*a+65536*b+256*c+d:=by rw[<-iW (by omega)];omega
 rw[e0,e1,e2,e3,ZR _ _ (by omega) (by omega),o1,ZR _ _ (by omega) (by omega),o2,ZR _ _ (by omega) (by omega),o3]
def Oa(a b:Nat):∃p:Nat,Hid (p=(a+b) % 4294967296)∧IntKind.u32.wrap ((a:Int)+(b:Int))=(p:Int):=
 ⟨(a+b) % 4294967296,rfl,by rw[lW];omega⟩
def Xt(a b:Nat)(ha:(a:Int)<4294967296)(hb:(b:Int)<4294967296):∃p:Nat,Hid (p=a&&&b)∧(p:Int)<4294967296∧bits BinOp.and IntKind.u32 (a:Int) (b:Int)=(p:Int):=by
 have:a&&&b<4294967296:=jg Nat.and_le_left (by omega)
 exact⟨a&&&b,rfl,by omega,zq3 a b (by omega) (by omega)⟩
def zfV(a b:Nat)(ha:(a:Int)<4294967296)(hb:(b:Int)<4294967296):∃p:Nat,Hid (p=a^^^b)∧(p:Int)<4294967296∧bits BinOp.xor IntKind.u32 (a:Int) (b:Int)=(p:Int):=by
 have:a^^^b<4294967296:=zaF a b (by omega) (by omega)
 exact⟨a^^^b,rfl,by omega,YZ a b (by omega) (by omega)⟩
def zp9(a:Nat)(ha:a<4294967296):4294967295^^^a=4294967295-a:=by
 refine zeG λi=> ?_;rw[Nat.testBit_xor,zdM a i ha];have h1:(4294967295:Nat).testBit i=decide (i<32):=Nat.testBit_two_pow_sub_one 32 i;rw[h1];by_cases hi:i<32
 ·simp[hi]
 rw[zar a i ha hi];simp[hi]
def zx8(a:Nat)(ha:(a:Int)<4294967296):∃p:Nat,Hid (p=4294967295-a)∧(p:Int)<4294967296∧bits BinOp.xor IntKind.u32 (if IntKind.u32.signed=true then-1 else IntKind.u32.max) (a:Int)=(p:Int):=by refine⟨4294967295-a,rfl,by omega,?_⟩;have h:=YZ 4294967295 a (by omega) (by omega);rw[zp9 a (by omega)]at h;exact h
def Sr(a b:Nat):∃p:Nat,Hid (p=(a+b) % 4294967296)∧(p:Int)<4294967296∧((a:Int)+(b:Int)) % 4294967296=(p:Int):=
 ⟨(a+b) % 4294967296,rfl,by omega,by omega⟩
def zsj(v:List Nat)(h:v.length=8):∃x0 x1 x2 x3 x4 x5 x6 x7,v= [x0,x1,x2,x3,x4,x5,x6,x7]:=by
 match v,h with
 | [x0,x1,x2,x3,x4,x5,x6,x7],_=>exact⟨x0,x1,x2,x3,x4,x5,x6,x7,rfl⟩
def zeU(H:Nat)(h:List Nat)(s:af)(hs:Hid (s.size=64))(hl:Hid (h.length=8))(L:CW h)(w:ax)(R:Row w H .u32 81 h)(V:rF w)(hH:H≠4):
  ae 218 #[.pointer (some ⟨H,0,none⟩),.string s] w λe w'=>e= .returned (.tuple #[])∧Row w' H .u32 81 (compress h (bs s))∧Keep (qJ H) w w':=by
 go_enter func218,ntmps218;go_wp2_with fail;refine qW (λw1=>Row w1 w.heap.size .u32 82 (Ef (bs s) 0)∧Row w1 H .u32 81 h∧ak w w1) ⟨aQ w _,R.qm ((ah qw w).alloc _) (λx=>x),(ah _ _).alloc _⟩ ?_;have hH2:H<w.heap.size:=R.lt;clear R;intro w1 vF
 go_loopw [16] (λi wr=>∃k:Nat,k<=16∧i= .int .i64 k∧Row wr w.heap.size .u32 82 (Ef (bs s) k)∧Row wr H .u32 81 h∧ak w wr) (λi _=>16-(intOf i).toNat)
 case atStart=>exact⟨0,by omega,rfl,vF⟩
 case round=>
  clear vF w1;obtain⟨k,hk,rfl,RW,RH,K⟩:=hrel;by_cases rE:k<16
  ·have j1:(k:Int)<16:=by omega
   have j2:(k:Int)<64:=by omega
   have f1:=RW.free k;have c1:=RW.cell k (by rw[SC];omega);obtain⟨q0,e0⟩:=aj (4*k);obtain⟨q1,e1⟩:=aj (4*k+1);obtain⟨q2,e2⟩:=aj (4*k+2);obtain⟨q3,e3⟩:=aj (4*k+3);have w0:IntKind.i64.wrap (4*(k:Int))=(q0:Int):=by rw[aY _ (by omega)];omega
   have w1:IntKind.i64.wrap ((q0:Int)+1)=(q1:Int):=by rw[aY _ (by omega)];omega
   have w2:IntKind.i64.wrap ((q0:Int)+2)=(q2:Int):=by rw[aY _ (by omega)];omega
   have w3:IntKind.i64.wrap ((q0:Int)+3)=(q3:Int):=by rw[aY _ (by omega)];omega
   have l0:q0<s.size:=by rw[hs.o];omega
   have l1:q1<s.size:=by rw[hs.o];omega
   have l2:q2<s.size:=by rw[hs.o];omega
   have l3:q3<s.size:=by rw[hs.o];omega
   have E0:=ag e0;have E1:=ag e1;have E2:=ag e2;have E3:=ag e3;clear e0 e1 e2 e3;go_wp2_with fail;refine qV 31 (by kernel_rfl) (by kernel_rfl) ?_;simp only[dE,dD,dA,dF]
   repeat(quiet_step (fail))
   refine dP ?_;intro nq;go_wp2_with fail;have hv:bits BinOp.or IntKind.u32 (bits BinOp.or IntKind.u32 (bits BinOp.or IntKind.u32 ((s[q0].toNat:Int) % 4294967296*16777216 % 4294967296) ((s[q1].toNat:Int) % 4294967296*65536 % 4294967296)) ((s[q2].toNat:Int) % 4294967296*256 % 4294967296)) ((s[q3].toNat:Int) % 4294967296)=((zed (bs s) (4*k):Nat):Int):=by rw[zed,<-E0.o,show q0+1=q1 by rw[E0.o,E1.o],show q0+2=q2 by rw[E0.o,E2.o],show q0+3=q3 by rw[E0.o,E3.o],xZ s q0 l0,xZ s q1 l1,xZ s q2 l2,xZ s q3 l3];exact zx7 _ _ _ _ s[q0].toNat_lt s[q1].toNat_lt s[q2].toNat_lt s[q3].toNat_lt
   refine⟨⟨k+1,by omega,by go_num,(RW.drewN nq).store k hv,(RH.drewN nq).qm (Keep.tK (ah _ _) _ _) (λe=>by simp only[qJ]at e;omega),(K.drewN nq).setCell (.inr (aS _)) _⟩,by simp[intOf];omega⟩
  have j1:decide ((k:Int)<16)=false:=by simp;omega
  have RW1:Row wr w.heap.size .u32 82 (BJ (bs s) 0):=by
   have:k=16:=by omega
   rw[this]at RW;exact RW
  clear rE hk RW;go_wp2_with fail;refine qW (λw1=>Row w1 w.heap.size .u32 82 (BJ (bs s) 0)∧Row w1 H .u32 81 h∧ak w w1) ⟨RW1,RH,K⟩ ?_;clear RW1 RH K wr j1;intro w1 vF
  go_loopw [6] (λi wr=>∃n:Nat,n<=64∧16<=n∧i= .int .i64 n∧Row wr w.heap.size .u32 82 (BJ (bs s) (n-16))∧Row wr H .u32 81 h∧ak w wr) (λi _=>64-(intOf i).toNat)
  ·exact⟨16,by omega,by omega,rfl,vF⟩
  clear vF w1;obtain⟨n,hn,Dw,rfl,RW,RH,K⟩:=hrel;by_cases rE:n<64
  ·have j1:(n:Int)<64:=by omega
   obtain⟨m,hm⟩:=aj (BJ (bs s) (n-16));have LM:CW m:=by rw[hm];exact CW.BJ _ (N7 s) _
   have lm:m.length=64:=by rw[hm,Np]
   rw[<-hm]at RW;have Hm:=ag hm;clear hm;obtain⟨q1,e1⟩:=aj (n-15);obtain⟨q2,e2⟩:=aj (n-2);obtain⟨q0,e0⟩:=aj (n-16);obtain⟨q7,e7⟩:=aj (n-7);have w1:IntKind.i64.wrap ((n:Int)-15)=(q1:Int):=by rw[aY _ (by omega)];omega
   have w2:IntKind.i64.wrap ((n:Int)-2)=(q2:Int):=by rw[aY _ (by omega)];omega
   have w0:IntKind.i64.wrap ((n:Int)-16)=(q0:Int):=by rw[aY _ (by omega)];omega
   have w7:IntKind.i64.wrap ((n:Int)-7)=(q7:Int):=by rw[aY _ (by omega)];omega
   have l1:(q1:Int)<64:=by omega
   have l2:(q2:Int)<64:=by omega
   have l0:(q0:Int)<64:=by omega
   have l7:(q7:Int)<64:=by omega
   have c1:=RW.cell q1 (by rw[lm];omega);have c2:=RW.cell q2 (by rw[lm];omega);have c0:=RW.cell q0 (by rw[lm];omega);have c7:=RW.cell q7 (by rw[lm];omega);have f1:=RW.free n;have cn:=RW.cell n (by rw[lm];omega);have E0:=ag e0;have E1:=ag e1;have E2:=ag e2;have E7:=ag e7;clear e0 e1 e2 e7;go_wp2_with fail;have LMi:∀q,((m[q]?.getD 0:Nat):Int)<4294967296:=λq=>by have:=LM q;rw[aG]at this;omega
   obtain⟨a1,ha1⟩:=aj (zek (m.getD q1 0));obtain⟨a2,ha2⟩:=aj (zej (m.getD q2 0));have b1:=XH (m.getD q1 0) (LM q1);have b2:=XG (m.getD q2 0) (LM q2);rw[<-ha1]at b1;rw[<-ha2]at b2;simp only[aG]at b1 b2;have A1:=ag ha1;have A2:=ag ha2;clear ha1 ha2
   go_quiet ((go_at_call 273;exact FD _ _ (by omega) (LMi _) (by decide) (by decide) _ _))
   go_wp2_with fail;refine qW (λw1=>Row w1 w.heap.size .u32 82 m∧Row w1 H .u32 81 h∧ak w w1) ⟨RW.drewN nq,RH.drewN nq,K.drewN nq⟩ ?_;clear RW RH K c1 c2 c0 c7 f1 cn nq wr;intro wr Gn;obtain⟨RW,RH,K⟩:=Gn;have c1:=RW.cell q1 (by rw[lm];omega);have c2:=RW.cell q2 (by rw[lm];omega);have c0:=RW.cell q0 (by rw[lm];omega);have c7:=RW.cell q7 (by rw[lm];omega);have f1:=RW.free n;have cn:=RW.cell n (by rw[lm];omega)
   go_quiet ((go_at_call 273;exact FD _ _ (by omega) (LMi _) (by decide) (by decide) _ _))
   go_wp2_with fail;refine qW (λw1=>Row w1 w.heap.size .u32 82 m∧Row w1 H .u32 81 h∧ak w w1) ⟨RW.drewN nq,RH.drewN nq,K.drewN nq⟩ ?_;clear RW RH K c1 c2 c0 c7 f1 cn nq wr;intro wr Gn;obtain⟨RW,RH,K⟩:=Gn;have c1:=RW.cell q1 (by rw[lm];omega);have c2:=RW.cell q2 (by rw[lm];omega);have c0:=RW.cell q0 (by rw[lm];omega);have c7:=RW.cell q7 (by rw[lm];omega);have f1:=RW.free n;have cn:=RW.cell n (by rw[lm];omega);refine qV 15 (by kernel_rfl) (by kernel_rfl) ?_;simp only[dE,dD,dA,dF]
   repeat(quiet_step (fail))
   refine dP ?_;intro nq2;go_wp2_with fail;have hv:((m[q0]?.getD 0:Nat)+(a1:Int)+(m[q7]?.getD 0:Nat)+(a2:Int)) % 4294967296=(((m.getD q0 0+a1+m.getD q7 0+a2) % 4294967296:Nat):Int):=by simp only[aG];omega
   have yx:m.set n ((m.getD q0 0+a1+m.getD q7 0+a2) % 4294967296)=BJ (bs s) (n+1-16):=by
    rw[show n+1-16=(n-16)+1 by omega,BJ,uA,<-BJ,<-Hm.o,KI,A1.o,A2.o,E0.o,E1.o,E2.o,E7.o,
     show 16+(n-16)=n by omega,show 1+(n-16)=n-15 by omega,show 9+(n-16)=n-7 by omega,show 14+(n-16)=n-2 by omega]
   refine⟨⟨n+1,by omega,by omega,by go_num,?_,(RH.drewN nq2).qm (Keep.tK (ah _ _) _ _) (λe=>by simp only[qJ]at e;omega),(K.drewN nq2).setCell (.inr (aS _)) _⟩,by simp[intOf];omega⟩;rw[<-yx];exact(RW.drewN nq2).store n hv
  have j1:decide ((n:Int)<64)=false:=by simp;omega
  have RW1:Row wr w.heap.size .u32 82 (sched (bs s)):=by
   have:n=64:=by omega
   rw[this]at RW;exact RW
  clear rE hn Dw RW;have hi8:(prog.info? 81).map (·.size)=some (ints .u32 h).size:=by rw[Fh,hl.o];kernel_rfl
  have Hi8:=ag hi8;clear hi8;have Hs8:Hid ((ints .u32 h).size=8):=by show(ints .u32 h).size=8;rw[Fh,hl.o]
  go_wp2_with (first|(refine jI rfl 81 _ rfl H rfl 81 (ints .u32 h) (0,0) _ RH kF rfl Hi8.o ?_)|(refine qL rfl 81 _ _ rfl wr.heap.size 81 _ (ints .u32 h) rfl rfl (aQ wr _) Hi8.o 8 ?_ Hs8.o (Pv _ _) ?_;exact rfl));go_wp2_with fail;obtain⟨BT,hBT⟩:=aj wr.heap.size;have zlm:w.heap.size<BT:=by rw[hBT];exact RW1.lt
  refine qW (λw1=>Row w1 BT .u32 81 (AX (sched (bs s)) h 0)∧Row w1 w.heap.size .u32 82 (sched (bs s))∧Row w1 H .u32 81 h∧ak w w1) ⟨by rw[hBT];exact qO (aQ wr _),(RW1.qm ((ah qw wr).alloc _) (λx=>x)).qm ((ah (qJ wr.heap.size) _).setRow (.inl rfl) _) (λe=>by simp only[qJ]at e;omega),(RH.qm ((ah qw wr).alloc _) (λx=>x)).qm ((ah (qJ wr.heap.size) _).setRow (.inl rfl) _) (λe=>by simp only[qJ]at e;omega),(K.alloc _).setRow (.inr (by omega)) _⟩ ?_;rw[<-hBT];clear RW1 RH K hBT wr j1 Hi8 Hs8;have LM:CW (sched (bs s)):=CW.BJ _ (N7 s) _;have lm:(sched (bs s)).length=64:=Np _ _;generalize hm:sched (bs s)=m at LM lm;have Hm:=ag hm;clear hm;intro w1 vF
  go_loopw [107] (λi wr=>∃j:Nat,j<=64∧i= .int .i64 j∧Row wr BT .u32 81 (AX m h j)∧Row wr w.heap.size .u32 82 m∧Row wr H .u32 81 h∧ak w wr) (λi _=>64-(intOf i).toNat)
  ·exact⟨0,by omega,rfl,vF⟩
  clear vF w1;obtain⟨j,hj,rfl,RV,RW,RH,K⟩:=hrel;by_cases rE:j<64
  ·have j1:(j:Int)<64:=by omega
   obtain⟨v,hv⟩:=aj (AX m h j);have LV:CW v:=by rw[hv];exact CW.steps _ L _
   have lv:v.length=8:=by rw[hv,zaJ _ _ hl.o]
   rw[<-hv]at RV;have Hv:=ag hv;clear hv;obtain⟨x0,x1,x2,x3,x4,x5,x6,x7,rfl⟩:∃x0 x1 x2 x3 x4 x5 x6 x7,v= [x0,x1,x2,x3,x4,x5,x6,x7]:=zsj v lv;clear lv;have b0:(x0:Int)<4294967296:=by have:=LV 0;simp at this;omega
   have b1:(x1:Int)<4294967296:=by have:=LV 1;simp at this;omega
   have b2:(x2:Int)<4294967296:=by have:=LV 2;simp at this;omega
   have b3:(x3:Int)<4294967296:=by have:=LV 3;simp at this;omega
   have b4:(x4:Int)<4294967296:=by have:=LV 4;simp at this;omega
   have b5:(x5:Int)<4294967296:=by have:=LV 5;simp at this;omega
   have b6:(x6:Int)<4294967296:=by have:=LV 6;simp at this;omega
   have b7:(x7:Int)<4294967296:=by have:=LV 7;simp at this;omega
   have c0:wr.cell? ⟨BT,0,none⟩=some (.int .u32 (x0:Int)):=RV.cell 0 (by show 0<8;omega);have c4:wr.cell? ⟨BT,4,none⟩=some (.int .u32 (x4:Int)):=RV.cell 4 (by show 4<8;omega);obtain⟨aE,haE⟩:=aj (zlv x4);obtain⟨aA,haA⟩:=aj (zlw x0);have bE:=zdR x4 (by omega);have bA:=zdS x0 (by omega);rw[<-haE]at bE;rw[<-haA]at bA;have AE:=ag haE;have AA:=ag haA;clear haE haA;go_wp2_with fail
   go_quiet ((go_at_call 273;exact FD _ _ (by omega) b4 (by decide) (by decide) _ _))
   go_wp2_with fail;refine qW (λw1=>Row w1 BT .u32 81 [x0,x1,x2,x3,x4,x5,x6,x7]∧Row w1 w.heap.size .u32 82 m∧Row w1 H .u32 81 h∧ak w w1) ⟨RV.drewN nq,RW.drewN nq,RH.drewN nq,K.drewN nq⟩ ?_;clear RV RW RH K c0 c4 nq wr;intro wr Gn;obtain⟨RV,RW,RH,K⟩:=Gn;obtain⟨rk,hrk⟩:=aj (xK.getD j 0);obtain⟨wk,hwk⟩:=aj (m.getD j 0);have cr:=(V.qm K (λx=>x)) j rE;have cw:=RW.cell j (by rw[lm];omega);rw[<-hrk]at cr;rw[<-hwk]at cw;have Hrk:=ag hrk;have Hwk:=ag hwk;clear hrk hwk;have c4:wr.cell? ⟨BT,4,none⟩=some (.int .u32 (x4:Int)):=RV.cell 4 (by show 4<8;omega);have c5:wr.cell? ⟨BT,5,none⟩=some (.int .u32 (x5:Int)):=RV.cell 5 (by show 5<8;omega);have c6:wr.cell? ⟨BT,6,none⟩=some (.int .u32 (x6:Int)):=RV.cell 6 (by show 6<8;omega);have c7:wr.cell? ⟨BT,7,none⟩=some (.int .u32 (x7:Int)):=RV.cell 7 (by show 7<8;omega);obtain⟨p1,P1,e1⟩:=Oa x7 aE;obtain⟨q1,Q1,d1,e2⟩:=Xt x4 x5 b4 b5;obtain⟨q2,Q2,d2,e3⟩:=zx8 x4 b4;obtain⟨q3,Q3,d3,e4⟩:=Xt q2 x6 d2 b6;obtain⟨q4,Q4,d4,e5⟩:=zfV q1 q3 d1 d3;obtain⟨p2,P2,e6⟩:=Oa p1 q4;obtain⟨p3,P3,e7⟩:=Oa p2 rk;obtain⟨p4,P4,e8⟩:=Oa p3 wk
   go_quiet (fail)
   clear e1 e2 e3 e4 e5 e6 e7 e8;go_wp2_with fail;refine qW (λw1=>Row w1 BT .u32 81 [x0,x1,x2,x3,x4,x5,x6,x7]∧Row w1 w.heap.size .u32 82 m∧Row w1 H .u32 81 h∧ak w w1) ⟨RV.drewN nq,RW.drewN nq,RH.drewN nq,K.drewN nq⟩ ?_;clear RV RW RH K c4 c5 c6 c7 cr cw nq wr;intro wr Gn;obtain⟨RV,RW,RH,K⟩:=Gn;have c0:wr.cell? ⟨BT,0,none⟩=some (.int .u32 (x0:Int)):=RV.cell 0 (by show 0<8;omega)
   go_quiet ((go_at_call 273;exact FD _ _ (by omega) b0 (by decide) (by decide) _ _))
   have c1:wr.cell? ⟨BT,1,none⟩=some (.int .u32 (x1:Int)):=RV.cell 1 (by show 1<8;omega);have c2:wr.cell? ⟨BT,2,none⟩=some (.int .u32 (x2:Int)):=RV.cell 2 (by show 2<8;omega);have c3:wr.cell? ⟨BT,3,none⟩=some (.int .u32 (x3:Int)):=RV.cell 3 (by show 3<8;omega);have c4:wr.cell? ⟨BT,4,none⟩=some (.int .u32 (x4:Int)):=RV.cell 4 (by show 4<8;omega);have c5:wr.cell? ⟨BT,5,none⟩=some (.int .u32 (x5:Int)):=RV.cell 5 (by show 5<8;omega);have c6:wr.cell? ⟨BT,6,none⟩=some (.int .u32 (x6:Int)):=RV.cell 6 (by show 6<8;omega);obtain⟨r1,R1,f1,e1⟩:=Xt x0 x1 b0 b1;obtain⟨r2,R2,f2,e2⟩:=Xt x0 x2 b0 b2;obtain⟨r3,R3,f3,e3⟩:=zfV r1 r2 f1 f2;obtain⟨r4,R4,f4,e4⟩:=Xt x1 x2 b1 b2;obtain⟨r5,R5,f5,e5⟩:=zfV r3 r4 f3 f4;obtain⟨t1,T1,g1,e6⟩:=Sr aA r5;obtain⟨t2,T2,g2,e7⟩:=Sr p4 t1;obtain⟨t3,T3,g3,e8⟩:=Sr x3 p4;have hi8:(prog.info? 81).map (·.size)=some (ints .u32 [t2,x0,x1,x2,t3,x4,x5,x6]).size:=by kernel_rfl
   have Hi8:=ag hi8;clear hi8;go_wp2_with (first|(refine qL rfl 81 _ _ rfl BT 81 _ (ints .u32 [t2,x0,x1,x2,t3,x4,x5,x6]) rfl rfl (RV.drewN nq) Hi8.o 8 rfl rfl (Pv _ _) ?_));have hq:q4=chs x4 x5 x6:=by rw[Q4.o,Q1.o,Q3.o,Q2.o];rfl
   have hr:r5=maj x0 x1 x2:=by rw[R5.o,R3.o,R4.o,R1.o,R2.o];rfl
   have hp:p4=(x7+zlv x4+chs x4 x5 x6+xK.getD j 0+m.getD j 0) % 4294967296:=by rw[P4.o,P3.o,P2.o,P1.o,hq,<-AE.o,<-Hrk.o,<-Hwk.o];omega
   have ht:t1=(zlw x0+maj x0 x1 x2) % 4294967296:=by rw[T1.o,hr,<-AA.o]
   have yx: [t2,x0,x1,x2,t3,x4,x5,x6]=AX m h (j+1):=by rw[AX,uA,<-AX,<-Hv.o,T2.o,T3.o,hp,ht];rfl
   have hBH:¬qJ BT H:=λe=>by simp only[qJ]at e;omega
   have hBW:¬qJ BT w.heap.size:=λe=>by simp only[qJ]at e;omega
   refine⟨⟨j+1,by omega,by go_num,?_,(RW.drewN nq).qm (Keep.setRow (ah (qJ BT) _) (.inl rfl) _) hBW,(RH.drewN nq).qm (Keep.setRow (ah (qJ BT) _) (.inl rfl) _) hBH,(K.drewN nq).setRow (.inr (by omega)) _⟩,by simp[intOf];omega⟩;rw[<-yx];exact qO (RV.drewN nq)
  have j1:decide ((j:Int)<64)=false:=by simp;omega
  have RV1:Row wr BT .u32 81 (AX m h 64):=by
   have:j=64:=by omega
   rw[this]at RV;exact RV
  clear rE hj RV RW LM lm;go_wp2_with fail;obtain⟨v,hv⟩:=aj (AX m h 64);have LV:CW v:=by rw[hv];exact CW.steps _ L _
  have lv:v.length=8:=by rw[hv,zaJ _ _ hl.o]
  rw[<-hv]at RV1;have Hv:=ag hv;have Hlv:=ag lv;clear hv lv;refine qW (λw1=>Row w1 BT .u32 81 v∧Row w1 H .u32 81 (FO v h 0)∧Keep (qJ H) w w1) ⟨RV1,RH,K.yw⟩ ?_;clear RV1 RH K wr j1;intro w1 vF
  go_loopw [197] (λi wr=>∃q:Nat,q<=8∧i= .int .i64 q∧Row wr BT .u32 81 v∧Row wr H .u32 81 (FO v h q)∧Keep (qJ H) w wr) (λi _=>8-(intOf i).toNat)
  ·exact⟨0,by omega,rfl,vF⟩
  clear vF w1;obtain⟨q,hq,rfl,RV,RH,K⟩:=hrel;by_cases rE:q<8
  ·have j1:(q:Int)<8:=by omega
   obtain⟨g,hg⟩:=aj (FO v h q);have lg:g.length=8:=by rw[hg,WN,hl.o]
   rw[<-hg]at RH;have Hg:=ag hg;clear hg;have c1:=RH.cell q (by omega);have c2:=RV.cell q (by rw[Hlv.o];omega);have f1:=RH.free q;clear lg;obtain⟨a1,ha1⟩:=aj (g.getD q 0);obtain⟨a2,ha2⟩:=aj (v.getD q 0);rw[<-ha1]at c1;rw[<-ha2]at c2;have A1:=ag ha1;have A2:=ag ha2;clear ha1 ha2;obtain⟨t1,T1,e1⟩:=Oa a1 a2;go_wp2_with fail;refine qV 11 (by kernel_rfl) (by kernel_rfl) ?_;simp only[dE,dD,dA,dF]
   repeat(quiet_step (fail))
   refine dP ?_;intro nq;go_wp2_with fail;have yx:g.set q t1=FO v h (q+1):=by rw[FO,uA,<-FO,<-Hg.o,T1.o,A1.o,A2.o]
   refine⟨⟨q+1,by omega,by go_num,(RV.drewN nq).qm (Keep.tK (ah _ _) _ _) (λe=>by simp only[qJ]at e;omega),?_,(K.drewN nq).tK _ _⟩,by simp[intOf];omega⟩;rw[<-yx];exact(RH.drewN nq).store q rfl
  have j1:decide ((q:Int)<8)=false:=by simp;omega
  have RH1:Row wr H .u32 81 (compress h (bs s)):=by
   have:q=8:=by omega
   rw[this,Hv.o,<-Hm.o]at RH;exact RH
  clear rE hq RH;go_wp2_with fail;go_end0;exact⟨rfl,RH1,K⟩
def Ud:(prog.info? 5).map (λi=>(i.zero,i.size,i.bytes))=some (some (.int .u8 0),1,1):=by kernel_rfl
def Jj(n k:Nat):DV (uz n k)++ [Value.int .u8 ((n/2^(8*(7-k)) % 256:Nat):Int)]=DV (uz n (k+1)):=by rw[uz,zl];rfl
def Uj(n k:Nat):(n:Int)/2^(8*(7-k)) % 256=((n/2^(8*(7-k)) % 256:Nat):Int):=by simp
def zkN(n:Nat)(hn:n<9223372036854775808)(w:ax):
  ae 155 #[.int .i64 n] w (au (.string (uu (sS n))) w):=by
 obtain⟨i0,zM,Ba,D9,D6⟩:=iC Ud;have Dw:(n:Int)<=9223372036854775807:=by omega
 clear hn;go_enter func155,ntmps155;go_wp2
 go_loopw [3,4] (λv i wr=>∃k:Nat,k<=8∧i= .int .i64 (7-(k:Int))∧ak w wr∧wr.ownsRow w.heap.size 5 1 v (uz n k).length (DV (uz n k))) (λ_ i _=>(intOf i+1).toNat)
 case atStart=>exact⟨0,by omega,rfl,ah _ _,kG _ _ _ _⟩
 case round=>
  obtain⟨k,hk,rfl,K,ru⟩:=hrel;by_cases rE:k<8
  ·have j1:(0:Int)<=7-k:=by omega
   obtain⟨q,hq⟩:=aj (7-k);have NR:(7:Int)-k=q:=by omega
   rw[NR];have hq3:(0:Int)<=q:=by omega
   have hq4:(q:Int)<=7:=by omega
   have hq5:(8*(q:Int)).toNat=8*q:=by omega
   clear NR j1;have Hq:=ag hq;clear hq;have hlen:(uz n k).length=k:=tu _ _;have yM:=ag hlen;clear hlen;go_wp2_with (first|(at_builtin;refine ik _ rfl _ _ 153 rfl w.heap.size 5 i0 (.int .u8 0) 1 1 dG zM Ba D9 D6 rfl (by decide) u3 _ _ rfl (ru.alloc _) ⟨wr.heap.size,0,none⟩ 1 1 _ rfl rfl (rJ _ _ _) (EL _ _) (by rw[yM.o];unfold maxLen;omega) (by rw[yM.o];omega) (by have:=K.size;simp;omega) ?_;intro v' w' yT xh _));have e2:DV (uz n k)++ [Value.int .u8 ((n:Int)/2^(8*q) % 256)]=DV (uz n (k+1)):=by rw[Hq.o,Uj,Jj]
   have e3:(uz n k).length+1=(uz n (k+1)).length:=by rw[uz,aN];rfl
   rw[e2,e3]at yT;have K2:ak w w':=(K.alloc _).grown xh (λb hb=> .inr (ru.lt b hb).1);have hq6:(q:Int)-1=7-((k+1:Nat):Int):=by rw[Hq.o];omega
   clear e2 e3 xh ru hq3 hq5;refine⟨⟨k+1,by omega,by rw[hq6],K2,yT⟩,by simp[intOf]⟩
  obtain rfl:k=8:=by omega
  have NT:=BU (P:=prog) ru dG eQ bK;go_wp2_with fail;go_ret;exact⟨rfl,K⟩
def yP(s:List Nat)(k:Nat):List Nat:=s++ [128]++List.replicate k 0
def GZ(s:List Nat)(k:Nat):(yP s k).length=s.length+1+k:=by simp[yP];omega
def za3(s:List Nat)(k:Nat):DV (yP s k)++ [Value.int .u8 0]=DV (yP s (k+1)):=by
 have e:yP s (k+1)=yP s k++ [0]:=by rw[yP,yP,o8,bC,bC,bC]
 rw[e,zl];rfl
def Ez(n k:Nat):Bytes (uz n k):=by
 induction k with
 | zero=>intro x hx;simp[uz]at hx
 | succ k ih=>
  rw[uz];refine vg ih ?_;intro x hx;obtain rfl:x=_:=bJ.1 hx;exact jh _ (by omega)
def UW(s:List Nat)(h:Bytes s):Bytes (Ae s):=by
 rw[Ae];refine vg (vg (vg h ?_) ?_) (Ez _ _)
 ·intro x hx;obtain rfl:x=128:=bJ.1 hx;omega
 intro x hx;obtain⟨_,rfl⟩:=ji.1 hx;omega
def Y3(s:af)(hs:s.size<=100000)(w:ax)(V:rF w):
  ae 151 #[.string s] w λe w'=>e= .returned (.string (uu (sha (bs s))))∧ak w w':=by
 obtain⟨i0,zM,Ba,D9,D6⟩:=iC Ud;have hR:4<w.heap.size:=by
  rcases ou 4 w.heap.size with h'|h'
  ·exact h'
  have:=V 0 (by omega);simp[World.cell?,jy h']at this
 have NT:=λw=>jJ (P:=prog) w 9 153 5 s bK dG eQ;have hi8:(prog.info? 81).map (·.size)=some (ints .u32 vO).size:=by kernel_rfl
 have Hi8:=ag hi8;clear hi8;go_enter func151,ntmps151;have Va:(bs s).length=s.size:=ry s;have Hl0:=ag Va;clear Va;go_wp2_with (first|(refine qL rfl 81 _ _ rfl w.heap.size 81 _ (ints .u32 vO) rfl rfl (aQ w _) Hi8.o 8 rfl rfl (Pv _ _) ?_;refine qQ (λw1=>Row w1 w.heap.size .u32 81 vO∧ak w w1∧w.heap.size+1<=w1.heap.size) ⟨qO (aQ w _),((ah qw w).alloc _).setRow (.inr (aS _)) _,by simp[World.setRow]⟩ ?_;intro w1 vF;obtain⟨RH,K,uF⟩:=vF)|(at_builtin;refine tC _ rfl _ _ 153 rfl (w.heap.size+1) 5 i0 (.int .u8 0) 1 1 dG zM Ba D9 D6 rfl (by decide) _ s.size (DV (bs s)) rfl ((qF.ofBytes w1 (w.heap.size+1) 5 s uF (by omega)).alloc _) ⟨(Lib.bytesWorld w1 5 s).heap.size,0,none⟩ 1 1 [.int .u8 128] rfl rfl (rJ _ _ _) (EL _ _) (by unfold maxLen;omega) (by omega) (by have:=Lib.bytesWorld_size w1 5 s;simp;omega) ?_;intro v1 w2 Df xO));have K2:ak w w2:=((K.bytesWorld _ _).alloc _).grown xO (λb hb=>by obtain rfl:w1.heap.size=b:=aU hb;exact .inr (by omega))
 have RH2:Row w2 w.heap.size .u32 81 vO:=(((RH.qm ((ah qw w1).bytesWorld _ _) (λx=>x)).alloc _)).grown xO (λe=>by
  have:w.heap.size=w1.heap.size:=aU e
  omega)
 have Dc:qF w2 (w.heap.size+1) 5 1 v1 (yP (bs s) 0).length (DV (yP (bs s) 0)):=by rw[GZ,Hl0.o,yP,jU,dS,zl];exact Df
 clear Df xO NT RH K uF Hi8
 go_loopw [4] (λv wr=>∃k:Nat,k<=OI s.size∧qF wr (w.heap.size+1) 5 1 v (yP (bs s) k).length (DV (yP (bs s) k))∧Row wr w.heap.size .u32 81 vO∧ak w wr) (λv _=>match v with| .slice _ n _=>200000-n|_=>0)
 case atStart=>exact⟨0,by omega,Dc,RH2,K2⟩
 case round=>
  clear Dc RH2 K2 w2;obtain⟨k,hk,ru,RH,K⟩:=hrel;have hkz:k<=64:=by have:OI s.size<64:=jh _ (by omega);omega
  have hlen:(yP (bs s) k).length=s.size+1+k:=by rw[GZ,Hl0.o]
  have yM:=ag hlen;obtain⟨g,cap,rfl,hg,Ci⟩:=ru.some (by rw[hlen];omega);obtain⟨n,hn⟩:=aj ((yP (bs s) k).length);rw[<-hn]at ru Ci;rw[<-hn];have OC:n=s.size+1+k:=by rw[hn,hlen]
  have Hn:=ag hn;clear hlen hn;by_cases rE:k<OI s.size
  ·have j1:((n:Int) % 64 !=56)=true:=by
    unfold OI at rE;simp only[bne_iff_ne,ne_eq];omega
   have Dw:n<=100100:=by omega
   have Hn1:=ag OC;clear OC;go_wp2_with (first|(at_builtin;refine tC _ rfl _ _ 153 rfl (w.heap.size+1) 5 i0 (.int .u8 0) 1 1 dG zM Ba D9 D6 rfl (by decide) _ n _ rfl (ru.alloc _) ⟨wr.heap.size,0,none⟩ 1 1 [.int .u8 0] rfl rfl (rJ _ _ _) (EL _ _) (by unfold maxLen;omega) (by omega) (by have:=RH.lt;simp;omega) ?_;intro v1 w2 Df xO));have K2:ak w w2:=(K.alloc _).grown xO (λb hb=>by obtain rfl:g=b:=aU hb;exact .inr (by omega))
   have RH2:Row w2 w.heap.size .u32 81 vO:=(RH.alloc _).grown xO (λe=>by
    have:w.heap.size=g:=aU e
    omega)
   have Dc:qF w2 (w.heap.size+1) 5 1 v1 (yP (bs s) (k+1)).length (DV (yP (bs s) (k+1))):=by rw[<-za3,GZ,Hl0.o,show s.size+1+(k+1)=n+1 by rw[Hn1.o];omega];exact Df
   clear xO ru;obtain⟨g2,QT,rfl,_,_⟩:=Df.some (by omega);clear Df;refine⟨⟨k+1,by omega,Dc,RH2,K2⟩,?_⟩;show 200000-(n+1)<200000-n;omega
  have j1:((n:Int) % 64 !=56)=false:=by
   have e:k=OI s.size:=by omega
   unfold OI at e;simp only[bne_eq_false_iff_eq];omega
  have Dw:n<=100100:=by omega
  have znh:k=OI s.size:=by omega
  obtain⟨N8,hN8⟩:=aj (8*s.size);have e8:(s.size:Int)*8=N8:=by omega
  have b8:(N8:Int)<=800000:=by omega
  have HN8:=ag hN8;have znz:=ag znh;have Hn1:=ag OC;clear OC hN8 znh rE hk hkz;obtain⟨l1,YS⟩:=aj (yP (bs s) k);rw[<-YS]at ru;have Hl1:=ag YS;clear YS;go_wp2_with fail;refine qW (λw1=>Row w1 w.heap.size .u32 81 vO∧ak w w1∧qF w1 (w.heap.size+1) 5 1 (.slice (some ⟨g,0,none⟩) n cap) (n+0) (DV (l1++uz N8 0))) ⟨RH,K,by rw[uz,dS];exact ru⟩ ?_;clear RH K ru;intro w3 IM
  go_loopw [4,6] (λv i wr=>∃k:Nat,k<=8∧i= .int .i64 (7-(k:Int))∧Row wr w.heap.size .u32 81 vO∧ak w wr∧qF wr (w.heap.size+1) 5 1 v (n+k) (DV (l1++uz N8 k))) (λ_ i _=>(intOf i+1).toNat)
  ·exact⟨0,by omega,rfl,IM⟩
  clear IM w3;obtain⟨k2,Xf,rfl,RH,K,ru⟩:=hrel;by_cases rE:k2<8
  ·obtain⟨g1,zlu,rfl,hg1,zgc⟩:=ru.some (by rw[Hn1.o];omega);obtain⟨q,hq⟩:=aj (7-k2);have NR:(7:Int)-k2=q:=by omega
   rw[NR];have hq3:(0:Int)<=q:=by omega
   have hq4:(q:Int)<=7:=by omega
   have hq5:(8*(q:Int)).toNat=8*q:=by omega
   clear NR;have Hq:=ag hq;clear hq;go_wp2_with (first|(at_builtin;refine tC _ rfl _ _ 153 rfl (w.heap.size+1) 5 i0 (.int .u8 0) 1 1 dG zM Ba D9 D6 rfl (by decide) _ (n+k2) _ rfl (ru.alloc _) ⟨wr.heap.size,0,none⟩ 1 1 _ rfl rfl (rJ _ _ _) (EL _ _) (by unfold maxLen;omega) (by omega) (by have:=RH.lt;simp;omega) ?_;intro v1 w2 Df xO));have K2:ak w w2:=(K.alloc _).grown xO (λb hb=>by obtain rfl:g1=b:=aU hb;exact .inr (by omega))
   have RH2:Row w2 w.heap.size .u32 81 vO:=(RH.alloc _).grown xO (λe=>by
    have:w.heap.size=g1:=aU e
    omega)
   have Dc:qF w2 (w.heap.size+1) 5 1 v1 (n+(k2+1)) (DV (l1++uz N8 (k2+1))):=by rw[Hq.o,Uj]at Df;rw[zl,<-Jj,<-bC,<-zl];exact Df
   have hq6:(q:Int)-1=7-((k2+1:Nat):Int):=by rw[Hq.o];omega
   clear xO ru Df hq3 hq5;exact⟨⟨k2+1,by omega,by rw[hq6],RH2,K2,Dc⟩,by simp[intOf]⟩
  have hp:DV (l1++uz N8 8)=DV (Ae (bs s)):=by
   rw[Hl1.o,znz.o,HN8.o,yP,Ae,sS,Hl0.o]
  have LP:(Ae (bs s)).length=n+8:=by rw[SS,Hl0.o,Hn1.o,znz.o];omega
  have hk8:k2=8:=by omega
  have hk9:(7:Int)-k2= -1:=by omega
  rw[hk8]at ru;rw[hk9];clear hk9;obtain⟨p,YQ⟩:=aj (Ae (bs s));have ztD:p.length % 64=0:=by rw[YQ];exact za2 _
  have hpb:Bytes p:=by rw[YQ];exact UW _ (yE s)
  rw[hp,<-YQ]at ru;rw[<-YQ]at LP;have Hpp:=ag YQ;clear hp YQ hk8 rE Xf;obtain⟨g1,zlu,rfl,hg1,zgc⟩:=ru.some (by omega);obtain⟨m,hm⟩:=aj (p.length/64);have zb6:p.length=64*m:=by omega
  have F8:n+8=64*m:=by omega
  rw[F8]at ru zgc;rw[F8];rw[<-zb6]at ru;have RP:=wU.yw ru;rw[zb6]at ru;have Hm:=ag hm;have zqV:=ag zb6;have Hnm:=ag F8;have YA:m<=2000:=by omega
  clear hm zb6 F8 LP ru ztD;go_wp2_with fail;refine qW (λw1=>wU w1 g1 5 p∧Row w1 w.heap.size .u32 81 (vZ p 0)∧ak w w1) ⟨RP,RH,K⟩ ?_;clear RH K RP;intro w3 IM
  go_loopw [7] (λi wr=>∃k:Nat,k<=m∧i= .int .i64 (64*(k:Int))∧wU wr g1 5 p∧Row wr w.heap.size .u32 81 (vZ p k)∧ak w wr) (λi _=>(64*m-(intOf i).toNat))
  ·exact⟨0,by omega,rfl,IM⟩
  clear IM w3;obtain⟨k3,hk3,rfl,RP,RH,K⟩:=hrel;by_cases rE:k3<m
  ·have Ro:=YI (P:=prog) (off:=64*k3) (k:=64) (cap:=zlu-64*k3) RP (by rw[zqV.o];omega) dG eQ bK;obtain⟨c,hc⟩:=aj (64*k3);have Oo:64*(k3:Int)=c:=by omega
   have hc3:c+64<=64*m:=by omega
   have hc4:(c:Int)+64<=64*(m:Int):=by omega
   have hc5:(c:Int)<64*(m:Int):=by omega
   rw[Oo];rw[<-hc]at Ro;obtain⟨T,hT⟩:=aj (uu ((p.drop c).take 64));rw[<-hT]at Ro;have HT:=ag hT;have Hc:=ag hc;have Hc2:=ag Oo;clear hT hc Oo;go_wp2_with fail;have hTs:Hid (T.size=64):=by show T.size=64;rw[HT.o,rH,dJ,gY,zqV.o];omega
   have hbT:bs T=(p.drop (64*k3)).take 64:=by rw[HT.o,rM (zo (NF hpb _) _),Hc.o]
   refine(zeU w.heap.size (vZ p k3) T hTs (ag (GX p k3)) (CW.blocks p k3) wr RH (V.qm K (λx=>x)) (by omega)).m ?_;rintro e w4 ⟨rfl,RH4,K4⟩;have RP4:=RP.qm K4 (λe=>by simp only[qJ]at e;omega);have K5:ak w w4:=K.t K4 (λi hi e=>by simp only[qJ]at e;omega);have RH5:Row w4 w.heap.size .u32 81 (vZ p (k3+1)):=by rw[hbT]at RH4;exact RH4
   clear RP RH RH4 K K4 hbT Ro;go_wp2_with fail;have hc6:(c:Int)+64=64*((k3+1:Nat):Int):=by rw[Hc.o];omega
   exact⟨⟨k3+1,by omega,by rw[hc6],RP4,RH5,K5⟩,by simp[intOf];omega⟩
  have hk:k3=m:=by omega
  rw[hk]at RH;rw[hk];rw[Hm.o,Hpp.o]at RH;obtain⟨h,hh⟩:=aj (vZ (Ae (bs s)) ((Ae (bs s)).length/64));have hl8:h.length=8:=by rw[hh,GX]
  have W:CW h:=by rw[hh];exact CW.blocks _ _
  rw[<-hh]at RH;have Hh:=ag hh;have Hl8:=ag hl8;have hi8:(prog.info? 81).map (·.size)=some (ints .u32 h).size:=by rw[Fh,hl8];kernel_rfl
  have Hi8:=ag hi8;clear hh hl8 hi8 rE hk hk3;go_wp2_with (first|(refine jI rfl 81 _ rfl w.heap.size rfl 81 (ints .u32 h) (0,0) _ RH kF rfl Hi8.o ?_));clear RP Hi8;refine qW (λw1=>ak w w1) K ?_;clear K RH;intro w5 K5
  go_loopw [8,54] (λv i wr=>∃k:Nat,k<=8∧i= .int .i64 k∧ak w wr∧wr.ownsRow w.heap.size 5 1 v (uO h k).length (DV (uO h k))) (λ_ i _=>8-(intOf i).toNat)
  ·exact⟨0,by omega,rfl,K5,kG _ _ _ _⟩
  clear K5 w5;obtain⟨k4,hk4,rfl,K,ru⟩:=hrel;by_cases rE:k4<8
  ·have j1:(k4:Int)<8:=by omega
   have Qg:=EE (P:=prog) (kd:= .u32) kF lM rfl (by kernel_rfl) h k4 Hl8.o rE;obtain⟨x,hx⟩:=aj (h.getD k4 0);have bx:(x:Int)<4294967296:=by have:=W k4;rw[hx];omega
   rw[<-hx]at Qg;have Hx:=ag hx;clear hx;have hlen:(uO h k4).length=4*k4:=GR _ _;have yM:=ag hlen;clear hlen;go_wp2_with (first|(at_builtin;refine ik _ rfl _ _ 153 rfl w.heap.size 5 i0 (.int .u8 0) 1 1 dG zM Ba D9 D6 rfl (by decide) _ _ _ rfl (ru.alloc _) ⟨wr.heap.size,0,none⟩ 4 4 _ rfl rfl (rJ _ _ _) (zsi _ _ _ _ _) (by rw[yM.o];unfold maxLen;omega) (by rw[yM.o];omega) (by have:=K.size;simp;omega) ?_;intro v' w' yT xh _));have e2:DV (uO h k4)++ [Value.int .u8 ((x:Int)/16777216),Value.int .u8 ((x:Int)/65536 % 256),Value.int .u8 ((x:Int)/256 % 256),Value.int .u8 ((x:Int) % 256)]=DV (uO h (k4+1)):=by rw[uO,uO,uA,<-uO,zl,<-Hx.o,show(x:Int)/16777216=((x/16777216 % 256:Nat):Int)by omega];rfl
   have e3:(uO h k4).length+4=(uO h (k4+1)).length:=by rw[yM.o,GR];omega
   rw[e2,e3]at yT;have K2:ak w w':=(K.alloc _).grown xh (λb hb=> .inr (ru.lt b hb).1);clear e2 e3 xh ru;exact⟨⟨k4+1,by omega,by go_num,K2,yT⟩,by simp[intOf];omega⟩
  have hk:k4=8:=by omega
  rw[hk]at ru;have NT:=BU (P:=prog) ru dG eQ bK;have j1:decide ((k4:Int)<8)=false:=by simp;omega
  have zne:uO h 8=sha (bs s):=by rw[Hh.o,sha]
  rw[zne]at NT;clear hk rE hk4 zne;clear ru;go_wp2_with fail;go_ret;exact⟨rfl,K⟩
def JG(kind:Nat)(l:List (List Nat))(k:Nat)(hk:k<l.length):rG kind (l.take (k+1))=rG kind (l.take k)++sS (l.getD k []).length++l.getD k []:=by
 have e:l.take (k+1)=l.take k++ [l.getD k []]:=by rw[aZ hk,aG,aK hk];rfl
 rw[e,rG,rG,iL];rfl
def AO(kind:Nat)(l:List (List Nat))(k:Nat):(rG kind (l.take k)).length<=(rG kind l).length:=by
 by_cases hk:k<l.length
 ·have h1:=AO kind l (k+1);rw[JG kind l k hk,aN,aN]at h1;omega
 ·rw[bg (by omega)];exact aS _
 termination_by l.length-k
def zbM(h:List Nat)(k:Nat):Bytes (uO h k):=by
 induction k with
 | zero=>intro x hx;simp[uO,times]at hx
 | succ k ih=>
  rw[uO,uA,<-uO];refine vg ih ?_;intro x hx;simp only[zes,dO,iT,lN]at hx;rcases hx with rfl|rfl|rfl|rfl<;>exact jh _ (by omega)
def GY(s:List Nat):Bytes (sha s):=zbM _ _
def Ep(kind:Nat)(hkd:kind<256)(v:ay)(l:List af)(w:ax)(V:rF w)(S:Strs w v l)(hb:(rG kind (l.map bs)).length<=100000)(hl:l.length<=100000):
  ae 152 #[.int .u8 kind,v] w λe w'=>e= .returned (.string (uu (mark kind (l.map bs))))∧ak w w':=by
 obtain⟨p,c,rfl⟩:=S.len;have hso:=λw=>ED (P:=prog) w (E:=5) dG eQ bK (kind:Int) kind rfl;have Hb:=ag hb;clear hb;obtain⟨n,hn⟩:=aj l.length;rw[<-hn]at S hl;rw[<-hn];have Hn:=ag hn;clear hn;go_enter func152,ntmps152;go_wp2_with fail;clear hso;refine qW (λw1=>ak w w1) ((ah qw w).alloc _) ?_;intro w1 vF
 go_loopw [5,13] (λs i wr=>∃(k:Nat) (A:af),k<=n∧i= .int .i64 k∧s= .string A∧Hid (bs A=rG kind ((l.map bs).take k))∧ak w wr) (λ_ i _=>n-(intOf i).toNat)
 case atStart=>exact⟨0,_,by omega,rfl,rfl,by show bs (uu [kind])= [kind];exact rM (λx hx=>by obtain rfl:x=kind:=bJ.1 hx;exact hkd),vF⟩
 case round=>
  clear vF w1;obtain⟨k,A,hk,rfl,rfl,hA,K⟩:=hrel;have hAs:A.size<=100000:=by have:=AO kind (l.map bs) k;rw[<-hA.o,ry]at this;have:=Hb.o;omega
  by_cases rE:k<n
  ·have j1:(k:Int)<n:=by omega
   have S1:=S.qm K (λ_ _ x=>x);obtain⟨B,off,rfl,CV,hB,hc⟩:=S1.at (by have:=Hn.o;omega);have QN:=hc k (by have:=Hn.o;omega);clear hc S1 CV;obtain⟨q,hq⟩:=aj (l.getD k ⟨#[]⟩);rw[<-hq]at QN;have hqe:(l.map bs).getD k []=bs q:=by rw[hq,aG,aX,aG];cases l[k]? <;>rfl
   have wJ:=JG kind (l.map bs) k (by rw[aP];have:=Hn.o;omega);rw[hqe,<-hA.o,ry]at wJ;have TU:=AO kind (l.map bs) (k+1);rw[wJ,aN,aN,ry,ry,sS,tu]at TU;have hqs:q.size<=100000:=by have:=Hb.o;omega
   have Hq:=ag hq;have Jm:=ag wJ;clear hq hqe wJ TU;go_wp2_with fail;refine(zkN q.size (by omega) _).m ?_;rintro e w2 ⟨rfl,K2⟩;have hbe:(uu (sS q.size)).size=8:=by rw[rH,sS,tu]
   have ZN:¬(9223372036854775807<(uu (sS q.size)).size+q.size):=by rw[hbe];omega
   have OW:¬(9223372036854775807<A.size+(uu (sS q.size)++q).size):=by rw[dN,hbe];omega
   have HA2:Hid (bs (A++(uu (sS q.size)++q))=rG kind ((l.map bs).take (k+1))):=by show bs _=_;rw[Jm.o,tX,tX,rM (show Bytes (sS q.size)from Ez _ _),bC]
   clear hbe;go_wp2_with fail;clear ZN OW QN;exact⟨⟨k+1,_,by omega,by go_num,rfl,HA2,K.qo K2⟩,by simp[intOf];omega⟩
  have Xf:k=n:=by omega
  have j1:decide (k<n)=false:=by simp;omega
  have OB:bs A=rG kind (l.map bs):=by rw[hA.o,Xf,Hn.o,bg (by rw[aP];exact aS _)]
  have HA2:=ag OB;clear rE hk Xf OB;go_wp2_with fail;refine(Y3 A hAs wr (V.qm K (λx=>x))).m ?_;rw[HA2.o];rintro e w2 ⟨rfl,K2⟩;obtain⟨T,hT⟩:=aj (uu (sha (rG kind (l.map bs))));have hTs:(16:Int)<=T.size:=by rw[hT,rH,Ei];omega
  have hTe:T.extract 0 16=uu (mark kind (l.map bs)):=by apply xJ;rw[rQ,hT,rM (GY _),dF,mark,rM (zo (GY _) _)]
  rw[<-hT];have HT:=ag hT;have HTe:=ag hTe;clear hT hTe;go_wp2_with fail;go_ret;exact⟨dB (λt=>Ending.returned (.string t)) HTe.o,K.qo K2⟩
def zoG(T:aB)(k:IntKind)(l:List Nat)(w:ax)(e:Ending)(w':ax):Prop:=
 ∃v',e= .returned v'∧w'.ownsRow w.heap.size T 1 v' l.length (cellsOf k l)∧ak w w'
def Ey(k:IntKind)(l:List Nat)(n:Nat)(m:Int)(h:m=n):cellsOf k l++ [Value.int k m]=cellsOf k (l++ [n]):=by rw[BV,h];rfl
def zex(v:List Nat)(x f i c:Nat)(out:List Nat)(h:i<v.length∨0<c):OE v x (f+1) i c out=OE v x f (i+1) ((c+v.getD i 0*x)/65536) (out++ [(c+v.getD i 0*x) % 65536]):=by rw[OE,bu h]
def zl5(v:List Nat)(x f i c:Nat)(out:List Nat)(h:¬(i<v.length∨0<c)):OE v x f i c out=out:=by
 cases f with
 | zero=>rfl
 | succ f=>rw[OE,aV h]
def Ob(v:List Nat)(x i c:Nat):Prop:=c<=x∧(v.length<=i->c*65536^(i-v.length)<=x)
def Ob.start(v:List Nat)(x:Nat):Ob v x 0 0:=⟨fP _,λ_=>by rw[oz];exact fP _⟩
def Ob.step1{d:Nat}(h:Ob v x i c)(hi:i<v.length)(hd:d<65536):Ob v x (i+1) ((c+d*x)/65536):=by
 have h1:(c+d*x)/65536<=x:=by have h2:d*x<=65535*x:=jO _ (by omega);have:=h.1;omega
 refine⟨h1,λh2=> ?_⟩;rw[show i+1-v.length=0 by omega,pU,mi];exact h1
def Ob.step2(h:Ob v x i c)(hi:v.length<=i):Ob v x (i+1) (c/65536):=by refine⟨bQ (jX _ _) h.1,λ_=> ?_⟩;rw[show i+1-v.length=(i-v.length)+1 by omega,mF,jA (65536^_),<-Nat.mul_assoc];exact bQ (jO _ (Nat.div_mul_le_self c 65536)) (h.2 hi)
def Ob.fuel{f:Nat}(h:Ob v x i c)(hx:x<=1099511627776)(hi:v.length<=i)(hc:0<c)(hf:i+f=v.length+4):0<f:=by apply Nat.pos_of_ne_zero;intro h0;have h1:=h.2 hi;rw[show i-v.length=4 by omega]at h1;omega
def zpb(v:List Nat)(x f:Nat):∀(i c:Nat) (out:List Nat),i+f<=v.length+4->out.length<=i->(OE v x f i c out).length<=v.length+4:=by
 induction f with
 | zero=>intro i c out h1 h2;rw[OE];omega
 | succ f ih=>
  intro i c out h1 h2;rw[OE];split
  ·exact ih _ _ _ (by omega) (by simp;omega)
  omega
def zjh(v:List Nat)(x:Nat):(Gh v x).length<=v.length+4:=zpb _ _ _ _ _ _ (by omega) (by simp)
def zhp(v:List Nat)(x f:Nat):∀(i c:Nat) (out:List Nat),(∀y∈out,y<65536)->∀y∈OE v x f i c out,y<65536:=by
 induction f with
 | zero=>intro i c out h;exact h
 | succ f ih=>
  intro i c out h;rw[OE];split
  ·refine ih _ _ _ ?_;intro y hy;rcases dX.1 hy with hy|hy
   ·exact h y hy
   obtain rfl:=bJ.1 hy;exact jh _ (by omega)
  exact h
def zcn(v:List Nat)(x:Nat):∀y∈Gh v x,y<65536:=zhp _ _ _ _ _ _ (by simp)
def zrl(v:List Nat)(x f:Nat):∀(i c:Nat) (out:List Nat),out.length<=(OE v x f i c out).length:=by
 induction f with
 | zero=>intro i c out;exact aS _
 | succ f ih=>
  intro i c out;rw[OE];split
  ·exact bQ (by simp) (ih _ _ _)
  exact aS _
def zjg(v:List Nat)(x:Nat)(hv:0<v.length):0<(Gh v x).length:=by rw[Gh,zex _ _ _ _ _ _ (.inl hv)];exact dH (by simp) (zrl _ _ _ _ _ _)
def zg1:(prog.info? 87).map (λi=>(i.zero,i.size,i.bytes))=some (some (.int .u64 0),1,8):=by kernel_rfl
def zl0(g cap:Nat)(v:List Nat)(x:Nat)(hv0:0<v.length)(hv1:v.length<=1000)(hd:∀i,v.getD i 0<65536)(hx:x<=1099511627776)(w:ax)(R:uH w g 87 .u64 v):
  ae 135 #[.slice (some ⟨g,0,none⟩) v.length cap,.int .u64 x] w (zoG 87 .u64 (Gh v x) w):=by
 obtain⟨i0,zM,Ba,D9,D6⟩:=iC zg1;obtain⟨n,hn⟩:=aj v.length;rw[<-hn];rw[<-hn]at hv0 hv1;have Hn:=ag hn;clear hn;have Hd:=ag hd;clear hd;go_enter func135,ntmps135;go_wp2_with fail
 go_loopw [5,6,7] (λo c i wr=>∃(k C f:Nat) (out:List Nat),k+f=n+4∧i= .int .i64 k∧c= .int .u64 C∧Hid (OE v x f k C out=Gh v x)∧Hid (out.length=k)∧Ob v x k C∧wr.ownsRow w.heap.size 87 1 o k (cellsOf .u64 out)∧ak w wr) (λ_ _ i _=>n+4-(intOf i).toNat)
 case atStart=>exact⟨0,0,n+4,[],by omega,rfl,rfl,by show _=_;rw[Gh,<-Hn.o],rfl,Ob.start _ _,kG _ _ _ _,ah _ _⟩
 case round=>
  obtain⟨k,C,f,out,hkf,rfl,rfl,G7,hlen,zkj,ru,K⟩:=hrel;have hC:(C:Int)<=1099511627776:=by have:=zkj.1;omega
  by_cases hA:k<n
  ·have j1:(k:Int)<n:=by omega
   have QN:=(R.qm K (λx=>x)).cell k (by rw[<-Hn.o];exact hA);obtain⟨d,hdd⟩:=aj (v.getD k 0);have hd1:d<65536:=by rw[hdd];exact Hd.o k
   rw[<-hdd]at QN;obtain⟨m,hm⟩:=aj (d*x);have YB:m<=65536*1099511627776:=by rw[hm];exact Nat.mul_le_mul (by omega) hx
   have YA:(d:Int)*(x:Int)=(m:Int):=by rw[hm];simp
   have hm3:(C:Int)+(m:Int)<=72060000000000000000:=by omega
   have hm4:(m:Int)<=72057594037927936:=by omega
   have Hm:=ag hm;have Hdd:=ag hdd;clear hm hdd hd1;go_wp2_with (first|(at_builtin;refine ik _ rfl _ _ 222 rfl w.heap.size 87 i0 (.int .u64 0) 1 8 kZ zM Ba D9 D6 rfl (by decide) _ k _ rfl (ru.alloc _) ⟨wr.heap.size,0,none⟩ 1 1 _ rfl rfl (rJ _ _ _) (EL _ _) (by unfold maxLen;omega) (by omega) (by have:=K.size;simp;omega) ?_;intro v' w' yT xh _));have hf:0<f:=by omega
   obtain⟨f',rfl⟩:∃f',f=f'+1:=⟨f-1,by omega⟩
   have e1:((C:Int)+(m:Int))/65536=((((C+v.getD k 0*x)/65536:Nat)):Int):=by rw[<-Hdd.o,<-Hm.o];omega
   have e2:cellsOf .u64 out++ [Value.int .u64 (((C:Int)+(m:Int)) % 65536)]=cellsOf .u64 (out++ [(C+v.getD k 0*x) % 65536]):=
    Ey _ _ _ _ (by rw[<-Hdd.o,<-Hm.o];omega)
   rw[e2]at yT;have znR:Hid (OE v x f' (k+1) ((C+v.getD k 0*x)/65536) (out++ [(C+v.getD k 0*x) % 65536])=Gh v x):=by have:=G7.o;rw[zex _ _ _ _ _ _ (.inl (by rw[<-Hn.o];exact hA))]at this;exact this
   have TU:Hid ((out++ [(C+v.getD k 0*x) % 65536]).length=k+1):=by show _=_;rw[aN,hlen.o];rfl
   have zi5:=zkj.step1 (by rw[<-Hn.o];exact hA) (Hd.o k);have K2:ak w w':=(K.alloc _).grown xh (λb hb=> .inr (ru.lt b hb).1);exact⟨⟨k+1,_,f',_,by omega,by go_num,by rw[e1],znR,TU,zi5,yT,K2⟩,by simp[intOf];omega⟩
  have OB:v.length<=k:=by rw[<-Hn.o];omega
  by_cases hB:0<C
  ·have hf:0<f:=zkj.fuel hx OB hB (by rw[<-Hn.o];exact hkf);have j1:decide (k<n)=false:=by simp;omega
   have j2:(0:Int)<C:=by omega
   go_wp2_with (first|(at_builtin;refine ik _ rfl _ _ 222 rfl w.heap.size 87 i0 (.int .u64 0) 1 8 kZ zM Ba D9 D6 rfl (by decide) _ k _ rfl (ru.alloc _) ⟨wr.heap.size,0,none⟩ 1 1 _ rfl rfl (rJ _ _ _) (EL _ _) (by unfold maxLen;omega) (by omega) (by have:=K.size;simp;omega) ?_;intro v' w' yT xh _));obtain⟨f',rfl⟩:∃f',f=f'+1:=⟨f-1,by omega⟩
   have h0:v.getD k 0=0:=by rw[aG,jF OB];rfl
   have e1:(C:Int)/65536=((C/65536:Nat):Int):=by omega
   have e2:cellsOf .u64 out++ [Value.int .u64 ((C:Int) % 65536)]=cellsOf .u64 (out++ [C % 65536]):=Ey _ _ _ _ (by omega);rw[e2]at yT;have znR:Hid (OE v x f' (k+1) (C/65536) (out++ [C % 65536])=Gh v x):=by have:=G7.o;rw[zex _ _ _ _ _ _ (.inr hB),h0,oz,iY]at this;exact this
   have TU:Hid ((out++ [C % 65536]).length=k+1):=by show _=_;rw[aN,hlen.o];rfl
   have zi5:=zkj.step2 OB;have K2:ak w w':=(K.alloc _).grown xh (λb hb=> .inr (ru.lt b hb).1);clear h0;exact⟨⟨k+1,_,f',_,by omega,by go_num,by rw[e1],znR,TU,zi5,yT,K2⟩,by simp[intOf];omega⟩
  have j1:decide (k<n)=false:=by simp;omega
  obtain rfl:C=0:=by omega
  have tN:Gh v x=out:=by rw[<-G7.o];exact zl5 _ _ _ _ _ _ (by omega)
  have xM:=ag tN;clear tN hA OB hB hC;go_wp2_with fail;go_ret;exact⟨_,rfl,by rw[xM.o,hlen.o];exact ru,K⟩
def VW(x j:Nat):OH x (j+1)=Gh (OH x j) x:=rfl
def zpz(x j:Nat):(OH x j).length<=1+4*j:=by
 induction j with
 | zero=>exact aS _
 | succ j ih=>rw[VW];have:=zjh (OH x j) x;omega
def zak(x j:Nat):0<(OH x j).length:=by
 induction j with
 | zero=>exact Nat.zero_lt_one
 | succ j ih=>rw[VW];exact zjg _ _ ih
def getD_lt(hn:0<n)(h:∀y∈l,y<n)(i:Nat):l.getD i 0<n:=by
 rw[aG];cases hx:l[i]? with
 | none=>exact hn
 | some y=>exact h y (bG hx)
def zhQ(x j:Nat):∀i,(OH x j).getD i 0<65536:=by
 cases j with
 | zero=>exact getD_lt (by omega) (λy hy=>by obtain rfl:y=1:=bJ.1 hy;omega)
 | succ j=>rw[VW];exact getD_lt (by omega) (zcn _ _)
def zdG(l:List Nat)(j:Nat):(l++List.replicate j 0)++ [0]=l++List.replicate (j+1) 0:=by rw[bC,o8]
def zpK(n:Nat):(madeCells (Value.cells (.int .u64 0)) (n*1)).toList=cellsOf .u64 (List.replicate n 0):=by show(madeCells #[Value.int .u64 0] (n*1)).toList=_;rw[toList_madeCells_one,mi];simp[cellsOf]
structure Two(T:aB)(w wr:ax)(v u:ay)(a b:List Nat):Prop where
 left:qF wr w.heap.size T 1 v a.length (cellsOf .u64 a)
 right:qF wr w.heap.size T 1 u b.length (cellsOf .u64 b)
 apart:∀c,v.ownBlock=some c->u.ownBlock≠some c
 qm:ak w wr
def Two.swap{v:ay}(h:Two T w wr v u a b):Two T w wr u v b a:=
 ⟨h.right,h.left,λc h1 h2=>h.apart c h2 h1,h.qm⟩
def Two.grow{v v':ay}{a':List Nat}{o:Obj}(h:Two T w wr v u a b)(hg:(wr.alloc o).grownBy w' v.ownBlock)(ho:qF w' w.heap.size T 1 v' a'.length (cellsOf .u64 a'))
  (hw:v'.ownBlock=v.ownBlock∨∀c,v'.ownBlock=some c->(wr.alloc o).heap.size<=c):Two T w w' v' u a' b:=by
 have K1:Keep (λc=>v.ownBlock=some c) wr w':=((ah _ wr).alloc o).grown hg (λc hc=> .inl hc);refine⟨ho,h.right.qm K1 (λc hc hs=>h.apart c hs hc),λc hc hu=> ?_,(h.qm.alloc o).grown hg (λc hc=> .inr (h.left.lt c hc).1)⟩;rcases hw with hw|hw
 ·exact h.apart c (hw▸hc) hu
 ·have h1:=hw c hc;have h2:=(h.right.lt c hu).2;simp at h1;omega
def zm6(x k p:Nat)(hx:x<=1099511627776)(hk3:k<=3)(w:ax):
  ae 78 #[.int .u64 x,.int .i64 k,.int .u64 p] w (au (.bool (MM x k p)) w):=by
 obtain⟨i0,zM,Ba,D9,D6⟩:=iC zg1;go_enter func78,ntmps78;go_wp2_with fail;refine qW (λw1=>qF w1 w.heap.size 87 1 (.slice (some ⟨w.heap.size,0,none⟩) 1 1) (OH x 0).length (cellsOf .u64 (OH x 0))∧ak w w1) ⟨qF.lit w w.heap.size 87 1 _ 1 (aS _) (by unfold maxLen;omega) rfl,(ah qw w).alloc _⟩ ?_;intro w1 vF
 go_loopw [7,12] (λv i wr=>∃j:Nat,j<=k∧i= .int .i64 j∧qF wr w.heap.size 87 1 v (OH x j).length (cellsOf .u64 (OH x j))∧ak w wr) (λ_ i _=>k-(intOf i).toNat)
 case atStart=>exact⟨0,by omega,rfl,vF⟩
 case round=>
  clear vF w1;obtain⟨j,hj,rfl,ru,K⟩:=hrel;have hlen:=zpz x j;obtain⟨g,cap,rfl,hg,Ci⟩:=ru.some (zak x j);by_cases rE:j<k
  ·have j1:decide (j<k)=true:=by simp;omega
   have R:=uH.yw ru;have zsD:=ag hlen;go_wp2_with fail;refine(zl0 g cap (OH x j) x (zak x j) (by have:=zsD.o;omega) (zhQ x j) hx _ R).m ?_;rintro e w2 ⟨v2,rfl,Dc,K2⟩;clear ru R zsD hlen Ci;go_wp2_with fail;exact⟨⟨j+1,by omega,by go_num,(qF.of Dc).down K.size,K.qo K2⟩,by simp[intOf];omega⟩
  have YT:j=k:=by omega
  have j1:decide (j<k)=false:=by simp;omega
  rw[YT]at ru hlen;rw[YT]at Ci;rw[YT];obtain⟨a,ha⟩:=aj (OH x k);have Xj:0<a.length:=by rw[ha];exact zak x k
  rw[<-ha]at ru hlen Ci;rw[<-ha];have Ha:=ag ha;clear ha rE hj;obtain⟨n,hn⟩:=aj a.length;rw[<-hn]at ru hlen Ci Xj;rw[<-hn];have Hn:=ag hn;clear hn YT;have hn13:n<=13:=by omega
  clear hlen;have e2k:IntKind.i64.wrap (2*(k:Int))=((2*k:Nat):Int):=by rw[aY _ (by omega)];omega
  go_wp2_with (first|(refine wpList_make_full _ rfl _ _ 222 rfl wr.heap.size 87 i0 (.int .u64 0) 1 kZ zM Ba D9 .i64 .i64 _ _ (2*k) rfl rfl (by omega) (by omega) (by rw[D6];omega) (by unfold maxLen;omega) (aS _) ?_;intro w2 Vs MJ;rw[zpK]at Vs)|(at_builtin;refine rY _ rfl _ _ 222 rfl wr.heap.size 87 i0 (.int .u64 0) 1 8 kZ zM Ba D9 D6 rfl (by decide) _ (2*k) _ rfl ((qF.of Vs).alloc _) ⟨w2.heap.size,0,none⟩ 1 1 [.int .u64 p] rfl rfl (rJ _ _ _) (EL _ _) (by unfold maxLen;omega) (by omega) (by have:=MJ.size;simp;omega) ?_;intro v3 w3 Zt ZV zei));have Ou:qF w3 wr.heap.size 87 1 v3 (digitsOf p k).length (cellsOf .u64 (digitsOf p k)):=by rw[digitsOf,aN,bP,BV];exact Zt
  have K2:ak wr w3:=(((ah qw wr).grown MJ (λc hc=>by cases hc)).alloc _).grown ZV (λc hc=>by obtain rfl:wr.heap.size=c:=aU hc;exact .inr (aS _))
  have T3:Two 87 w w3 (.slice (some ⟨g,0,none⟩) n cap) v3 (a++List.replicate 0 0) (digitsOf p k):=by
   refine⟨?_,Ou.down K.size,λc hc hu=> ?_,K.qo K2⟩
   ·rw[jU,dS,<-Hn.o];exact ru.qm K2 (λ_ _ x=>x)
   obtain rfl:g=c:=aU hc;have h1:=(Ou.lt g hu).1;have h2:=(ru.lt g rfl).2;omega
  clear Vs MJ Zt ZV zei Ou K2 ru K e2k;obtain⟨d,hd⟩:=aj (digitsOf p k);have hdl:d.length=2*k+1:=by rw[hd,digitsOf,aN,bP];rfl
  rw[<-hd]at T3;have Hd:=ag hd;clear hd;obtain⟨m,hm⟩:=aj d.length;have hm7:m<=7:=by omega
  have hmp:0<m:=by omega
  have Hm:=ag hm;clear hm hdl;obtain⟨g3,ziQ,hv3,_,_⟩:=T3.right.some (by rw[<-Hm.o];exact hmp);rw[<-Hm.o]at hv3;subst hv3
  go_loopw [7] (λv wr=>∃q:Nat,q<=m-n∧Two 87 w wr v (.slice (some ⟨g3,0,none⟩) m ziQ) (a++List.replicate q 0) d) (λv _=>match v with| .slice _ c _=>100-c|_=>0)
  ·exact⟨0,by omega,T3⟩
  clear T3 w3;obtain⟨q,hq,T4⟩:=hrel;have hl4:(a++List.replicate q 0).length=n+q:=by rw[aN,bP,<-Hn.o]
  obtain⟨g4,zxd,hv4,_,_⟩:=T4.left.some (by rw[hl4];omega);rw[hl4]at hv4;subst hv4;have Hl4:=ag hl4;clear hl4;have K:=T4.qm;by_cases rE:q<m-n
  ·have j1:decide (n+q<m)=true:=by simp;omega
   have hT:=T4.left;rw[Hl4.o]at hT;go_wp2_with (first|(at_builtin;refine rY _ rfl _ _ 222 rfl w.heap.size 87 i0 (.int .u64 0) 1 8 kZ zM Ba D9 D6 rfl (by decide) _ (n+q) _ rfl (hT.alloc _) ⟨wr.heap.size,0,none⟩ 1 1 [.int .u64 0] rfl rfl (rJ _ _ _) (EL _ _) (by unfold maxLen;omega) (by omega) (by have:=K.size;simp;omega) ?_;intro v5 w5 xq zH zG));rw[Ey .u64 _ 0 0 rfl,zdG]at xq;have hl5:n+q+1=(a++List.replicate (q+1) 0).length:=by rw[aN,bP,<-Hn.o];omega
   rw[hl5]at xq;have T5:=T4.grow zH xq zG;obtain⟨g6,ziP,rfl,_,_⟩:=xq.some (by rw[<-hl5];omega);rw[<-hl5]at T5;clear xq zH zG hT T4;rw[<-hl5];refine⟨⟨q+1,by omega,T5⟩,?_⟩;show 100-(n+q+1)<100-(n+q);omega
  have Zn:q=m-n:=by omega
  have j1:decide (n+q<m)=false:=by simp;omega
  obtain⟨L,hL⟩:=aj (n+q);obtain⟨A,hA⟩:=aj (a++List.replicate q 0);have hAl:Hid (A.length=L):=by show _=_;rw[hA,hL];exact Hl4.o
  have hAf:A=Jt (OH x k) (digitsOf p k).length:=by rw[hA,Jt,<-Hd.o,<-Hm.o,<-Ha.o,<-Hn.o,Zn]
  have HAf:=ag hAf;rw[<-hL]at j1;rw[<-hA,<-hL]at T4;rw[<-hL];have hLm:m<=L:=by omega
  have hL20:L<=20:=by omega
  clear Zn hAf hA Hl4 rE hq hL;have T6:=T4.swap;clear T4;have T6':Two 87 w wr (.slice (some ⟨g3,0,none⟩) m ziQ) (.slice (some ⟨g4,0,none⟩) L zxd) (d++List.replicate 0 0) A:=by rw[jU,dS];exact T6
  clear T6;go_wp2_with fail
  go_loopw [8] (λv wr=>∃q:Nat,q<=L-m∧Two 87 w wr v (.slice (some ⟨g4,0,none⟩) L zxd) (d++List.replicate q 0) A) (λv _=>match v with| .slice _ c _=>100-c|_=>0)
  ·exact⟨0,by omega,T6'⟩
  clear T6' K;obtain⟨q,hq,T4⟩:=hrel;have hl4:(d++List.replicate q 0).length=m+q:=by rw[aN,bP,<-Hm.o]
  obtain⟨g5,YF,hv4,_,_⟩:=T4.left.some (by rw[hl4];omega);rw[hl4]at hv4;subst hv4;have Hl4:=ag hl4;clear hl4;have K:=T4.qm;by_cases rE:q<L-m
  ·have j1:decide (m+q<L)=true:=by simp;omega
   have hT:=T4.left;rw[Hl4.o]at hT;go_wp2_with (first|(at_builtin;refine rY _ rfl _ _ 222 rfl w.heap.size 87 i0 (.int .u64 0) 1 8 kZ zM Ba D9 D6 rfl (by decide) _ (m+q) _ rfl (hT.alloc _) ⟨wr.heap.size,0,none⟩ 1 1 [.int .u64 0] rfl rfl (rJ _ _ _) (EL _ _) (by unfold maxLen;omega) (by omega) (by have:=K.size;simp;omega) ?_;intro v5 w5 xq zH zG));rw[Ey .u64 _ 0 0 rfl,zdG]at xq;have hl5:m+q+1=(d++List.replicate (q+1) 0).length:=by rw[aN,bP,<-Hm.o];omega
   rw[hl5]at xq;have T5:=T4.grow zH xq zG;obtain⟨g6,ziP,rfl,_,_⟩:=xq.some (by rw[<-hl5];omega);rw[<-hl5]at T5;clear xq zH zG hT T4;rw[<-hl5];refine⟨⟨q+1,by omega,T5⟩,?_⟩;show 100-(m+q+1)<100-(m+q);omega
  have Zn:q=L-m:=by omega
  have j1:decide (m+q<L)=false:=by simp;omega
  obtain⟨D,hD⟩:=aj (d++List.replicate q 0);have hmq:m+q=L:=by omega
  have hDl:Hid (D.length=L):=by show _=_;rw[hD,<-hmq];exact Hl4.o
  have hDf:D=Jt (digitsOf p k) A.length:=by rw[hD,Jt,hAl.o,<-Hd.o,<-Hm.o,Zn]
  have tN:MM x k p=TW A D L:=by have hu:MM x k p=TW (Jt (OH x k) (digitsOf p k).length) (Jt (digitsOf p k) (Jt (OH x k) (digitsOf p k).length).length) (Jt (OH x k) (digitsOf p k).length).length:=rfl;rw[hu,<-HAf.o,<-hDf,hAl.o]
  have xM:=ag tN;rw[hmq]at j1;rw[<-hD,hmq]at T4;rw[hmq];clear Zn hDf hD Hl4 rE hq hmq tN;have RA:uH wr g4 87 .u64 A:=by have:=T4.right;rw[hAl.o]at this;exact uH.yw (l:=A) (by rw[hAl.o];exact this)
  have RD:uH wr g5 87 .u64 D:=by have:=T4.left;rw[hDl.o]at this;exact uH.yw (l:=D) (by rw[hDl.o];exact this)
  clear T4;have jL:(L:Int)<=20:=by omega
  have jL1:(0:Int)<L:=by omega
  go_wp2_with fail;refine qW (λw1=>uH w1 g4 87 .u64 A∧uH w1 g5 87 .u64 D∧ak w w1) ⟨RA,RD,K⟩ ?_;clear RA RD K;intro w7 hw7
  go_loopw [9] (λi wr=>∃t:Nat,t<=L∧i= .int .i64 ((t:Int)-1)∧Hid (TW A D t=TW A D L)∧uH wr g4 87 .u64 A∧uH wr g5 87 .u64 D∧ak w wr) (λi _=>(intOf i+1).toNat)
  ·exact⟨L,by omega,rfl,rfl,hw7⟩
  clear hw7 w7;obtain⟨t,ht,rfl,hgt,RA,RD,K⟩:=hrel;by_cases hz:t=0
  ·subst hz;have hr:MM x k p=false:=by rw[xM.o,<-hgt.o];rfl
   have Hr:=ag hr;clear hr;go_wp2_with fail;go_ret;exact⟨dB (λb=>Ending.returned (.bool b)) Hr.o.s,K⟩
  obtain⟨t',rfl⟩:∃t',t=t'+1:=⟨t-1,by omega⟩
  have e1:((t'+1:Nat):Int)-1=(t':Int):=by omega
  rw[e1];have ca:=RA.cell t' (by rw[hAl.o];omega);have cd:=RD.cell t' (by rw[hDl.o];omega);have jt:(t':Int)<L:=by omega
  have zqE:=hgt.o;rw[TW]at zqE;obtain⟨x1,Qd⟩:=aj (A.getD t' 0);obtain⟨x2,Vf⟩:=aj (D.getD t' 0);rw[<-Qd]at ca;rw[<-Vf]at cd;rw[<-Qd,<-Vf]at zqE;have Hg2:=ag zqE;clear zqE Qd Vf hz e1;by_cases heq:x1=x2
  ·subst heq;have hn:Hid (TW A D t'=TW A D L):=by
    have:=Hg2.o;rw[bu rfl]at this;exact this
   clear Hg2;have j2:((x1:Int) !=x1)=false:=by simp
   go_wp2_with fail
   go_quiet (fail)
   go_wp2_with fail;exact⟨⟨t',by omega,rfl,hn,RA.drewN nq,RD.drewN nq,K.drewN nq⟩,by simp[intOf]⟩
  have j2:((x1:Int) !=x2)=true:=by simp;omega
  have hr:MM x k p=decide (x2<x1):=by have:=Hg2.o;rw[aV heq]at this;rw[xM.o,this]
  have Hr:=ag hr;clear hr;go_wp2_with fail
  go_quiet (fail)
  go_wp2_with fail
  go_quiet (fail)
  go_wp2_with fail;go_ret;refine⟨dB (λb=>Ending.returned (.bool b)) ?_,(K.drewN _).drewN _⟩;rw[Hr.o]
def zoE(p k:Nat):Nat:=bis p k 1099511627776 0 1099511627776
def zmk(p k:Nat):Gq p k=zoE p k % 4294967296:=rfl
def zvn(p k f low high:Nat)(h:low+1<high):bis p k (f+1) low high=if MM ((low+high)/2) k p then bis p k f low ((low+high)/2)else bis p k f ((low+high)/2) high:=by rw[bis,bu h]
def zqh(p k f low high:Nat)(h:¬low+1<high):bis p k f low high=low:=by
 cases f with
 | zero=>rfl
 | succ f=>rw[bis,aV h]
def Rh(j:Nat):ve (j+1)=if (ve j).all (λp=>(2+j) % p !=0)then ve j++ [2+j]else ve j:=rfl
def zfb(j:Nat):∀p∈ve j,0<p∧p<2+j:=by
 induction j with
 | zero=>intro p hp;simp[ve]at hp
 | succ j ih=>
  intro p hp;rw[Rh]at hp;split at hp
  ·rcases dX.1 hp with hp|hp
   ·have:=ih p hp;omega
   obtain rfl:=bJ.1 hp;omega
  have:=ih p hp;omega
def zcO(l:List Nat)(f:Nat->Bool)(i:Nat)(hi:i<l.length):(l.take (i+1)).all f=((l.take i).all f&&f (l.getD i 0)):=by rw[aZ hi,List.all_append,aG,aK hi];simp
def zgQ{size:Nat}{v:ay}(h:w.ownsRow base e size v n xs):∃p c,v= .slice p n c:=by
 rcases h.2 with⟨hv,h0⟩|⟨g,cap,cur,hv,_⟩
 ·exact⟨_,_,by rw[hv,h0]⟩
 exact⟨_,_,hv⟩
def zgM(p k:Nat)(hk3:k<=3)(w:ax):
  ae 33 #[.int .u64 p,.int .i64 k] w (au (.int .u32 (Gq p k)) w):=by
 obtain⟨T,hT⟩:=aj (zoE p k);rw[zmk,<-hT];obtain⟨F,hF⟩:∃F:Nat,F=1099511627776:=⟨_,rfl⟩
 have OD:Hid (bis p k F 0 1099511627776=T):=by rw[hF,hT];rfl
 have hF2:1099511627776<=F:=by omega
 clear hT hF;go_enter func33,ntmps33;go_wp2_with fail
 go_loopw [5,6] (λlo hi wr=>∃low high f:Nat,lo= .int .u64 low∧hi= .int .u64 high∧low<=high∧high<=1099511627776∧high-low<=f∧Hid (bis p k f low high=T)∧ak w wr) (λlo hi _=>(intOf hi-intOf lo).toNat)
 case atStart=>exact⟨0,1099511627776,F,rfl,rfl,by omega,by omega,hF2,OD,ah _ _⟩
 case round=>
  clear OD hF2 F;obtain⟨low,high,f,rfl,rfl,h1,h2,h3,hb,K⟩:=hrel;have b1:(low:Int)<=1099511627776:=by omega
  have b2:(high:Int)<=1099511627776:=by omega
  by_cases rE:low+1<high
  ·have j1:(low:Int)+1<high:=by omega
   obtain⟨f',rfl⟩:∃f',f=f'+1:=⟨f-1,by omega⟩
   obtain⟨m,hm⟩:=aj ((low+high)/2);have e1:((low:Int)+(high:Int))/2=(m:Int):=by omega
   have YB:m<=1099511627776:=by omega
   have zC:=hb.o;rw[zvn _ _ _ _ _ rE,<-hm]at zC;have Hb2:=ag zC;have Hm:=ag hm;clear hb zC hm;go_wp2_with fail;refine(zm6 m k p YB hk3 _).m ?_;by_cases ha:MM m k p=true
   ·rw[ha];rintro e w2 ⟨rfl,K2⟩;have hn:Hid (bis p k f' low m=T):=by
     have:=Hb2.o;rw[bu ha]at this;exact this
    clear ha Hb2;go_wp2_with fail;have:=Hm.o;exact⟨⟨low,m,f',rfl,rfl,by omega,YB,by omega,hn,K.qo K2⟩,by simp[intOf];omega⟩
   have ha:MM m k p=false:=by simpa using ha
   rw[ha];rintro e w2 ⟨rfl,K2⟩;have hn:Hid (bis p k f' m high=T):=by have:=Hb2.o;rw[aV (by rw[ha];decide)]at this;exact this
   clear ha Hb2;go_wp2_with fail;have:=Hm.o;exact⟨⟨m,high,f',rfl,rfl,by omega,h2,by omega,hn,K.qo K2⟩,by simp[intOf];omega⟩
  have j1:decide ((low:Int)+1<high)=false:=by simp;omega
  have tN:low=T:=by rw[<-hb.o];exact(zqh _ _ _ _ _ rE).s
  clear rE hb;subst tN;go_wp2_with fail;go_ret;exact⟨by simp,K⟩
def zpQ:(prog.info? 3).map (λi=>(i.zero,i.size,i.bytes))=some (some (.int .i64 0),1,8):=by kernel_rfl
def zjE(w:ax):ae 32 #[.int .i64 64] w (zoG 3 .i64 vT w):=by
 obtain⟨i0,zM,Ba,D9,D6⟩:=iC zpQ;go_enter func32,ntmps32;go_wp2_with fail
 go_loopw [3,4] (λv i wr=>∃j:Nat,j<=310∧i= .int .i64 (2+(j:Int))∧wr.ownsRow w.heap.size 3 1 v (ve j).length (cellsOf .i64 (ve j))∧ak w wr) (λ_ i _=>320-(intOf i).toNat)
 ·exact⟨0,by omega,rfl,kG _ _ _ _,ah _ _⟩
 obtain⟨j,hj,rfl,ru,K⟩:=hrel;obtain⟨l,hl⟩:=aj (ve j);rw[<-hl]at ru;obtain⟨n,hn⟩:=aj l.length;rw[<-hn]at ru;have Hl:=ag hl;have Hn:=ag hn;by_cases rE:n<64
 ·have Tv:j<310:=zmo j (by rw[<-hl,<-hn];exact rE);clear hl hn;have j1:(n:Int)<64:=by omega
  obtain⟨q,hq⟩:=aj (2+j);have e1:2+(j:Int)=(q:Int):=by omega
  have NR:(q:Int)<=320:=by omega
  rw[e1];have Hq:=ag hq;clear hq e1;obtain⟨pp,c,rfl⟩:=zgQ ru;go_wp2_with fail;refine qW (λw1=>w1.ownsRow w.heap.size 3 1 (.slice pp n c) n (cellsOf .i64 l)∧ak w w1) ⟨ru,K⟩ ?_;clear ru K;intro w3 IM
  go_loopw [5,16] (λs i wr=>∃t:Nat,t<=n∧i= .int .i64 t∧s= .bool ((l.take t).all (λp=>q % p !=0))∧wr.ownsRow w.heap.size 3 1 (.slice pp n c) n (cellsOf .i64 l)∧ak w wr) (λ_ i _=>n-(intOf i).toNat)
  ·exact⟨0,by omega,rfl,rfl,IM⟩
  clear IM w3;obtain⟨t,ht,rfl,rfl,ru,K⟩:=hrel;by_cases LY:t<n
  ·have j2:(t:Int)<n:=by omega
   obtain⟨g,cap,hv,_⟩:=Pn ru (by omega);cases hv;have R:uH wr g 3 .i64 l:=uH.zfZ (l:=l) (by rw[<-Hn.o];exact ru);have ct:=R.cell t (by rw[<-Hn.o];exact LY);obtain⟨d,hd⟩:=aj (l.getD t 0);rw[<-hd]at ct;have hdp:0<d∧d<q:=by
    have hm:d∈ve j:=by rw[<-Hl.o,hd,aG,aK (by rw[<-Hn.o];exact LY)];exact fO _
    rw[Hq.o];exact zfb j d hm
   have hd0:(0:Int)<d:=by omega
   have hd1:(d:Int)<q:=by omega
   have yx:=zcO l (λp=>q % p !=0) t (by rw[<-Hn.o];exact LY);rw[<-hd]at yx;have Jm:=ag yx;have Hd:=ag hd;clear yx hd R hdp;obtain⟨b,hb⟩:=aj ((l.take t).all (λp=>q % p !=0));rw[<-hb];have Hb:=ag hb;clear hb;cases b with
   | false=>
    have hn:(l.take (t+1)).all (λp=>q % p !=0)=false:=by rw[Jm.o,<-Hb.o];rfl
    have Hn2:=ag hn;clear hn;go_wp2_with fail;exact⟨⟨t+1,by omega,by go_num,by rw[Hn2.o],ru,K⟩,by simp[intOf];omega⟩
   | true=>
    by_cases hm:q % d=0
    ·have j3:((q:Int) % (d:Int) !=0)=false:=by
      have:(q:Int) % (d:Int)=((q % d:Nat):Int):=by simp
      rw[this,hm];rfl
     have hn:(l.take (t+1)).all (λp=>q % p !=0)=false:=by rw[Jm.o,<-Hb.o,hm];rfl
     have Hn2:=ag hn;clear hn hm;go_wp2_with fail;exact⟨⟨t+1,by omega,by go_num,by rw[Hn2.o],ru,K⟩,by simp[intOf];omega⟩
    have j3:((q:Int) % (d:Int) !=0)=true:=by
     have:(q:Int) % (d:Int)=((q % d:Nat):Int):=by simp
     rw[this];simp;omega
    have hn:(l.take (t+1)).all (λp=>q % p !=0)=true:=by rw[Jm.o,<-Hb.o];simpa using hm
    have Hn2:=ag hn;clear hn hm;go_wp2_with fail;exact⟨⟨t+1,by omega,by go_num,by rw[Hn2.o],ru,K⟩,by simp[intOf];omega⟩
  have htn:t=n:=by omega
  have vz:l.take t=l:=bg (by rw[<-Hn.o];omega);rw[vz,htn];have hp:=Rh j;rw[<-Hl.o,<-Hq.o]at hp;have hnn:n<=63:=by omega
  clear vz htn ht LY;by_cases vz:l.all (λp=>q % p !=0)=true
  ·rw[vz];rw[bu vz]at hp;have Hp:=ag hp;clear hp vz;go_wp2_with (first|(at_builtin;refine ik _ rfl _ _ 23 rfl w.heap.size 3 i0 (.int .i64 0) 1 8 jE zM Ba D9 D6 rfl (by decide) _ n _ rfl (ru.alloc _) ⟨wr.heap.size,0,none⟩ 1 1 _ rfl rfl (rJ _ _ _) (EL _ _) (by unfold maxLen;omega) (by omega) (by have:=K.size;simp;omega) ?_;intro v' w' yT xh _));rw[Ey .i64 l q _ rfl,<-Hp.o,show n+1=(ve (j+1)).length by rw[Hp.o,aN,<-Hn.o];rfl]at yT;have K2:ak w w':=(K.alloc _).grown xh (λb hb=> .inr (ru.lt b hb).1);have e3:(q:Int)+1=2+((j+1:Nat):Int):=by rw[Hq.o];omega
   clear xh ru;exact⟨⟨j+1,by omega,by rw[e3],yT,K2⟩,by simp[intOf];omega⟩
  have zsO:l.all (λp=>q % p !=0)=false:=by simpa using vz
  rw[zsO];rw[aV vz]at hp;have Hp:=ag hp;clear hp vz zsO;go_wp2_with fail;have e3:(q:Int)+1=2+((j+1:Nat):Int):=by rw[Hq.o];omega
  exact⟨⟨j+1,by omega,by rw[e3],by rw[Hp.o,<-Hn.o];exact ru,K⟩,by simp[intOf];omega⟩
 have tN:l=vT:=by rw[hl];exact zjD j (by rw[<-hl,<-hn];omega) hj
 obtain⟨pp,c,rfl⟩:=zgQ ru;have j1:decide ((n:Int)<64)=false:=by simp;omega
 have zqz:n=vT.length:=by rw[hn,tN]
 rw[tN,zqz]at ru;rw[zqz]at j1;rw[zqz];clear hl hn zqz tN rE Hl Hn;go_wp2_with fail;go_ret;exact⟨_,rfl,ru,K⟩
def zpq(i:Nat)(h:i<64):Gq (vT.getD i 0) 3=xK.getD i 0:=by rw[<-zuQ,aG,aG,aX];have e:i<vT.length:=h;rw[aK e];rfl
def zpr(i:Nat)(h:i<8):Gq (vT.getD i 0) 2=vO.getD i 0:=by rw[<-zuR,aG,aG,aX,gJ,bu h];have e:i<vT.length:=Nat.lt_trans h (by decide);rw[aK e];rfl
def Dq(i:Nat):List Nat:=times (λi l=>if i<8 then(l.set (8+i) (xK.getD i 0)).set i (vO.getD i 0)else l.set (8+i) (xK.getD i 0)) i (List.replicate 72 0)
def ze9(i:Nat):Dq (i+1)=if i<8 then((Dq i).set (8+i) (xK.getD i 0)).set i (vO.getD i 0)else(Dq i).set (8+i) (xK.getD i 0):=rfl
def zhK:Dq 64=vO++xK:=by decide+kernel
def zhJ(i:Nat):(Dq i).length=72:=by rw[Dq,KF (λi l=>by split<;>simp),bP]
def D7(w:ax)(B:Nat):Prop:=Row w B .u32 84 (vO++xK)
def zbL(i:Nat):vT.getD i 0<65536:=getD_lt (by omega) (by decide) i
def zrJ(w:ax):ae 5 #[] w λe w'=>e= .returned (.pointer (some ⟨w.heap.size,0,none⟩))∧D7 w' w.heap.size∧ak w w':=by
 go_enter func5,ntmps5;go_wp2_with fail;refine(zjE _).m ?_;rintro e w1 ⟨v1,rfl,ru,K1⟩;have R0:Row w1 w.heap.size .u32 84 (Dq 0):=K1.heap (aQ w _) (λx=>x);have K:ak w w1:=((ah qw w).alloc _).qo K1;obtain⟨gp,cp,rfl,hgp⟩:=Pn ru (by decide);have RP:uH w1 gp 3 .i64 vT:=uH.zfZ ru;have hgp2:w.heap.size<gp:=by simp at hgp;omega
 clear ru K1 hgp;have zwl:vT.length=64:=rfl;rw[zwl];go_wp2_with fail;refine qW (λw1=>Row w1 w.heap.size .u32 84 (Dq 0)∧uH w1 gp 3 .i64 vT∧ak w w1) ⟨R0,RP,K⟩ ?_;clear R0 RP K zwl;intro w3 IM
 go_loopw [8] (λi wr=>∃j:Nat,j<=64∧i= .int .i64 j∧Row wr w.heap.size .u32 84 (Dq j)∧uH wr gp 3 .i64 vT∧ak w wr) (λi _=>64-(intOf i).toNat)
 ·exact⟨0,by omega,rfl,IM⟩
 clear IM w3 w1;obtain⟨j,hj,rfl,R,RP,K⟩:=hrel;by_cases rE:j<64
 ·have j1:(j:Int)<64:=by omega
  have cp:=RP.cell j rE;have h3:=zpq j rE;have h2:=zpr j;obtain⟨p,hp⟩:=aj (vT.getD j 0);have hps:p<65536:=by rw[hp];exact zbL j
  have hpi:(p:Int)<=65536:=by omega
  rw[<-hp]at cp h3 h2;have H3:=ag h3;have H2:=ag h2;clear h3 h2 hp;have znt:w.heap.size<wr.heap.size:=R.lt;have hwp:IntKind.u64.wrap (p:Int)=(p:Int):=by rw[nG];omega
  clear hps;obtain⟨r0,hr0⟩:=aj (Dq j);have Va:r0.length=72:=by rw[hr0,zhJ]
  have hs:=ze9 j;rw[<-hr0]at R hs;have Hl0:=ag Va;have Hs:=ag hs;clear hr0 Va hs;go_wp2_with fail;refine Ll 8 (by kernel_rfl) (by kernel_rfl) ?_;simp only[dE,dD,dA,dF]
  repeat(quiet_step ((go_at_call 33;exact vw _ (zgM p 3 (by omega) _))))
  refine dP ?_;intro x;refine qQ (λw1=>Row w1 w.heap.size .u32 84 r0∧uH w1 gp 3 .i64 vT∧ak w w1) ⟨R.qm (rZ wr x) (λx=>x),RP.qm (rZ wr x) (λx=>x),K.qo (rZ wr x)⟩ ?_;clear R RP K znt cp x wr;intro wr Gn;obtain⟨R,RP,K⟩:=Gn;have c8:=R.cell (8+j) (by rw[Hl0.o];omega);have f8:=R.free (8+j);by_cases h8:j<8
  ·have j2:(j:Int)<8:=by omega
   go_wp2_with fail;have R2:=R.store (8+j) (v:=((Gq p 3:Nat):Int)) rfl;have K2:=K.setCell (p:=⟨w.heap.size,8+j,none⟩) (.inr (aS _)) (.int .u32 ((Gq p 3:Nat):Int));have RP2:=RP.qm ((ah (qJ w.heap.size) wr).setCell (p:=⟨w.heap.size,8+j,none⟩) (.inl rfl) (.int .u32 ((Gq p 3:Nat):Int))) (λe=>by simp only[qJ]at e;omega);refine qW (λw1=>Row w1 w.heap.size .u32 84 (r0.set (8+j) (Gq p 3))∧uH w1 gp 3 .i64 vT∧ak w w1) ⟨R2,RP2,K2⟩ ?_;clear R RP K R2 RP2 K2 c8 f8 wr;intro wr Gn;obtain⟨R,RP,K⟩:=Gn;have znt:w.heap.size<wr.heap.size:=R.lt;refine Ll 8 (by kernel_rfl) (by kernel_rfl) ?_;simp only[dE,dD,dA,dF]
   repeat(quiet_step ((go_at_call 33;exact vw _ (zgM _ 2 (by decide) _))))
   refine dP ?_;intro x;refine qQ (λw1=>Row w1 w.heap.size .u32 84 (r0.set (8+j) (Gq p 3))∧uH w1 gp 3 .i64 vT∧ak w w1) ⟨R.qm (rZ wr x) (λx=>x),RP.qm (rZ wr x) (λx=>x),K.qo (rZ wr x)⟩ ?_;clear R RP K znt x wr;intro wr Gn;obtain⟨R,RP,K⟩:=Gn;have c8:=R.cell j (by rw[fC,Hl0.o];omega);have f8:=R.free j;go_wp2_with fail;have R2:=R.store j (v:=((Gq p 2:Nat):Int)) rfl;have JO:(r0.set (8+j) (Gq p 3)).set j (Gq p 2)=Dq (j+1):=by rw[Hs.o,bu h8,H3.o,H2.o h8]
   rw[JO]at R2;exact⟨⟨j+1,by omega,by go_num,R2,RP.qm ((ah (qJ w.heap.size) wr).setCell (p:=⟨w.heap.size,j,none⟩) (.inl rfl) _) (λe=>by simp only[qJ]at e;omega),K.setCell (p:=⟨w.heap.size,j,none⟩) (.inr (aS _)) _⟩,by simp[intOf];omega⟩
  have j2:decide ((j:Int)<8)=false:=by simp;omega
  go_wp2_with fail;have R2:=R.store (8+j) (v:=((Gq p 3:Nat):Int)) rfl;have JO:r0.set (8+j) (Gq p 3)=Dq (j+1):=by rw[Hs.o,aV h8,H3.o]
  rw[JO]at R2;exact⟨⟨j+1,by omega,by go_num,R2,RP.qm ((ah (qJ w.heap.size) wr).setCell (p:=⟨w.heap.size,8+j,none⟩) (.inl rfl) _) (λe=>by simp only[qJ]at e;omega),K.setCell (p:=⟨w.heap.size,8+j,none⟩) (.inr (aS _)) _⟩,by simp[intOf];omega⟩
 have ztO:j=64:=by omega
 have j1:decide ((j:Int)<64)=false:=by simp;omega
 rw[ztO,zhK]at R;clear rE hj ztO;go_wp2_with fail;go_ret;exact⟨rfl,R,K⟩
def vG(i:Int):Nat:=(i % 18446744073709551616).toNat
def zq9(i:Int):vG i<18446744073709551616:=by unfold vG;omega
def zc7(i:Int):i % 18446744073709551616=(vG i:Int):=by unfold vG;omega
def J5(n:Nat)(h:n<18446744073709551616):vG n=n:=by unfold vG;omega
def Di(n:Nat):Nat->List Nat
 | 0=> []
 | k+1=>n/256^k % 256::Di n k
def zuW(k:Nat):256^k=2^(8*k):=by rw[Nat.pow_mul]
def zkb(n:Nat):∀k j,k+j=8->uz n k++Di n j=uz n 8:=by
 intro k j h
 induction j generalizing k with
 | zero=>
   obtain rfl:k=8:=by omega
   rw[Di,dS]
 | succ j ih=>
  rw[<-ih (k+1) (by omega),Di,uz,bC,zuW,show 7-k=j by omega];rfl
def zbN(n:Nat):Di n 8=sS n:=by have:=zkb n 0 8 rfl;rw[uz,fZ]at this;exact this
def zfi(n k:Nat):(Di n k).length=k:=by
 induction k with
 | zero=>rfl
 | succ k ih=>rw[Di,bf,ih]
def I5(i:Int)(w:ax):
  ae 155 #[.int .i64 i] w λe w'=>e= .returned (.string (uu (sS (vG i))))∧ak w w':=by
 obtain⟨i0,zM,Ba,D9,D6⟩:=iC Ud;have hu:IntKind.u64.wrap i=(vG i:Int):=by rw[nG];exact zc7 i
 obtain⟨n,hn⟩:=aj (vG i);rw[<-hn];rw[<-hn]at hu;clear hn;go_enter func155,ntmps155;go_wp2
 go_loopw [3,4] (λv i wr=>∃k:Nat,k<=8∧i= .int .i64 (7-(k:Int))∧ak w wr∧wr.ownsRow w.heap.size 5 1 v (uz n k).length (DV (uz n k))) (λ_ i _=>(intOf i+1).toNat)
 case atStart=>exact⟨0,by omega,rfl,ah _ _,kG _ _ _ _⟩
 case round=>
  obtain⟨k,hk,rfl,K,ru⟩:=hrel;by_cases rE:k<8
  ·have j1:(0:Int)<=7-k:=by omega
   obtain⟨q,hq⟩:=aj (7-k);have NR:(7:Int)-k=q:=by omega
   rw[NR];have hq3:(0:Int)<=q:=by omega
   have hq4:(q:Int)<=7:=by omega
   have hq5:(8*(q:Int)).toNat=8*q:=by omega
   clear NR j1;have Hq:=ag hq;clear hq;have hlen:(uz n k).length=k:=tu _ _;have yM:=ag hlen;clear hlen;go_wp2_with (first|(at_builtin;refine ik _ rfl _ _ 153 rfl w.heap.size 5 i0 (.int .u8 0) 1 1 dG zM Ba D9 D6 rfl (by decide) u3 _ _ rfl (ru.alloc _) ⟨wr.heap.size,0,none⟩ 1 1 _ rfl rfl (rJ _ _ _) (EL _ _) (by rw[yM.o];unfold maxLen;omega) (by rw[yM.o];omega) (by have:=K.size;simp;omega) ?_;intro v' w' yT xh _));have e2:DV (uz n k)++ [Value.int .u8 ((n:Int)/2^(8*q) % 256)]=DV (uz n (k+1)):=by rw[Hq.o,Uj,Jj]
   have e3:(uz n k).length+1=(uz n (k+1)).length:=by rw[uz,aN];rfl
   rw[e2,e3]at yT;have K2:ak w w':=(K.alloc _).grown xh (λb hb=> .inr (ru.lt b hb).1);have hq6:(q:Int)-1=7-((k+1:Nat):Int):=by rw[Hq.o];omega
   clear e2 e3 xh ru hq3 hq5;refine⟨⟨k+1,by omega,by rw[hq6],K2,yT⟩,by simp[intOf]⟩
  obtain rfl:k=8:=by omega
  have NT:=BU (P:=prog) ru dG eQ bK;go_wp2_with fail;go_ret;exact⟨rfl,K⟩
def Ai(i:Int)(w:ax):
  ae 118 #[.int .i64 i] w λe w'=>e= .returned (.string (uu (sS (vG i))))∧ak w w':=by
 have hu:IntKind.u64.wrap i=(vG i:Int):=by rw[nG];exact zc7 i
 obtain⟨n,hn⟩:=aj (vG i);have CV:n<18446744073709551616:=by rw[hn];exact zq9 i
 rw[<-hn];rw[<-hn]at hu;clear hn;go_enter func118,ntmps118;go_wp2
 go_loopw [3,4,7] (λs u i wr=>∃(k m:Nat) (A:af),k<=8∧i= .int .i64 k∧u= .int .u64 m∧Hid (m=n/256^k)∧s= .string A∧Hid (bs A=Di n k)∧ak w wr) (λ_ _ i _=>8-(intOf i).toNat)
 case atStart=>exact⟨0,n,_,by omega,rfl,rfl,by show n=n/256^0;rw[pU,Nat.div_one],rfl,rfl,ah _ _⟩
 case round=>
  clear hu;obtain⟨k,m,A,hk,rfl,rfl,hm,rfl,hA,K⟩:=hrel;have hml:(m:Int)<18446744073709551616:=by have:=jX n (256^k);rw[<-hm.o]at this;omega
  by_cases rE:k<8
  ·have j1:(k:Int)<8:=by omega
   obtain⟨b,hb⟩:=aj (m % 256);have e1:(m:Int) % 256=(b:Int):=by omega
   have zkq:b<256:=by omega
   obtain⟨m2,YA⟩:=aj (m/256);have e2:(m:Int)/256=(m2:Int):=by omega
   have Hm2:Hid (m2=n/256^(k+1)):=by show _=_;rw[YA,hm.o,kQ,mF]
   have OB:Hid (bs (uu [b]++A)=Di n (k+1)):=by show bs _=_;rw[tX,rM (λy hy=>by obtain rfl:=bJ.1 hy;exact zkq),hA.o,Di,<-hm.o,<-hb];rfl
   have G8:¬(9223372036854775807<(uu [b]).size+A.size):=by
    have hAs:A.size=k:=by rw[<-ry,hA.o,zfi]
    rw[rH,hAs];simp;omega
   have hso:=λw=>ED (P:=prog) w (E:=5) dG eQ bK (b:Int) b rfl;have Rw:(b:Int)<=255:=by omega
   clear hb YA zkq;go_wp2_with fail;exact⟨⟨k+1,m2,_,by omega,by go_num,rfl,Hm2,rfl,OB,K.alloc _⟩,by simp[intOf];omega⟩
  have hk8:k=8:=by omega
  have j1:decide ((k:Int)<8)=false:=by simp;omega
  have tN:A=uu (sS n):=by apply xJ;rw[hA.o,hk8,zbN,rM (show Bytes (sS n)from Ez _ _)]
  have xM:=ag tN;clear hk8 rE hk tN;go_wp2_with fail;go_ret;exact⟨dB (λt=>Ending.returned (.string t)) xM.o,K⟩
def strCells(l:List af):List ay:=l.map Value.string
def upto{α:Type}(f:Nat->α)(k:Nat):List α:=(List.range k).map f
def VP{α:Type}(f:Nat->α)(k:Nat):upto f (k+1)=upto f k++ [f k]:=by simp[upto,lH]
def PD{α:Type}(f:Nat->α)(k:Nat):(upto f k).length=k:=by simp[upto]
def qF.at{v:ay}(h:qF w base E 1 v n xs)(hn:0<n):∃g cap,v= .slice (Option.some ⟨g,0,none⟩) n cap∧g<w.heap.size∧(∀i u,xs[i]? =Option.some u->w.cell? ⟨g,i,none⟩=Option.some u)∧∀i,i<n->w.frozen? ⟨g,i,none⟩=false:=by
 rcases h.2 with⟨_,h0⟩|⟨g,cap,cur,fz,hv,hb,hg,hf,hc,hm,hs,ht⟩
 ·omega
 refine⟨g,cap,hv,lt_of_heap hg,λi u hu=> ?_,λi hi=> ?_⟩
 ·have:=h.cells (g:=g) (by rw[hv];rfl) i u hu;have Dz:(⟨g,0,none⟩:Addr).add i=⟨g,0+i,none⟩:=by unfold Addr.add;split<;>simp_all
  rwa [Dz,eH]at this
 have:=hf i (by rw[hs];omega);obtain⟨lo,hi'⟩:=fz
 simpa [World.frozen?,hg]using this
def BP:(prog.info? 9).map (λi=>(i.zero,i.size,i.bytes))=some (some (.string ⟨#[]⟩),1,16):=by kernel_rfl
def J6{v:ay}{l:List af}(h:qF w base E 1 v l.length (strCells l)):Strs w v l:=by
 by_cases h0:0<l.length
 ·obtain⟨g,cap,rfl,hg,hc,_⟩:=h.at h0;refine .inr ⟨g,0,cap,rfl,hg,λi hi=> ?_⟩;rw[eH];exact hc i _ (by rw[strCells,aX,aG,aK hi];rfl)
 have Zv:l= []:=dV (by omega);subst Zv;rcases h.2 with⟨hv,_⟩|⟨g,cap,cur,fz,hv,_⟩
 ·exact .inl ⟨rfl,_,_,hv⟩
 exact .inl ⟨rfl,_,_,hv⟩
def MI(n lo hi:Int)(h1:lo<=n)(h2:n<=hi)(w:ax):ae 45 #[.int .i64 n,.int .i64 lo,.int .i64 hi] w λe w'=>e= .returned (.bool true)∧w'=w:=by
 have d1:decide (lo<=n)=true:=by simp[h1]
 have d2:decide (n<=hi)=true:=by simp[h2]
 go_enter func45,ntmps45;go_wp2;go_ret;exact⟨rfl,rfl⟩
def zsm(n lo hi:Int)(h:¬(lo<=n∧n<=hi))(w:ax):ae 45 #[.int .i64 n,.int .i64 lo,.int .i64 hi] w λe w'=>e= .returned (.bool false)∧w'=w:=by
 by_cases h1:lo<=n
 ·have h2:decide (n<=hi)=false:=by simp;omega
  have d1:decide (lo<=n)=true:=by simp[h1]
  clear h;go_enter func45,ntmps45;go_wp2;go_ret;exact⟨rfl,rfl⟩
 have h2:decide (lo<=n)=false:=by simp;omega
 clear h h1;go_enter func45,ntmps45;go_wp2;go_ret;exact⟨rfl,rfl⟩
def zcG(g:FuncId)(p:af->Bool)(hp:∀s w,ae g #[.string s] w λe w'=>e= .returned (.bool (p s))∧w'=w)(eg:∀args w,(callFunc g args).run prog w= .ok (.enter g args) w)(v:ay)(l:List af)(w:ax)(S:Strs w v l)(hl:l.length<=1000000):
  ae 317 #[v,.func (.func g) #[] #[]] w λe w'=>(∃i:Int,e= .returned (.int .i64 i)∧decide (0<=i)=l.any p)∧w'=w:=by
 obtain⟨a,c,rfl⟩:=S.len;obtain⟨n,hn⟩:=aj l.length;rw[<-hn]at S hl;rw[<-hn];have Hn:=ag hn;clear hn;go_enter func317,ntmps317;go_wp2_with fail
 go_loop [8] (λi=>∃k:Nat,k<=n∧i= .int .i64 k∧(l.take k).any p=false) (λi=>n-(intOf i).toNat)
 case atStart=>exact⟨0,by omega,rfl,rfl⟩
 case round=>
  obtain⟨k,hk,rfl,OJ⟩:=hrel;by_cases rE:k<n
  ·have j1:decide (k<n)=true:=by simp;omega
   obtain⟨b,off,rfl,CV,hb,uw⟩:=S.at (by have:=Hn.o;omega);have QN:=uw k (by have:=Hn.o;omega);obtain⟨s,hs⟩:=aj (l.getD k ⟨#[]⟩);rw[<-hs]at QN;have Tu:(l.take (k+1)).any p=p s:=by rw[aZ (by have:=Hn.o;omega),List.any_append,OJ,hs,aG,aK (by have:=Hn.o;omega)];simp
   have Hks:=ag Tu;have zup:=ag OJ;have hj:(k:Int)<n:=by omega
   clear uw hs Tu OJ CV;go_wp2_with fail;refine(hp s w).m ?_;rintro e w' ⟨rfl,hw⟩;subst w';cases hps:p s with
   | true=>
    rw[hps]at Hks;clear hps;go_wp2_with fail;go_ret;refine⟨⟨(k:Int),rfl,?_⟩,rfl⟩;have h1:=Hks.o;rw[jm]at h1;obtain⟨y,hy,hpy⟩:=h1;have h2:l.any p=true:=jm.2 ⟨y,iq hy,hpy⟩;rw[h2];simp
   | false=>
    rw[hps]at Hks;clear hps;go_wp2_with fail;exact⟨⟨k+1,by omega,by go_num,Hks.o⟩,by simp[intOf];omega⟩
  obtain rfl:k=n:=by omega
  have vz:l.any p=false:=by rw[<-OJ,bg (by rw[<-Hn.o];exact aS _)]
  have j1:decide (k<k)=false:=by simp
  have zeh:=ag vz;clear vz OJ;go_wp2_with fail;go_ret;exact⟨⟨-1,rfl,by rw[zeh.o];rfl⟩,rfl⟩
def W9(g:FuncId)(p:af->Bool)(hp:∀s w,ae g #[.string s] w λe w'=>e= .returned (.bool (p s))∧w'=w)(eg:∀args w,(callFunc g args).run prog w= .ok (.enter g args) w)(v:ay)(l:List af)(w:ax)(S:Strs w v l)(hl:l.length<=1000000):
  ae 275 #[v,.func (.func g) #[] #[]] w λe w'=>e= .returned (.bool (l.any p))∧w'=w:=by
 have hi:=zcG g p hp eg v l w S hl;obtain⟨a,c,rfl⟩:=S.len;generalize l.any p=b at hi⊢;clear hp eg;go_enter func275,ntmps275;go_wp2_with fail;refine hi.m ?_;clear hi;rintro e w' ⟨⟨i,rfl,hd⟩,hw⟩;subst w';go_wp2_with fail;go_ret
 first|exact⟨dB (λb=>Ending.returned (.bool b)) hd,rfl⟩|exact⟨rfl,rfl⟩
def ofInt_u32(a:Nat)(ha:a<4294967296):(BitVec.ofInt 32 (a:Int)).toNat=a:=by rw[lK,mD];exact jM (by omega)
def u32_or(a b:Nat)(ha:a<4294967296)(hb:b<4294967296):bits .or .u32 (a:Int) (b:Int)=((a|||b:Nat):Int):=by have hx:a|||b<2^32:=kE (by omega) (by omega);show IntKind.u32.wrap ((BitVec.ofInt 32 (a:Int)|||BitVec.ofInt 32 (b:Int)).toNat:Int)=_;rw[pG,ofInt_u32 a ha,ofInt_u32 b hb,lW];omega
def u32_xor(a b:Nat)(ha:a<4294967296)(hb:b<4294967296):bits .xor .u32 (a:Int) (b:Int)=((a^^^b:Nat):Int):=by have hx:a^^^b<2^32:=kX (by omega) (by omega);show IntKind.u32.wrap ((BitVec.ofInt 32 (a:Int)^^^BitVec.ofInt 32 (b:Int)).toNat:Int)=_;rw[BitVec.toNat_xor,ofInt_u32 a ha,ofInt_u32 b hb,lW];omega
def MC(a b:Nat)(ha:a<4294967296)(hb:b<4294967296):a^^^b<4294967296:=by have hx:a^^^b<2^32:=kX (by omega) (by omega);omega
def zoT(x n:Nat)(hx:x<4294967296):bits .or .u32 ((x:Int)*2^n % 4294967296) ((x:Int)/2^(32-n))=((rotl x n:Nat):Int):=by
 have e1:((x:Int)*2^n % 4294967296)=((x*2^n % 4294967296:Nat):Int):=by simp
 have e2:((x:Int)/2^(32-n))=((x/2^(32-n):Nat):Int):=by simp
 rw[e1,e2];exact u32_or _ _ (jh _ (by omega)) (jg (jX _ _) hx)
def zrx(x n:Nat)(hx:x<4294967296):rotl x n<4294967296:=by unfold rotl;have:=kE (n:=32) (x:=x*2^n % 4294967296) (y:=x/2^(32-n)) (jh _ (by omega)) (jg (jX _ _) hx);exact this
def zeC{a b:Int}(h:a=b):Ending.returned (.int .u32 a)= .returned (.int .u32 b):=by rw[h]
def Uh(x:Int)(X n:Nat)(hx:X<4294967296)(he:x=X)(hn:n<=32)(w:ax):
  ae 332 #[.int .u32 x,.int .i64 n] w λe w'=>e= .returned (.int .u32 (rotl X n))∧∃k,w'=w.drewN k:=by
 subst he;go_enter func332,ntmps332;go_wp2
 go_quiet (fail)
 go_wp2;go_ret;exact⟨zeC (zoT X n hx),⟨_,rfl⟩⟩
structure Cb(l:List Nat):Prop where
 len:l.length=16
 lt:∀i,l.getD i 0<4294967296
def zuO(h:∀i,l.getD i 0<4294967296)(i v:Nat)(hv:v<4294967296)(k:Nat):(l.set i v).getD k 0<4294967296:=by
 have:=h k;simp only[aG,oD]at*;split
 ·split<;>simp<;>omega
 exact this
def Cb.set(h:Cb l)(i v:Nat)(hv:v<4294967296):Cb (l.set i v):=⟨by simp[h.len],zuO h.lt i v hv⟩
def Cb.add(h:Cb l)(i j:Nat):Cb (yA l i j):=h.set _ _ (jh _ (by omega))
def Cb.rot(h:Cb l)(i j n:Nat):Cb (BG l i j n):=h.set _ _ (zrx _ _ (MC _ _ (h.lt i) (h.lt j)))
def FU(i j:Nat):((l[i]?.getD 0:Nat)+(l[j]?.getD 0:Nat):Int) % 4294967296=(((l.getD i 0+l.getD j 0) % 4294967296:Nat):Int):=by simp
def FQ(h:Cb l)(i j:Nat):bits .xor .u32 ((l[i]?.getD 0:Nat):Int) ((l[j]?.getD 0:Nat):Int)=((l.getD i 0^^^l.getD j 0:Nat):Int):=by
 have:=u32_xor (l.getD i 0) (l.getD j 0) (h.lt i) (h.lt j)
 simpa using this
def zhM(B:Nat)(T:aB)(a b c d:Nat)(l:List Nat)(w:ax)(ha:a<16)(hb:b<16)(hc:c<16)(hd:d<16)(R:Row w B .u32 T l)(L:Cb l):
  ae 316 #[.pointer (some ⟨B,0,none⟩),.int .i64 a,.int .i64 b,.int .i64 c,.int .i64 d] w λe w'=>e= .returned (.tuple #[])∧Row w' B .u32 T (qr l a b c d)∧Keep (qJ B) w w':=by
 have ja:(a:Int)<16:=by omega
 have jb:(b:Int)<16:=by omega
 have jc:(c:Int)<16:=by omega
 have jd:(d:Int)<16:=by omega
 have K:Keep (qJ B) w w:=ah _ _;go_enter func316,ntmps316;go_wp2;have c1:=R.cell a (by rw[L.len];omega);have c2:=R.cell b (by rw[L.len];omega);have f1:=R.free a;refine qV 13 (by kernel_rfl) (by kernel_rfl) ?_;simp only[dE,dD,dA,dF]
 repeat(quiet_step (fail))
 refine dP ?_;intro nq;go_wp2;refine qW (λw1=>Row w1 B .u32 T (yA l a b)∧Keep (qJ B) w w1) ⟨(R.drewN nq).store a (FU a b),(K.drewN nq).tK _ _⟩ ?_;clear R K c1 c2 f1;intro w1 vF;obtain⟨R,K⟩:=vF;have L:=L.add a b;have c1:=R.cell d (by rw[L.len];omega);have c2:=R.cell a (by rw[L.len];omega);have f1:=R.free d;refine qV 16 (by kernel_rfl) (by kernel_rfl) ?_;simp only[dE,dD,dA,dF]
 repeat(quiet_step ((go_at_call 332;exact kY (Uh _ _ 16 (MC _ _ (L.lt d) (L.lt a)) (FQ L d a) (by omega) _))))
 refine dP ?_;intro nq;go_wp2;refine qW (λw1=>Row w1 B .u32 T (BG ((yA l a b)) d a 16)∧Keep (qJ B) w w1) ⟨(R.drewN nq).store d rfl,(K.drewN nq).tK _ _⟩ ?_;clear R K c1 c2 f1;intro w1 vF;obtain⟨R,K⟩:=vF;have L:=L.rot d a 16;have c1:=R.cell c (by rw[L.len];omega);have c2:=R.cell d (by rw[L.len];omega);have f1:=R.free c;refine qV 13 (by kernel_rfl) (by kernel_rfl) ?_;simp only[dE,dD,dA,dF]
 repeat(quiet_step (fail))
 refine dP ?_;intro nq;go_wp2;refine qW (λw1=>Row w1 B .u32 T (yA (BG (yA l a b) d a 16) c d)∧Keep (qJ B) w w1) ⟨(R.drewN nq).store c (FU c d),(K.drewN nq).tK _ _⟩ ?_;clear R K c1 c2 f1;intro w1 vF;obtain⟨R,K⟩:=vF;have L:=L.add c d;have c1:=R.cell b (by rw[L.len];omega);have c2:=R.cell c (by rw[L.len];omega);have f1:=R.free b;refine qV 16 (by kernel_rfl) (by kernel_rfl) ?_;simp only[dE,dD,dA,dF]
 repeat(quiet_step ((go_at_call 332;exact kY (Uh _ _ 12 (MC _ _ (L.lt b) (L.lt c)) (FQ L b c) (by omega) _))))
 refine dP ?_;intro nq;go_wp2;refine qW (λw1=>Row w1 B .u32 T (BG ((yA (BG (yA l a b) d a 16) c d)) b c 12)∧Keep (qJ B) w w1) ⟨(R.drewN nq).store b rfl,(K.drewN nq).tK _ _⟩ ?_;clear R K c1 c2 f1;intro w1 vF;obtain⟨R,K⟩:=vF;have L:=L.rot b c 12;have c1:=R.cell a (by rw[L.len];omega);have c2:=R.cell b (by rw[L.len];omega);have f1:=R.free a;refine qV 13 (by kernel_rfl) (by kernel_rfl) ?_;simp only[dE,dD,dA,dF]
 repeat(quiet_step (fail))
 refine dP ?_;intro nq;go_wp2;refine qW (λw1=>Row w1 B .u32 T (yA (BG (yA (BG (yA l a b) d a 16) c d) b c 12) a b)∧Keep (qJ B) w w1) ⟨(R.drewN nq).store a (FU a b),(K.drewN nq).tK _ _⟩ ?_;clear R K c1 c2 f1;intro w1 vF;obtain⟨R,K⟩:=vF;have L:=L.add a b;have c1:=R.cell d (by rw[L.len];omega);have c2:=R.cell a (by rw[L.len];omega);have f1:=R.free d;refine qV 16 (by kernel_rfl) (by kernel_rfl) ?_;simp only[dE,dD,dA,dF]
 repeat(quiet_step ((go_at_call 332;exact kY (Uh _ _ 8 (MC _ _ (L.lt d) (L.lt a)) (FQ L d a) (by omega) _))))
 refine dP ?_;intro nq;go_wp2;refine qW (λw1=>Row w1 B .u32 T (BG ((yA (BG (yA (BG (yA l a b) d a 16) c d) b c 12) a b)) d a 8)∧Keep (qJ B) w w1) ⟨(R.drewN nq).store d rfl,(K.drewN nq).tK _ _⟩ ?_;clear R K c1 c2 f1;intro w1 vF;obtain⟨R,K⟩:=vF;have L:=L.rot d a 8;have c1:=R.cell c (by rw[L.len];omega);have c2:=R.cell d (by rw[L.len];omega);have f1:=R.free c;refine qV 13 (by kernel_rfl) (by kernel_rfl) ?_;simp only[dE,dD,dA,dF]
 repeat(quiet_step (fail))
 refine dP ?_;intro nq;go_wp2;refine qW (λw1=>Row w1 B .u32 T (yA (BG (yA (BG (yA (BG (yA l a b) d a 16) c d) b c 12) a b) d a 8) c d)∧Keep (qJ B) w w1) ⟨(R.drewN nq).store c (FU c d),(K.drewN nq).tK _ _⟩ ?_;clear R K c1 c2 f1;intro w1 vF;obtain⟨R,K⟩:=vF;have L:=L.add c d;have c1:=R.cell b (by rw[L.len];omega);have c2:=R.cell c (by rw[L.len];omega);have f1:=R.free b;refine qV 16 (by kernel_rfl) (by kernel_rfl) ?_;simp only[dE,dD,dA,dF]
 repeat(quiet_step ((go_at_call 332;exact kY (Uh _ _ 7 (MC _ _ (L.lt b) (L.lt c)) (FQ L b c) (by omega) _))))
 refine dP ?_;intro nq;go_wp2;go_end0;exact⟨rfl,(R.drewN nq).store b rfl,(K.drewN nq).tK _ _⟩
def zaV(B:Nat)(T:aB)(a b c d:Nat)(ia ib ic id:Int)(l:List Nat)(w:ax)(ha:a<16)(hb:b<16)(hc:c<16)(hd:d<16)(ea:ia=a)(eb:ib=b)(ec:ic=c)(ed:id=d)(R:Row w B .u32 T l)(L:Cb l):
  ae 316 #[.pointer (some ⟨B,0,none⟩),.int .i64 ia,.int .i64 ib,.int .i64 ic,.int .i64 id] w λe w'=>e= .returned (.tuple #[])∧Row w' B .u32 T (qr l a b c d)∧Keep (qJ B) w w':=by
 subst ea eb ec ed;exact zhM B T a b c d l w ha hb hc hd R L
def or4(a b c d:Nat)(ha:a<256)(hb:b<256)(hc:c<256)(hd:d<256):((a|||b*256)|||c*65536)|||d*16777216=a+256*b+65536*c+16777216*d:=by
 have e1:a|||b*256=a+256*b:=by
  have:=iW (i:=8) (b:=a) (by omega) b;rw[Nat.or_comm,jA b 256]
  simpa [oG]using this.s
 have e2:(a+256*b)|||c*65536=a+256*b+65536*c:=by
  have:=iW (i:=16) (b:=a+256*b) (by omega) c;rw[Nat.or_comm,jA c 65536]
  simpa [oG]using this.s
 have e3:(a+256*b+65536*c)|||d*16777216=a+256*b+65536*c+16777216*d:=by
  have:=iW (i:=24) (b:=a+256*b+65536*c) (by omega) d;rw[Nat.or_comm,jA d 16777216]
  simpa [oG]using this.s
 rw[e1,e2,e3]
def zgs(s:af)(hs:4<=s.size)(w:ax):
  ae 315 #[.string s] w λe w'=>e= .returned (.int .u32 (GH (bs s) 0:Nat))∧∃k,w'=w.drewN k:=by
 have h0:0<s.size:=by omega
 have h1:(1:Int)<s.size:=by omega
 have h2:(2:Int)<s.size:=by omega
 have h3:(3:Int)<s.size:=by omega
 go_enter func315,ntmps315;go_wp2
 go_quiet (fail)
 go_wp2;go_ret;refine⟨?_,⟨_,rfl⟩⟩;have b0:=xZ s 0 (by omega);have b1:=xZ s 1 (by omega);have b2:=xZ s 2 (by omega);have b3:=xZ s 3 (by omega);have c0:=N7 s 0;have c1:=N7 s 1;have c2:=N7 s 2;have c3:=N7 s 3;refine zeC ?_;have fin:∀a b c d:Nat,a<256->b<256->c<256->d<256->bits BinOp.or IntKind.u32 (bits BinOp.or IntKind.u32 (bits BinOp.or IntKind.u32 ((a:Int) % 4294967296) ((b:Int) % 4294967296*256 % 4294967296)) ((c:Int) % 4294967296*65536 % 4294967296)) ((d:Int) % 4294967296*16777216 % 4294967296)=((a+256*b+65536*c+16777216*d:Nat):Int):=by
  intro a b c d ha hb hc hd;have e0:(a:Int) % 4294967296=(a:Nat):=by omega
  have e1:(b:Int) % 4294967296*256 % 4294967296=((b*256:Nat):Int):=by omega
  have e2:(c:Int) % 4294967296*65536 % 4294967296=((c*65536:Nat):Int):=by omega
  have e3:(d:Int) % 4294967296*16777216 % 4294967296=((d*16777216:Nat):Int):=by omega
  have p1:a|||b*256<4294967296:=by have:=kE (n:=32) (x:=a) (y:=b*256) (by omega) (by omega);omega
  have p2:(a|||b*256)|||c*65536<4294967296:=by have:=kE (n:=32) (x:=a|||b*256) (y:=c*65536) (by omega) (by omega);omega
  rw[e0,e1,e2,e3,u32_or _ _ (by omega) (by omega),u32_or _ _ p1 (by omega),u32_or _ _ p2 (by omega),or4 a b c d ha hb hc hd]
 rw[b0]at c0;rw[b1]at c1;rw[b2]at c2;rw[b3]at c3;have:=fin _ _ _ _ c0 c1 c2 c3;unfold GH;rw[b0,b1,b2,b3];exact this
def Wp(key:List Nat)(k:Nat):(keyed key k).length=16:=by
 unfold keyed;induction k with
 | zero=>rfl
 | succ k ih=>simp[times,ih]
def za8(l:List Nat)(qH:List Nat)(k:Nat):(Ia l qH k).length=l.length:=by
 unfold Ia;induction k with
 | zero=>rfl
 | succ k ih=>simp[times,ih]
def zkT(l:List Nat)(h:∀i,l.getD i 0<256)(i:Nat):GH l i<4294967296:=by unfold GH;have:=h i;have:=h (i+1);have:=h (i+2);have:=h (i+3);omega
def Cb.keyed(key:List Nat)(h:∀i,key.getD i 0<256)(k:Nat):Cb (keyed key k):=by
 unfold Go.Proofs.YtbcmmbeadgiiiaaGreatDoor.keyed
 induction k with
 | zero=>
  refine⟨rfl,λi=> ?_⟩;simp only[times];by_cases hi:i<16
  ·have:∀j:Fin 16,ziZ.getD j.val 0<4294967296:=by decide
   exact this ⟨i,hi⟩
  rw[aG,jF (by simp[ziZ];omega)];simp
 | succ k ih=>exact ih.set _ _ (zkT _ h _)
def Cb.Ia(L:Cb l)(qH:List Nat)(h:∀i,qH.getD i 0<256)(k:Nat):Cb (Ia l qH k):=by
 unfold Go.Proofs.YtbcmmbeadgiiiaaGreatDoor.Ia
 induction k with
 | zero=>exact L
 | succ k ih=>exact ih.set _ _ (zkT _ h _)
def Cb.zkD(key:List Nat)(hk:∀i,key.getD i 0<256)(n:Nat)(qH:List Nat)(hn:∀i,qH.getD i 0<256):Cb (Go.Proofs.YtbcmmbeadgiiiaaGreatDoor.start key n qH):=
 Cb.Ia ((Cb.keyed key hk 8).set 12 _ (jh _ (by omega))) qH hn 3
def Cb.qr(L:Cb l)(a b c d:Nat):Cb (qr l a b c d):=by unfold Go.Proofs.YtbcmmbeadgiiiaaGreatDoor.qr;exact((((((((L.add _ _).rot _ _ _).add _ _).rot _ _ _).add _ _).rot _ _ _).add _ _).rot _ _ _)
def Cb.times{f:Nat->List Nat->List Nat}(hf:∀i l,Cb l->Cb (f i l))(n:Nat)(L:Cb l):Cb (times f n l):=by
 induction n with
 | zero=>exact L
 | succ n ih=>exact hf n _ ih
def Cb.col(L:Cb l)(i:Nat):Cb (col i l):=L.qr _ _ _ _
def Cb.dia(L:Cb l)(i:Nat):Cb (dia i l):=L.qr _ _ _ _
def Cb.dbl(L:Cb l)(i:Nat):Cb (dbl i l):=Cb.times (λi _ h=>h.dia i) 4 (Cb.times (λi _ h=>h.col i) 4 L)
def GV(s:af)(i:Nat)(h:i+4<=s.size):GH (bs (s.extract i s.size)) 0=GH (bs s) i:=by
 have e:∀j,j<4->(bs (s.extract i s.size)).getD j 0=(bs s).getD (i+j) 0:=by intro j hj;rw[rQ];simp only[aG,gJ,nV];rw[bu (by omega)]
 unfold GH;have:=e 0 (by omega);have:=e 1 (by omega);have:=e 2 (by omega);have:=e 3 (by omega)
 simp_all
def zbj(key:List Nat)(k:Nat):keyed key (k+1)=(keyed key k).set (4+k) (GH key (4*k)):=rfl
def X6(l qH:List Nat)(k:Nat):Ia l qH (k+1)=(Ia l qH k).set (13+k) (GH qH (4*k)):=rfl
def zdh(s:af)(i:Nat):(s.extract i s.size).size=s.size-i:=by simp
def Iu(t s:List Nat)(k:Nat):C9 t s (k+1)=C9 t s k++TM ((t.getD k 0+s.getD k 0) % 4294967296):=rfl
def VZ(t s:List Nat)(k:Nat):(C9 t s k).length=4*k:=by
 induction k with
 | zero=>rfl
 | succ k ih=>rw[Iu,aN,ih];simp[TM];omega
def zyd:(prog.info? 5).map (λi=>(i.zero,i.size,i.bytes))=some (some (.int .u8 0),1,1):=by kernel_rfl
def zuM:(prog.info? 80).map (·.size)=some 1:=by kernel_rfl
def zoN(x:Nat)(hx:x<4294967296):DV (TM x)= [.int .u8 ((x:Int) % 256),.int .u8 ((x:Int)/256 % 256),.int .u8 ((x:Int)/65536 % 256),.int .u8 ((x:Int)/16777216)]:=by
 have e0:((x % 256:Nat):Int)=(x:Int) % 256:=by omega
 have e1:((x/256 % 256:Nat):Int)=(x:Int)/256 % 256:=by omega
 have e2:((x/65536 % 256:Nat):Int)=(x:Int)/65536 % 256:=by omega
 have e3:((x/16777216 % 256:Nat):Int)=(x:Int)/16777216:=by omega
 simp only[DV,TM,bH,dh,e0,e1,e2,e3]
def zm2(key qH:af)(n:Nat)(Vh:Hid (key.size=32))(Rt:Hid (qH.size=12))(h1:n<4294967296)(w:ax):
  ae 274 #[.string key,.int .i64 n,.string qH] w λe w'=>e= .returned (.tuple #[.string (uu (block (bs key) n (bs qH))),.nilIface])∧ak w w':=by
 have b1:((key.size:Int) !=32)=false:=by rw[Vh.o];rfl
 have b2:((qH.size:Int) !=12)=false:=by rw[Rt.o];rfl
 have b3:decide ((n:Int)<0)=false:=by simp
 have b4:decide (4294967296<=(n:Int))=false:=by simp;omega
 have LK:∀k,Cb (keyed (bs key) k):=λk=>Cb.keyed _ (N7 key) k;have HLK:=ag LK;clear LK;go_enter func274,ntmps274;go_wp2;refine qW (λw1=>Row w1 w.heap.size .u32 379 (keyed (bs key) 0)∧ak w w1) ⟨aQ w _,(ah _ _).alloc _⟩ ?_;intro w1 vF
 go_loopw [35] (λi wr=>∃k:Nat,k<=8∧i= .int .i64 k∧Row wr w.heap.size .u32 379 (keyed (bs key) k)∧ak w wr) (λi _=>8-(intOf i).toNat)
 case atStart=>exact⟨0,by omega,rfl,vF.1,vF.2⟩
 case round=>
  clear vF w1;obtain⟨k,hk,rfl,R,K⟩:=hrel;by_cases rE:k<8
  ·have j1:(k:Int)<8:=by omega
   have j2:(4:Int)+k<16:=by omega
   have j3:(4:Int)*k<=key.size:=by rw[Vh.o];omega
   have c1:=R.cell (4+k) (by rw[Wp];omega);have f1:=R.free (4+k);go_wp2_with fail;refine(zgs _ (by rw[zdh,Vh.o];omega) _).m ?_;rintro e w2 ⟨rfl,m,rfl⟩;go_wp2;go_roundw
   case rel=>first|exact⟨k+1,by omega,by go_num,by rw[zbj];exact(R.drewN m).store (4+k) (by rw[GV key _ (by rw[Vh.o];omega)]),(K.drewN m).setCell (.inr (aS _)) _⟩|((repeat apply Exists.intro);exact⟨⟨k+1,by omega,by go_num,by rw[zbj];exact(R.drewN m).store (4+k) (by rw[GV key _ (by rw[Vh.o];omega)]),(K.drewN m).setCell (.inr (aS _)) _⟩,rfl⟩)
   simp[intOf];omega
  obtain rfl:k=8:=by omega
  clear rE hk;have f1:=R.free 12;have c1:=R.cell 12 (by rw[Wp];omega);go_wp2;clear f1 c1;refine qW (λw1=>Row w1 w.heap.size .u32 379 (Ia ((keyed (bs key) 8).set 12 (n % 4294967296)) (bs qH) 0)∧ak w w1) ⟨R.store 12 (by omega),K.setCell (.inr (aS _)) _⟩ ?_;clear R K wr;intro w1 vF;obtain⟨l12,zqD⟩:=aj ((keyed (bs key) 8).set 12 (n % 4294967296));have L12:Cb l12:=by rw[zqD];exact(HLK.o 8).set 12 _ (jh _ (by omega))
  rw[<-zqD]at vF;have zxF:=ag zqD;clear zqD
  go_loopw [50] (λi wr=>∃k:Nat,k<=3∧i= .int .i64 k∧Row wr w.heap.size .u32 379 (Ia l12 (bs qH) k)∧ak w wr) (λi _=>3-(intOf i).toNat)
  ·exact⟨0,by omega,rfl,vF.1,vF.2⟩
  clear vF w1;obtain⟨k,hk,rfl,R,K⟩:=hrel;by_cases rE:k<3
  ·have j1:(k:Int)<3:=by omega
   have j2:(13:Int)+k<16:=by omega
   have j3:(4:Int)*k<=qH.size:=by rw[Rt.o];omega
   have c1:=R.cell (13+k) (by rw[za8,L12.len];omega);have f1:=R.free (13+k);go_wp2_with fail;refine(zgs _ (by rw[zdh,Rt.o];omega) _).m ?_;rintro e w2 ⟨rfl,m,rfl⟩;go_wp2;go_roundw
   case rel=>first|exact⟨k+1,by omega,by go_num,by rw[X6];exact(R.drewN m).store (13+k) (by rw[GV qH _ (by rw[Rt.o];omega)]),(K.drewN m).setCell (.inr (aS _)) _⟩|((repeat apply Exists.intro);exact⟨⟨k+1,by omega,by go_num,by rw[X6];exact(R.drewN m).store (13+k) (by rw[GV qH _ (by rw[Rt.o];omega)]),(K.drewN m).setCell (.inr (aS _)) _⟩,rfl⟩)
   simp[intOf];omega
  obtain rfl:k=3:=by omega
  clear rE hk;refine qW (λw1=>Row w1 w.heap.size .u32 379 (Go.Proofs.YtbcmmbeadgiiiaaGreatDoor.start (bs key) n (bs qH))∧ak w w1) ⟨by rw[zxF.o]at R;exact R,K⟩ ?_;have LS:Cb (Go.Proofs.YtbcmmbeadgiiiaaGreatDoor.start (bs key) n (bs qH)):=Cb.zkD _ (N7 key) _ _ (N7 qH);generalize Hs:Go.Proofs.YtbcmmbeadgiiiaaGreatDoor.start (bs key) n (bs qH)=s at LS;have Hs':=ag Hs;clear Hs R K wr zxF L12;intro w1 vF;obtain⟨R,K⟩:=vF;have Gg:(prog.info? 379).map (·.size)=some (ints .u32 s).size:=by rw[Fh,LS.len];kernel_rfl
  have zxG:=ag Gg;clear Gg;have zAJ:Hid ((ints .u32 s).size=16):=by show(ints .u32 s).size=16;rw[Fh,LS.len]
  go_wp2_with (first|(refine jI rfl 379 _ rfl w.heap.size rfl 379 (ints .u32 s) (0,0) _ R underlying379 rfl zxG.o ?_)|(refine qL rfl 379 _ _ rfl w1.heap.size 379 _ (ints .u32 s) rfl rfl (aQ w1 _) zxG.o 16 ?_ zAJ.o (Pv _ _) ?_;exact rfl));have zlm:w.heap.size<w1.heap.size:=R.lt;obtain⟨BT,hBT⟩:=aj w1.heap.size;rw[<-hBT]at zlm;have HBT:=ag hBT;refine qW (λw2=>Row w2 BT .u32 379 s∧Row w2 w.heap.size .u32 379 s∧ak w w2) ⟨by rw[hBT];exact qO (aQ w1 _),(R.qm ((ah qw w1).alloc _) (λx=>x)).qm ((ah (qJ w1.heap.size) _).setRow (.inl rfl) _) (λe=>by simp only[qJ]at e;omega),(K.alloc _).setRow (.inr (by omega)) _⟩ ?_;rw[<-hBT];clear R K hBT;intro w2 Gp;obtain⟨RT,RS,K⟩:=Gp
  go_loopw [63] (λi wr=>∃k:Nat,k<=10∧i= .int .i64 k∧Row wr BT .u32 379 (times dbl k s)∧Row wr w.heap.size .u32 379 s∧ak w wr) (λi _=>10-(intOf i).toNat)
  ·exact⟨0,by omega,rfl,RT,RS,K⟩
  clear RT RS K w2;obtain⟨k,hk,rfl,RT,RS,K⟩:=hrel;have LT:Cb (times dbl k s):=Cb.times (λi _ h=>h.dbl i) k LS;by_cases rE:k<10
  ·have j1:(k:Int)<10:=by omega
   obtain⟨t0,ht0⟩:=aj (times dbl k s);rw[<-ht0]at RT LT;have Ht0:=ag ht0;clear ht0;go_wp2;refine qW (λw2=>Row w2 BT .u32 379 t0∧Row w2 w.heap.size .u32 379 s∧ak w w2) ⟨RT,RS,K⟩ ?_;clear RT RS K wr;intro w2 Gp;obtain⟨RT,RS,K⟩:=Gp
   go_loopw [65] (λi wr=>∃j:Nat,j<=4∧i= .int .i64 j∧Row wr BT .u32 379 (times col j t0)∧Row wr w.heap.size .u32 379 s∧ak w wr) (λi _=>4-(intOf i).toNat)
   ·exact⟨0,by omega,rfl,RT,RS,K⟩
   clear RT RS K w2;obtain⟨j,hj,rfl,RT,RS,K⟩:=hrel;have LJ:Cb (times col j t0):=Cb.times (λi _ h=>h.col i) j LT;by_cases rE:j<4
   ·have j1:(j:Int)<4:=by omega
    go_wp2_with fail;refine(zaV BT 379 j (4+j) (8+j) (12+j) _ _ _ _ _ wr (by omega) (by omega) (by omega) (by omega) rfl (by omega) (by omega) (by omega) RT LJ).m ?_;rintro e w2 ⟨rfl,RT',K'⟩;have RS':=RS.qm K' (λe=>by simp only[qJ]at e;omega);have K2:=K.t K' (λi hi e=>by simp only[qJ]at e;omega);clear RT RS K K';go_wp2;go_roundw
    case rel=>first|exact⟨j+1,by omega,by go_num,RT',RS',K2⟩|((repeat apply Exists.intro);exact⟨⟨j+1,by omega,by go_num,RT',RS',K2⟩,rfl⟩)
    simp[intOf];omega
   obtain rfl:j=4:=by omega
   clear rE hj;obtain⟨t1,ht1⟩:=aj (times col 4 t0);rw[<-ht1]at RT LJ;have Ht1:=ag ht1;clear ht1;go_wp2;refine qW (λw2=>Row w2 BT .u32 379 t1∧Row w2 w.heap.size .u32 379 s∧ak w w2) ⟨RT,RS,K⟩ ?_;clear RT RS K wr;intro w2 Gp;obtain⟨RT,RS,K⟩:=Gp
   go_loopw [77] (λi wr=>∃j:Nat,j<=4∧i= .int .i64 j∧Row wr BT .u32 379 (times dia j t1)∧Row wr w.heap.size .u32 379 s∧ak w wr) (λi _=>4-(intOf i).toNat)
   ·exact⟨0,by omega,rfl,RT,RS,K⟩
   clear RT RS K w2;obtain⟨j,hj,rfl,RT,RS,K⟩:=hrel;have LD:Cb (times dia j t1):=Cb.times (λi _ h=>h.dia i) j LJ;by_cases rE:j<4
   ·have j1:(j:Int)<4:=by omega
    go_wp2_with fail;refine(zaV BT 379 j (4+(j+1) % 4) (8+(j+2) % 4) (12+(j+3) % 4) _ _ _ _ _ wr (by omega) (by omega) (by omega) (by omega) rfl (by omega) (by omega) (by omega) RT LD).m ?_;rintro e w2 ⟨rfl,RT',K'⟩;have RS':=RS.qm K' (λe=>by simp only[qJ]at e;omega);have K2:=K.t K' (λi hi e=>by simp only[qJ]at e;omega);clear RT RS K K';go_wp2;go_roundw
    case rel=>first|exact⟨j+1,by omega,by go_num,RT',RS',K2⟩|((repeat apply Exists.intro);exact⟨⟨j+1,by omega,by go_num,RT',RS',K2⟩,rfl⟩)
    simp[intOf];omega
   obtain rfl:j=4:=by omega
   clear rE hj;go_wp2;have RT':Row wr BT .u32 379 (times dbl (k+1) s):=by rw[uA,<-Ht0.o];unfold dbl;rw[<-Ht1.o];exact RT
   go_roundw
   case rel=>first|exact⟨k+1,by omega,by go_num,RT',RS,K⟩|((repeat apply Exists.intro);exact⟨⟨k+1,by omega,by go_num,RT',RS,K⟩,rfl⟩)
   simp[intOf];omega
  obtain rfl:k=10:=by omega
  clear rE hk;obtain⟨t,ht⟩:=aj (times dbl 10 s);rw[<-ht]at RT LT;have Ht:=ag ht;clear ht;have Gg:(prog.info? 379).map (·.size)=some (ints .u32 t).size:=by rw[Fh,LT.len];kernel_rfl
  have zxq:=ag Gg;clear Gg;go_wp2_with (first|(refine jI rfl 379 _ rfl BT rfl 379 (ints .u32 t) (0,0) _ RT underlying379 rfl zxq.o ?_));clear zxq;obtain⟨i0,zM,Ba,D9,D6⟩:=iC zyd;refine qW (λw2=>Row w2 BT .u32 379 t∧Row w2 w.heap.size .u32 379 s∧ak w w2) ⟨RT,RS,K⟩ ?_;clear RT RS K wr;intro w2 Gp;obtain⟨RT,RS,K⟩:=Gp;have zAi:=RT.lt
  go_loopw [14,97] (λv i wr=>∃k:Nat,k<=16∧i= .int .i64 k∧Row wr w.heap.size .u32 379 s∧ak w wr∧wr.ownsRow (BT+1) 5 1 v (C9 t s k).length (DV (C9 t s k))∧BT+1<=wr.heap.size) (λ_ i _=>16-(intOf i).toNat)
  ·exact⟨0,by omega,rfl,RS,K,kG _ _ _ _,by omega⟩
  clear RT RS K zAi w2;obtain⟨k,hk,rfl,RS,K,ru,uF⟩:=hrel;by_cases rE:k<16
  ·have j1:(k:Int)<16:=by omega
   have c1:=RS.cell k (by rw[LS.len];omega);have Qg:=λwx=>EE (P:=prog) (kd:= .u32) underlying379 lM rfl zuM t k LT.len rE wx;have hlen:(C9 t s k).length=4*k:=VZ t s k;have yM:=ag hlen;clear hlen;go_wp2_with (first|(at_builtin;refine ik _ rfl _ _ 153 rfl (BT+1) 5 i0 (.int .u8 0) 1 1 dG zM Ba D9 D6 rfl (by decide) u14 _ _ rfl (ru.alloc _) ⟨wr.heap.size,0,none⟩ 4 4 _ rfl rfl (rJ _ _ _) (zsi _ _ _ _ _) (by rw[yM.o];unfold maxLen;omega) (by rw[yM.o];omega) (by simp;omega) ?_;intro v' w' yT xh _));have hx4:(t.getD k 0+s.getD k 0) % 4294967296<4294967296:=jh _ (by omega);have LC:=zoN _ hx4;have ex:(((t.getD k 0+s.getD k 0) % 4294967296:Nat):Int)=((t.getD k 0:Int)+(s.getD k 0:Int)) % 4294967296:=by omega
   have ey:((t.getD k 0:Int)+(s.getD k 0:Int)) % 4294967296 % 256=((t.getD k 0:Int)+(s.getD k 0:Int)) % 256:=by omega
   rw[ex,ey]at LC;simp only[aG]at LC;rw[<-LC,<-zl]at yT;have hl4:(C9 t s k).length+4=(C9 t s (k+1)).length:=by rw[Iu,aN];rfl
   rw[hl4]at yT;have Dc:w'.ownsRow (BT+1) 5 1 v' (C9 t s (k+1)).length (DV (C9 t s (k+1))):=by rw[Iu];simp only[aG];exact yT
   have Bc:∀b,u14.ownBlock=some b->BT+1<=b:=λb hb=>(ru.lt b hb).1;have K2:ak w w':=(K.alloc _).grown xh (λb hb=> .inr (by have:=Bc b hb;omega));have RS2:Row w' w.heap.size .u32 379 s:=(RS.alloc _).grown xh (λe=>by have:=Bc _ e.s;omega);have TE:BT+1<=w'.heap.size:=by have:=xh.size;simp at this;omega
   have zyo:∃k_1:Nat,k_1<=16∧Value.int IntKind.i64 (↑k+1)=Value.int IntKind.i64 ↑k_1∧Row w' w.heap.size IntKind.u32 379 s∧ak w w'∧w'.ownsRow (BT+1) 5 1 v' (C9 t s k_1).length (DV (C9 t s k_1))∧BT+1<=w'.heap.size:=
    ⟨k+1,by omega,by go_num,RS2,K2,Dc,TE⟩
   clear yT xh LC ex ey Dc RS2 K2 hx4 hl4 Qg c1;go_roundw
   case rel=>exact zyo
   simp[intOf];omega
  obtain rfl:k=16:=by omega
  have NT:=BU (P:=prog) ru dG eQ bK;have tN:C9 t s 16=block (bs key) n (bs qH):=by rw[Ht.o,<-Hs'.o];rfl
  rw[tN]at NT;have Hcv:=ag tN;clear tN;go_wp2
  go_ret2
  exact⟨rfl,K⟩
def zqg(key qH:af)(i:Int)(n:Nat)(hi:i=n)(hk:key.size=32)(hn:qH.size=12)(h1:n<4294967296)(w:ax):
  ae 274 #[.string key,.int .i64 i,.string qH] w λe w'=>e= .returned (.tuple #[.string (uu (block (bs key) n (bs qH))),.nilIface])∧ak w w':=by
 subst hi;exact zm2 key qH n hk hn h1 w
def WI(key:List Nat)(n:Nat)(qH:List Nat):(block key n qH).length=64:=VZ _ _ 16
def O9(key qH s:List Nat)(k:Nat)(h:s.length<=k):yN key qH s k=xor key qH s:=by
 induction k with
 | zero=>
  have:s= []:=dV (by omega)
  subst this;rfl
 | succ k ih=>
  by_cases hk:s.length<=k
  ·have e:yN key qH s (k+1)=YY key qH k (yN key qH s k):=rfl;rw[e,YY,List.set_eq_of_length_le (by rw[CG];exact hk),ih hk]
  have:k+1=s.length:=by omega
  rw[this];rfl
def zoi(a b:Nat)(ha:a<256)(hb:b<256):bits .xor .u8 (a:Int) (b:Int)=((a^^^b:Nat):Int):=by
 have h8:∀c:Nat,c<256->(BitVec.ofInt 8 (c:Int)).toNat=c:=λc hc=>by rw[lK,mD];exact jM (by omega)
 have hx:a^^^b<2^8:=kX (by omega) (by omega);show IntKind.u8.wrap ((BitVec.ofInt 8 (a:Int)^^^BitVec.ofInt 8 (b:Int)).toNat:Int)=_;rw[BitVec.toNat_xor,h8 a ha,h8 b hb,IntKind.wrap_u8];omega
def zhj(x:Nat):Bytes (TM x):=by intro y hy;simp only[TM,dO,iT,lN]at hy;rcases hy with rfl|rfl|rfl|rfl<;>exact jh _ (by omega)
def zhY(t s:List Nat)(k:Nat):Bytes (C9 t s k):=by
 induction k with
 | zero=>intro x hx;simp[C9,times]at hx
 | succ k ih=>
  rw[Iu];intro x hx;rcases dX.1 hx with h|h
  ·exact ih x h
  exact zhj _ x h
def PW(key:List Nat)(n:Nat)(qH:List Nat):Bytes (block key n qH):=zhY _ _ 16
def zam(key qH:List Nat)(i:Nat):JY key qH i<256:=ND (PW _ _ _) _
def zaa(key qH s:List Nat)(hs:Bytes s)(k i:Nat):(yN key qH s k).getD i 0<256:=by
 rw[zaC];split
 ·have h1:=ND hs i;have h2:=zam key qH i;have:=kX (n:=8) (x:=s.getD i 0) (y:=JY key qH i) (by omega) (by omega);omega
 exact ND hs i
def zhg(key qH:af)(i:Int)(n:Nat)(hi:i=n)(hk:key.size=32)(hn:qH.size=12)(h1:n<4294967296)(w:ax):
  ae 274 #[.string key,.int .i64 i,.string qH] w λe w'=>∃T,e= .returned (.tuple #[.string T,.nilIface])∧Hid (bs T=block (bs key) n (bs qH))∧ak w w':=
 (zqg key qH i n hi hk hn h1 w).m λ_ _ ⟨he,hK⟩=>⟨_,he,rM (PW _ _ _),hK⟩
def zq1(key qH s:af)(Vh:key.size=32)(Rt:qH.size=12)(zlg:0<s.size)(hs:s.size<=1000000)(w:ax):
  ae 220 #[.string key,.string qH,.string s] w λe w'=>e= .returned (.tuple #[.string (uu (xor (bs key) (bs qH) (bs s))),.nilIface])∧ak w w':=by
 have Hk:=ag Vh;have Hn:=ag Rt;clear Vh Rt;have NT:=jJ (P:=prog) w 9 153 5 s bK dG eQ;go_enter func220,ntmps220;go_wp2_with fail;obtain⟨cap,Ci⟩:=aj (grownCap w s.size 0 5);rw[<-Ci];refine qW (λw1=>ak w w1∧wU w1 w.heap.size 5 (yN (bs key) (bs qH) (bs s) 0)) ⟨(ah _ _).bytesWorld _ _,wU.ofBytes w _ s⟩ ?_;clear NT Ci;intro w1 vF;obtain⟨K,R⟩:=vF
 go_loopw [9] (λi wr=>∃m:Nat,64*m<s.size+64∧i= .int .i64 (64*(m:Int))∧wU wr w.heap.size 5 (yN (bs key) (bs qH) (bs s) (64*m))∧ak w wr) (λi _=>s.size+64-(intOf i).toNat)
 case atStart=>exact⟨0,by omega,rfl,R,K⟩
 case round=>
  clear R K w1;obtain⟨m,hm,rfl,R,K⟩:=hrel;have Qe:(64*m:Nat)<=2000000:=by omega
  by_cases hgo:64*m<s.size
  ·have hd:64*(m:Int)<(s.size:Int):=by omega
   go_wp2_with fail;refine(zhg key qH _ (1+m) (by omega) Hk.o Hn.o (by omega) _).m ?_;rintro e w2 ⟨T,rfl,HT,K2⟩;have R2:=R.qm K2 (λx=>x);have K3:=K.qo K2;have NV:Hid (T.size=64):=by have:=dB List.length HT.o;rw[ry,WI]at this;exact this
   clear R K K2;go_wp2_with fail;refine qW (λw1=>wU w1 w.heap.size 5 (yN (bs key) (bs qH) (bs s) (64*m))∧ak w w1) ⟨R2,K3⟩ ?_;clear R2 K3 w2 wr;intro w1 vF;obtain⟨R,K⟩:=vF
   go_loopw [12] (λkv wr=>∃j:Nat,64*m<=j∧j<=64*m+64∧j<=s.size∧kv= .int .i64 j∧wU wr w.heap.size 5 (yN (bs key) (bs qH) (bs s) j)∧ak w wr) (λkv _=>64*m+64-(intOf kv).toNat)
   ·exact⟨64*m,by omega,by omega,by omega,by go_num,R,K⟩
   clear R K w1;obtain⟨j,hj1,Tv,hj3,rfl,R,K⟩:=hrel;by_cases yh:j<s.size∧j<64*m+64
   ·obtain⟨hjs,ztO⟩:=yh;have d1:(j:Int)<s.size:=by omega
    have d2:(j:Int)<64*(m:Int)+64:=by omega
    obtain⟨q,hq⟩:∃q,j=64*m+q:=⟨j-64*m,by omega⟩
    have Hq:=ag hq;clear hq;have d3:IntKind.i64.wrap ((j:Int)-64*(m:Int))=(q:Int):=by rw[aY _ (by omega)];have:=Hq.o;omega
    have d4:q<T.size:=by rw[NV.o];have:=Hq.o;omega
    have c1:=R.cell j (by rw[CG,ry];omega);have f1:=R.free j (by rw[CG,ry];omega);go_wp2_with fail;refine qV 11 (by kernel_rfl) (by kernel_rfl) ?_;simp only[dE,dD,dA,dF]
    repeat(quiet_step (fail))
    refine dP ?_;intro nq;go_wp2;have hT:T[q].toNat=JY (bs key) (bs qH) j:=by rw[<-xZ T q d4,HT.o];unfold JY;have e:=Hq.o;rw[show j/64=m by omega,show j % 64=q by omega]
    have hx:bits .xor .u8 (((yN (bs key) (bs qH) (bs s) j).getD j 0:Nat):Int) (T[q].toNat:Int)=(((yN (bs key) (bs qH) (bs s) j).getD j 0^^^JY (bs key) (bs qH) j:Nat):Int):=by rw[hT];exact zoi _ _ (zaa _ _ _ (yE s) _ _) (zam _ _ _)
    simp only[aG]at hx;have R':wU ((wr.drewN nq).setCell ⟨w.heap.size,j,none⟩ (.int .u8 (bits .xor .u8 (((yN (bs key) (bs qH) (bs s) j)[j]?.getD 0:Nat):Int) (T[q].toNat:Int)))) w.heap.size 5 (yN (bs key) (bs qH) (bs s) (j+1)):=
     (R.drewN nq).store j (by rw[CG,ry];omega) hx
    have K':ak w ((wr.drewN nq).setCell ⟨w.heap.size,j,none⟩ (.int .u8 (bits .xor .u8 (((yN (bs key) (bs qH) (bs s) j)[j]?.getD 0:Nat):Int) (T[q].toNat:Int)))):=(K.drewN nq).setCell (p:=⟨w.heap.size,j,none⟩) (.inr (aS _)) _;clear hx hT;go_roundw
    case rel=>first|exact⟨j+1,by omega,by omega,by omega,by go_num,R',K'⟩|((repeat apply Exists.intro);exact⟨⟨j+1,by omega,by omega,by omega,by go_num,R',K'⟩,rfl⟩)
    simp[intOf];omega
   have d1:((j:Int)<s.size∧64*(m:Int)+64<=(j:Int))∨((s.size:Int)<=(j:Int)):=by omega
   clear yh;have R':wU wr w.heap.size 5 (yN (bs key) (bs qH) (bs s) (64*(m+1))):=by
    by_cases h:j=64*(m+1)
    ·rw[<-h];exact R
    have e:j=s.size:=by omega
    rw[O9 _ _ _ _ (by rw[ry];omega)];rw[O9 _ _ _ _ (by rw[ry];omega)]at R;exact R
   clear R;rcases d1 with⟨d1,d2⟩|d1
   all_goals
    go_wp2;go_roundw
    case rel=>first|exact⟨m+1,by omega,by go_num,R',K⟩|((repeat apply Exists.intro);exact⟨⟨m+1,by omega,by go_num,R',K⟩,rfl⟩)
    simp[intOf];omega
  have hd:(s.size:Int)<=64*(m:Int):=by omega
  have hm0:(64*(m:Int)==0)=false:=by simp;omega
  have YB:((m:Int)==0)=false:=by simp;omega
  rw[O9 _ _ _ _ (by rw[ry];omega)]at R;have NT:=yF (P:=prog) (cap:=cap) R dG eQ bK;rw[Eh,ry]at NT;go_wp2
  go_ret2
  exact⟨rfl,K⟩
def zlF(key qH:af)(Vh:key.size=32)(Rt:qH.size=12)(w:ax):
  ae 220 #[.string key,.string qH,.string ByteArray.empty] w (au (.tuple #[.string (uu []),.nilIface]) w):=by
 have Hk:=ag Vh;have Hn:=ag Rt;clear Vh Rt;have NT:=jJ (P:=prog) w 9 153 5 ByteArray.empty bK dG eQ;go_enter func220,ntmps220;go_wp2_with fail;obtain⟨cap,Ci⟩:=aj (grownCap w 0 0 5);rw[<-Ci];refine qW (λw1=>ak w w1∧wU w1 w.heap.size 5 (bs ByteArray.empty)) ⟨(ah _ _).bytesWorld _ _,wU.ofBytes w _ _⟩ ?_;clear NT Ci;intro w1 vF;obtain⟨K,R⟩:=vF;refine lX 2 ?_;rw[mX];go_wp2_with fail;refine(zhg key qH _ 1 (by rfl) Hk.o Hn.o (by omega) _).m ?_;rintro e w2 ⟨T,rfl,HT,K2⟩;have R2:=R.qm K2 (λx=>x);have K3:=K.qo K2;clear R K K2;go_wp2_with fail;refine lX 1 ?_;rw[mX];go_wp2_with fail;rw[mX];have NT:=yF (P:=prog) (cap:=cap) R2 dG eQ bK;have e0:(bs ByteArray.empty).length=0:=rfl;rw[e0]at NT;go_wp2
 go_ret2
 exact⟨rfl,K3⟩
def zky(key qH s:af)(Vh:key.size=32)(Rt:qH.size=12)(hs:s.size<=1000000)(w:ax):
  ae 220 #[.string key,.string qH,.string s] w λe w'=>e= .returned (.tuple #[.string (uu (xor (bs key) (bs qH) (bs s))),.nilIface])∧ak w w':=by
 by_cases h:0<s.size
 ·exact zq1 key qH s Vh Rt h hs w
 ·have hz:bs s= []:=dV (by rw[ry];omega);have e:s=ByteArray.empty:=xJ (by rw[hz];rfl);subst e;rw[hz];exact zlF key qH Vh Rt w
def Af(l:List Nat):Nat->List Nat
 | 0=> []
 | m+1=>Af l m++ [GH l (4*m)]
def zbX(l:List Nat)(i:Nat):Nat->Nat
 | 0=>0
 | k+1=>zbX l i k*256+l.getD (i+(3-k)) 0
def zlM(l:List Nat)(i:Nat):zbX l i 4=GH l i:=by simp only[zbX,GH,kz,iY,Nat.sub_zero,show 3-1=2 from rfl,show 3-2=1 from rfl];omega
def zq5(l:List Nat)(h:∀i,l.getD i 0<256)(i k:Nat):zbX l i k<256^k:=by
 induction k with
 | zero=>simp[zbX]
 | succ k ih=>
  have:=h (i+(3-k));rw[zbX,mF];omega
def zg2:(prog.info? 80).map (λi=>(i.zero,i.size,i.bytes))=some (some (.int .u32 0),1,4):=by kernel_rfl
def zc6(s:af)(hs:s.size<=1000000)(w:ax):
  ae 253 #[.string s] w λe w'=>∃v,e= .returned v∧w'.ownsRow w.heap.size 80 1 v (s.size/4) (cellsOf .u32 (Af (bs s) (s.size/4)))∧ak w w':=by
 obtain⟨i0,zM,Ba,D9,D6⟩:=iC zg2;have rE:=N7 s;have Hlt:=ag rE;clear rE;go_enter func253,ntmps253;go_wp2
 go_loopw [3,4] (λv i wr=>∃m:Nat,4*m<=s.size∧i= .int .i64 (4*(m:Int))∧ak w wr∧wr.ownsRow w.heap.size 80 1 v m (cellsOf .u32 (Af (bs s) m))) (λ_ i _=>s.size-(intOf i).toNat)
 case atStart=>exact⟨0,by omega,rfl,ah _ _,kG _ _ _ _⟩
 case round=>
  obtain⟨m,hm,rfl,K,ru⟩:=hrel;by_cases hgo:4*m+4<=s.size
  ·have d1:4*(m:Int)+4<=s.size:=by omega
   go_wp2_with fail;obtain⟨wo,hwo⟩:∃wo:ax,wo=wr:=⟨_,rfl⟩
   subst hwo
   go_loop [5,6] (λn k=>∃j:Nat,j<=4∧k= .int .i64 (3-(j:Int))∧n= .int .u32 (zbX (bs s) (4*m) j:Nat)) (λ_ k=>(intOf k+1).toNat)
   ·exact⟨0,by omega,rfl,rfl⟩
   obtain⟨j,hj,rfl,rfl⟩:=hrel;by_cases hj4:j<4
   ·have e1:(0:Int)<=3-(j:Int):=by omega
    obtain⟨q,hq⟩:=aj (4*m+(3-j));have Hq:=ag hq;have e2:4*(m:Int)+(3-(j:Int))=(q:Int):=by omega
    have e3:(q:Int)<s.size:=by omega
    clear hq;have hu:=zq5 (bs s) Hlt.o (4*m) j;have hu2:zbX (bs s) (4*m) j<256^3:=dH hu (mY (by omega) (by omega));have hu3:zbX (bs s) (4*m) j<16777216:=by omega
    clear hu hu2;have Qg:=λwx=>zbH (P:=prog) bK s .i64 (4*(m:Int)+(3-(j:Int))) q e2 (by omega) wx;have hb:=Hlt.o q;clear e2;go_wp2;clear Qg;go_round
    case rel=>exact⟨j+1,by omega,dB (Value.int .i64) (by omega),by refine dB (Value.int .u32) ?_;rw[zbX,<-Hq.o];simp only[aG]at hb⊢;omega⟩
    simp[intOf];omega
   obtain rfl:j=4:=by omega
   clear hj hj4;have hle:=zlM (bs s) (4*m);have e0:wo.ownsRow w.heap.size 80 1 u3 m (cellsOf .u32 (Af (bs s) m)):=ru;go_wp2_with (first|(at_builtin;refine ik _ rfl _ _ 323 rfl w.heap.size 80 i0 (.int .u32 0) 1 4 nX zM Ba D9 D6 rfl (by decide) u3 m _ rfl (e0.alloc _) ⟨wo.heap.size,0,none⟩ 1 1 _ rfl rfl (rJ _ _ _) (EL _ _) (by unfold maxLen;omega) (by omega) (by have:=K.size;simp;omega) ?_;intro v' w' yT xh _));have K2:ak w w':=(K.alloc _).grown xh (λb hb=> .inr (ru.lt b hb).1);have Dc:w'.ownsRow w.heap.size 80 1 v' (m+1) (cellsOf .u32 (Af (bs s) (m+1))):=by rw[Af,BV];exact yT
   clear yT xh e0 ru hle;go_roundw
   case rel=>first|exact⟨m+1,by omega,dB (Value.int .i64) (by omega),K2,Dc⟩|((repeat apply Exists.intro);exact⟨⟨m+1,by omega,dB (Value.int .i64) (by omega),K2,Dc⟩,rfl⟩)
   simp[intOf];omega
  have hmm:m=s.size/4:=by omega
  have d1:(s.size:Int)<4*(m:Int)+4:=by omega
  go_wp2;go_ret;exact⟨_,rfl,hmm▸ru,K⟩
def zmE(x n:Nat)(hx:x<4294967296)(hn:n<=32):(x*2^n|||x*2^n/4294967296) % 4294967296=rotl x n:=by
 have h1:x*2^n/4294967296=x/2^(32-n):=by
  have e:4294967296=2^n*2^(32-n):=by rw[<-Nat.pow_add,show n+(32-n)=32 by omega]
  rw[e,<-kQ,Nat.mul_div_cancel _ (Nat.two_pow_pos n)]
 have h2:x/2^(32-n)<2^32:=jg (jX _ _) hx;rw[h1,rotl,show(4294967296:Nat)=2^32 from rfl,Nat.or_mod_two_pow,jM h2]
def u64_or(a b:Nat)(ha:a<18446744073709551616)(hb:b<18446744073709551616):bits .or .u64 (a:Int) (b:Int)=((a|||b:Nat):Int):=by
 have h6:∀c:Nat,c<18446744073709551616->(BitVec.ofInt 64 (c:Int)).toNat=c:=λc hc=>by rw[lK,mD];exact jM (by omega)
 have hx:a|||b<2^64:=kE (by omega) (by omega);show IntKind.u64.wrap ((BitVec.ofInt 64 (a:Int)|||BitVec.ofInt 64 (b:Int)).toNat:Int)=_;rw[pG,h6 a ha,h6 b hb,nG];omega
def Uo(x:Int)(X n:Nat)(hx:X<4294967296)(he:x=X)(hn:n<=32)(i:Int)(hi:i=n)(w:ax):
  ae 304 #[.int .u32 x,.int .u64 i] w λe w'=>e= .returned (.int .u32 (rotl X n))∧w'=w:=by
 subst he hi;have rE:X*2^n<18446744073709551616:=by
  have h1:2^n<=2^32:=mY (by omega) hn
  calc X*2^n<=X*2^32:=Nat.mul_le_mul_left _ h1
   _<4294967296*2^32:=Nat.mul_lt_mul_of_pos_right hx (by omega)
   _=18446744073709551616:=by rfl
 go_enter func304,ntmps304;go_wp2;go_ret;refine⟨?_,rfl⟩;have e1:IntKind.u64.wrap ((X:Int)*2^n)=((X*2^n:Nat):Int):=by
  rw[nG]
  have:(X:Int)*2^n=((X*2^n:Nat):Int):=by simp
  rw[this];omega
 have e2:((X*2^n:Nat):Int)/4294967296=((X*2^n/4294967296:Nat):Int):=by omega
 refine zeC ?_;show bits BinOp.or IntKind.u64 (IntKind.u64.wrap ((X:Int)*2^n)) (IntKind.u64.wrap ((X:Int)*2^n)/4294967296) % 4294967296=_;rw[e1,e2,u64_or _ _ rE (by omega),<-zmE X n hx hn];omega
def half(k:Nat)(l:List Nat)(a b c d:Nat):List Nat:=
 BG (yA (BG (yA l a b) d a (16-8*k)) c d) b c (12-5*k)
def zrK(g cap:Nat)(a b c d:Nat)(l:List Nat)(w:ax)(ha:a<16)(hb:b<16)(hc:c<16)(hd:d<16)(R:uH w g 80 .u32 l)(L:Cb l):
  ae 254 #[.slice (some ⟨g,0,none⟩) 16 cap,.agg #[.int .i64 a,.int .i64 b,.int .i64 c,.int .i64 d]] w λe w'=>e= .returned (.tuple #[])∧uH w' g 80 .u32 (qr l a b c d)∧Keep (qJ g) w w':=by
 have ja:(a:Int)<16:=by omega
 have jb:(b:Int)<16:=by omega
 have jc:(c:Int)<16:=by omega
 have jd:(d:Int)<16:=by omega
 have hgl:=R.lt;go_enter func254,ntmps254;go_wp2_with fail;refine qW (λw1=>uH w1 g 80 .u32 l∧w1.heap[w.heap.size]? =some (.cells #[.int .i64 a,.int .i64 b,.int .i64 c,.int .i64 d] 325 (0,0))∧Keep (qJ g) w w1) ⟨R.qm ((ah qw w).alloc _) (λx=>x),aQ w _,(ah _ _).alloc _⟩ ?_;clear R;intro w1 vF;obtain⟨R,A4,K⟩:=vF
 go_loopw [10] (λi wr=>∃k:Nat,k<=2∧i= .int .i64 k∧uH wr g 80 .u32 (times (λk l=>half k l a b c d) k l)∧wr.heap[w.heap.size]? =some (.cells #[.int .i64 a,.int .i64 b,.int .i64 c,.int .i64 d] 325 (0,0))∧Keep (qJ g) w wr) (λi _=>2-(intOf i).toNat)
 case atStart=>exact⟨0,by omega,rfl,R,A4,K⟩
 case round=>
  clear R A4 K w1;obtain⟨k,hk,rfl,R,A4,K⟩:=hrel;have L0:Cb (times (λk l=>half k l a b c d) k l):=Cb.times (λk l h=>((((h.add _ _).rot _ _ _).add _ _).rot _ _ _)) k L;clear L;rcases(show k=0∨k=1∨k=2 by omega)with rfl|rfl|rfl
  ·obtain⟨l0,Va⟩:=aj (times (λk l=>half k l a b c d) 0 l);rw[<-Va]at R L0;have Hl0:=ag Va;clear Va;have L:=L0;clear L0;have p0:=aO wr w.heap.size 0 _ _ _ A4;have p1:=aO wr w.heap.size 1 _ _ _ A4;have p2:=aO wr w.heap.size 2 _ _ _ A4;have p3:=aO wr w.heap.size 3 _ _ _ A4;simp only[aF,aI,aH]at p0 p1 p2 p3;go_wp2_with fail
   go_quiet (fail)
   go_wp2_with fail;clear p0 p1 p2 p3;refine qW (λw1=>uH w1 g 80 .u32 l0∧w1.heap[w.heap.size]? =some (.cells #[.int .i64 a,.int .i64 b,.int .i64 c,.int .i64 d] 325 (0,0))∧Keep (qJ g) w w1) ⟨R.drewN nq,A4,K.drewN nq⟩ ?_;clear R A4 K nq wr;intro w1 vF;obtain⟨R,A4,K⟩:=vF;have c1:=R.cell a (by rw[L.len];omega);have c2:=R.cell b (by rw[L.len];omega);have f1:=R.free a (by rw[L.len];omega);refine qV 12 (by kernel_rfl) (by kernel_rfl) ?_;simp only[dE,dD,dA,dF]
   repeat(quiet_step (fail))
   refine dP ?_;intro nq;go_wp2_with fail;refine qW (λw1=>uH w1 g 80 .u32 (yA l0 a b)∧w1.heap[w.heap.size]? =some (.cells #[.int .i64 a,.int .i64 b,.int .i64 c,.int .i64 d] 325 (0,0))∧Keep (qJ g) w w1) ⟨(R.drewN nq).store a (FU a b),(gK _ _ _ _ (by show w.heap.size≠g;omega)).t A4,(K.drewN nq).tK _ _⟩ ?_;clear R K A4 c1 c2 f1;intro w1 vF;obtain⟨R,A4,K⟩:=vF;have L:=L.add a b;have c1:=R.cell d (by rw[L.len];omega);have c2:=R.cell a (by rw[L.len];omega);have f1:=R.free d (by rw[L.len];omega);refine qV 18 (by kernel_rfl) (by kernel_rfl) ?_;simp only[dE,dD,dA,dF]
   repeat(quiet_step ((go_at_call 304;exact kN (Uo _ _ (16-8*0) (MC _ _ (L.lt d) (L.lt a)) (FQ L d a) (by omega) _ (by decide) _))))
   refine dP ?_;intro nq;go_wp2_with fail;refine qW (λw1=>uH w1 g 80 .u32 (BG (yA l0 a b) d a (16-8*0))∧w1.heap[w.heap.size]? =some (.cells #[.int .i64 a,.int .i64 b,.int .i64 c,.int .i64 d] 325 (0,0))∧Keep (qJ g) w w1) ⟨(R.drewN nq).store d rfl,(gK _ _ _ _ (by show w.heap.size≠g;omega)).t A4,(K.drewN nq).tK _ _⟩ ?_;clear R K A4 c1 c2 f1;intro w1 vF;obtain⟨R,A4,K⟩:=vF;have L:=L.rot d a (16-8*0);have c1:=R.cell c (by rw[L.len];omega);have c2:=R.cell d (by rw[L.len];omega);have f1:=R.free c (by rw[L.len];omega);refine qV 12 (by kernel_rfl) (by kernel_rfl) ?_;simp only[dE,dD,dA,dF]
   repeat(quiet_step (fail))
   refine dP ?_;intro nq;go_wp2_with fail;refine qW (λw1=>uH w1 g 80 .u32 (yA (BG (yA l0 a b) d a (16-8*0)) c d)∧w1.heap[w.heap.size]? =some (.cells #[.int .i64 a,.int .i64 b,.int .i64 c,.int .i64 d] 325 (0,0))∧Keep (qJ g) w w1) ⟨(R.drewN nq).store c (FU c d),(gK _ _ _ _ (by show w.heap.size≠g;omega)).t A4,(K.drewN nq).tK _ _⟩ ?_;clear R K A4 c1 c2 f1;intro w1 vF;obtain⟨R,A4,K⟩:=vF;have L:=L.add c d;have c1:=R.cell b (by rw[L.len];omega);have c2:=R.cell c (by rw[L.len];omega);have f1:=R.free b (by rw[L.len];omega);refine qV 18 (by kernel_rfl) (by kernel_rfl) ?_;simp only[dE,dD,dA,dF]
   repeat(quiet_step ((go_at_call 304;exact kN (Uo _ _ (12-5*0) (MC _ _ (L.lt b) (L.lt c)) (FQ L b c) (by omega) _ (by decide) _))))
   refine dP ?_;intro nq;go_wp2_with fail;go_roundw
   case rel=>first|exact⟨0+1,by omega,by go_num,(by rw[uA,<-Hl0.o];exact(R.drewN nq).store b rfl),(gK _ _ _ _ (by show w.heap.size≠g;omega)).t A4,(K.drewN nq).tK _ _⟩|((repeat apply Exists.intro);exact⟨⟨0+1,by omega,by go_num,(by rw[uA,<-Hl0.o];exact(R.drewN nq).store b rfl),(gK _ _ _ _ (by show w.heap.size≠g;omega)).t A4,(K.drewN nq).tK _ _⟩,rfl⟩)
   simp[intOf]
  ·obtain⟨l0,Va⟩:=aj (times (λk l=>half k l a b c d) 1 l);rw[<-Va]at R L0;have Hl0:=ag Va;clear Va;have L:=L0;clear L0;have p0:=aO wr w.heap.size 0 _ _ _ A4;have p1:=aO wr w.heap.size 1 _ _ _ A4;have p2:=aO wr w.heap.size 2 _ _ _ A4;have p3:=aO wr w.heap.size 3 _ _ _ A4;simp only[aF,aI,aH]at p0 p1 p2 p3;go_wp2_with fail
   go_quiet (fail)
   go_wp2_with fail;clear p0 p1 p2 p3;refine qW (λw1=>uH w1 g 80 .u32 l0∧w1.heap[w.heap.size]? =some (.cells #[.int .i64 a,.int .i64 b,.int .i64 c,.int .i64 d] 325 (0,0))∧Keep (qJ g) w w1) ⟨R.drewN nq,A4,K.drewN nq⟩ ?_;clear R A4 K nq wr;intro w1 vF;obtain⟨R,A4,K⟩:=vF;have c1:=R.cell a (by rw[L.len];omega);have c2:=R.cell b (by rw[L.len];omega);have f1:=R.free a (by rw[L.len];omega);refine qV 12 (by kernel_rfl) (by kernel_rfl) ?_;simp only[dE,dD,dA,dF]
   repeat(quiet_step (fail))
   refine dP ?_;intro nq;go_wp2_with fail;refine qW (λw1=>uH w1 g 80 .u32 (yA l0 a b)∧w1.heap[w.heap.size]? =some (.cells #[.int .i64 a,.int .i64 b,.int .i64 c,.int .i64 d] 325 (0,0))∧Keep (qJ g) w w1) ⟨(R.drewN nq).store a (FU a b),(gK _ _ _ _ (by show w.heap.size≠g;omega)).t A4,(K.drewN nq).tK _ _⟩ ?_;clear R K A4 c1 c2 f1;intro w1 vF;obtain⟨R,A4,K⟩:=vF;have L:=L.add a b;have c1:=R.cell d (by rw[L.len];omega);have c2:=R.cell a (by rw[L.len];omega);have f1:=R.free d (by rw[L.len];omega);refine qV 18 (by kernel_rfl) (by kernel_rfl) ?_;simp only[dE,dD,dA,dF]
   repeat(quiet_step ((go_at_call 304;exact kN (Uo _ _ (16-8*1) (MC _ _ (L.lt d) (L.lt a)) (FQ L d a) (by omega) _ (by decide) _))))
   refine dP ?_;intro nq;go_wp2_with fail;refine qW (λw1=>uH w1 g 80 .u32 (BG (yA l0 a b) d a (16-8*1))∧w1.heap[w.heap.size]? =some (.cells #[.int .i64 a,.int .i64 b,.int .i64 c,.int .i64 d] 325 (0,0))∧Keep (qJ g) w w1) ⟨(R.drewN nq).store d rfl,(gK _ _ _ _ (by show w.heap.size≠g;omega)).t A4,(K.drewN nq).tK _ _⟩ ?_;clear R K A4 c1 c2 f1;intro w1 vF;obtain⟨R,A4,K⟩:=vF;have L:=L.rot d a (16-8*1);have c1:=R.cell c (by rw[L.len];omega);have c2:=R.cell d (by rw[L.len];omega);have f1:=R.free c (by rw[L.len];omega);refine qV 12 (by kernel_rfl) (by kernel_rfl) ?_;simp only[dE,dD,dA,dF]
   repeat(quiet_step (fail))
   refine dP ?_;intro nq;go_wp2_with fail;refine qW (λw1=>uH w1 g 80 .u32 (yA (BG (yA l0 a b) d a (16-8*1)) c d)∧w1.heap[w.heap.size]? =some (.cells #[.int .i64 a,.int .i64 b,.int .i64 c,.int .i64 d] 325 (0,0))∧Keep (qJ g) w w1) ⟨(R.drewN nq).store c (FU c d),(gK _ _ _ _ (by show w.heap.size≠g;omega)).t A4,(K.drewN nq).tK _ _⟩ ?_;clear R K A4 c1 c2 f1;intro w1 vF;obtain⟨R,A4,K⟩:=vF;have L:=L.add c d;have c1:=R.cell b (by rw[L.len];omega);have c2:=R.cell c (by rw[L.len];omega);have f1:=R.free b (by rw[L.len];omega);refine qV 18 (by kernel_rfl) (by kernel_rfl) ?_;simp only[dE,dD,dA,dF]
   repeat(quiet_step ((go_at_call 304;exact kN (Uo _ _ (12-5*1) (MC _ _ (L.lt b) (L.lt c)) (FQ L b c) (by omega) _ (by decide) _))))
   refine dP ?_;intro nq;go_wp2_with fail;go_roundw
   case rel=>first|exact⟨1+1,by omega,by go_num,(by rw[uA,<-Hl0.o];exact(R.drewN nq).store b rfl),(gK _ _ _ _ (by show w.heap.size≠g;omega)).t A4,(K.drewN nq).tK _ _⟩|((repeat apply Exists.intro);exact⟨⟨1+1,by omega,by go_num,(by rw[uA,<-Hl0.o];exact(R.drewN nq).store b rfl),(gK _ _ _ _ (by show w.heap.size≠g;omega)).t A4,(K.drewN nq).tK _ _⟩,rfl⟩)
   simp[intOf]
  go_wp2;go_end0;exact⟨rfl,R,K⟩
def sig:List Nat:= [101,120,112,97,110,100,32,51,50,45,98,121,116,101,32,107]
def zmH(a b:List Nat)(i:Nat)(h:i+4<=a.length):GH (a++b) i=GH a i:=by
 have e:∀j,j<a.length->(a++b).getD j 0=a.getD j 0:=λj hj=>by rw[aG,aG,dL hj]
 unfold GH;rw[e i (by omega),e (i+1) (by omega),e (i+2) (by omega),e (i+3) (by omega)]
def zjZ(a b:List Nat)(i:Nat):GH (a++b) (a.length+i)=GH b i:=by
 have e:∀j,(a++b).getD (a.length+j) 0=b.getD j 0:=λj=>by rw[aG,aG,bT (by omega),Nat.add_sub_cancel_left]
 unfold GH;rw[e i,show a.length+i+1=a.length+(i+1)by omega,show a.length+i+2=a.length+(i+2)by omega,show a.length+i+3=a.length+(i+3)by omega,e,e,e]
def zmm(key qH:List Nat)(n:Nat):Af (sig++key) 12++ [n % 4294967296]++Af qH 3=Go.Proofs.YtbcmmbeadgiiiaaGreatDoor.start key n qH:=by have l:∀i,i+4<=16->GH (sig++key) i=GH sig i:=λi h=>zmH sig key i h;have r:∀i,GH (sig++key) (16+i)=GH key i:=λi=>zjZ sig key i;simp only[Af,fZ,fV];rw[l (4*0) (by omega),l (4*1) (by omega),l (4*2) (by omega),l (4*3) (by omega)];rw[show 4*4=16+4*0 from rfl,show 4*5=16+4*1 from rfl,show 4*6=16+4*2 from rfl,show 4*7=16+4*3 from rfl,show 4*8=16+4*4 from rfl,show 4*9=16+4*5 from rfl,show 4*10=16+4*6 from rfl,show 4*11=16+4*7 from rfl];simp only[r];rfl
def zvm:bs (ByteArray.mk #[101,120,112,97,110,100,32,51,50,45,98,121,116,101,32,107])=sig:=rfl
def VS(key qH:List Nat)(n:Nat):(Go.Proofs.YtbcmmbeadgiiiaaGreatDoor.start key n qH).length=16:=by unfold Go.Proofs.YtbcmmbeadgiiiaaGreatDoor.start;rw[za8,fC,Wp]
def zx3(w:ax)(base g cap:Nat)(key qH:af)(n:Nat)(h1:n<4294967296)
  (h:w.ownsRow base E 1 (.slice (some ⟨g,0,none⟩) (13+3) cap) (13+3) (cellsOf .u32 (Af (bs ((ByteArray.mk #[101,120,112,97,110,100,32,51,50,45,98,121,116,101,32,107])++key)) 12++ [n])++cellsOf .u32 (Af (bs qH) 3))):
  uH w g E .u32 (Go.Proofs.YtbcmmbeadgiiiaaGreatDoor.start (bs key) n (bs qH)):=by
 have e:=zmm (bs key) (bs qH) n;rw[jM h1]at e;rw[<-BV,tX,zvm,e]at h;exact uH.zfZ (l:=Go.Proofs.YtbcmmbeadgiiiaaGreatDoor.start (bs key) n (bs qH)) (by rw[VS];exact h)
def rnd(k:Nat)(l:List Nat):List Nat:=if k % 2=1 then times dia 4 l else times col 4 l
def _root_.Go.Proofs.YtbcmmbeadgiiiaaGreatDoor.Cb.rnd(h:Cb l)(k:Nat):Cb (rnd k l):=by
 unfold Go.Proofs.YtbcmmbeadgiiiaaGreatDoor.rnd;split
 ·exact Cb.times (λi _ h=>h.dia i) 4 h
 exact Cb.times (λi _ h=>h.col i) 4 h
def zps(j:Nat)(l:List Nat):rnd (2*j) l=times col 4 l:=by unfold rnd;rw[aV (by omega)]
def zrz(j:Nat)(l:List Nat):rnd (2*j+1) l=times dia 4 l:=by unfold rnd;rw[bu (by omega)]
def zry(l:List Nat)(j:Nat):times rnd (2*j) l=times dbl j l:=by
 induction j with
 | zero=>rw[Nat.mul_zero,times,times]
 | succ j ih=>
  have e1:times rnd (2*j+1+1) l=rnd (2*j+1) (rnd (2*j) (times rnd (2*j) l)):=by rw[uA,uA]
  have e2:times dbl (j+1) l=dbl j (times dbl j l):=by rw[uA]
  rw[show 2*(j+1)=2*j+1+1 by omega,e1,e2,ih,zps,zrz,dbl]
def zrA(l:List Nat):times rnd 20 l=times dbl 10 l:=zry l 10
def GK(x:Nat):Nat->List Nat
 | 0=> []
 | j+1=>GK x j++ [x/256^j % 256]
def ziq(x j:Nat):(GK x j).length=j:=by
 induction j with
 | zero=>rfl
 | succ j ih=>rw[GK,aN,ih];rfl
def zfr(x:Nat):GK x 4=TM x:=by simp only[GK,TM,fZ,fV,pU,Nat.div_one,show 256^1=256 from rfl,show 256^2=65536 from rfl,show 256^3=16777216 from rfl]
def zon(g cap:Nat)(a b c d:Nat)(x1 x2 x3 x4:Int)(l:List Nat)(w:ax)(e1:x1=a)(e2:x2=b)(e3:x3=c)(e4:x4=d)(ha:a<16)(hb:b<16)(hc:c<16)(hd:d<16)(R:uH w g 80 .u32 l)(L:Cb l):
  ae 254 #[.slice (some ⟨g,0,none⟩) 16 cap,.agg #[.int .i64 x1,.int .i64 x2,.int .i64 x3,.int .i64 x4]] w λe w'=>e= .returned (.tuple #[])∧uH w' g 80 .u32 (qr l a b c d)∧Keep (qJ g) w w':=by
 subst e1 e2 e3 e4;exact zrK g cap a b c d l w ha hb hc hd R L
def zfa(key qH:af)(n:Nat)(Vh:Hid (key.size=32))(Rt:Hid (qH.size=12))(h1:n<4294967296)(w:ax):
  ae 195 #[.string key,.int .i64 n,.string qH] w λe w'=>e= .returned (.tuple #[.string (uu (block (bs key) n (bs qH))),.int .i64 0])∧ak w w':=by
 obtain⟨i0,zM,Ba,D9,D6⟩:=iC zg2;have b1:((key.size:Int) !=32)=false:=by rw[Vh.o];rfl
 have b2:((qH.size:Int) !=12)=false:=by rw[Rt.o];rfl
 go_enter func195,ntmps195;go_wp2_with fail;refine(MI (n:Int) 0 4294967295 (by omega) (by omega) w).m ?_;rintro e w2 ⟨rfl,rfl⟩;have hc:¬(9223372036854775807<16+key.size):=by rw[Vh.o];omega
 go_wp2_with fail;clear hc;refine(zc6 _ (by show(_++key).size<=_;rw[dN,Vh.o];decide) w2).m ?_;rintro e w3 ⟨v3,rfl,Zt,K3⟩;have e12:((ByteArray.mk #[101,120,112,97,110,100,32,51,50,45,98,121,116,101,32,107])++key).size/4=12:=by rw[dN,Vh.o];rfl
 rw[e12]at Zt;clear e12;go_wp2_with (first|(at_builtin;refine ik _ rfl _ _ 323 rfl w2.heap.size 80 i0 (.int .u32 0) 1 4 nX zM Ba D9 D6 rfl (by decide) v3 12 _ rfl (Zt.alloc _) ⟨w3.heap.size,0,none⟩ 1 1 _ rfl rfl (rJ _ _ _) (EL _ _) (by unfold maxLen;omega) (by omega) (by have:=K3.size;simp;omega) ?_;intro v4 w4 Ou xh zb8;clear zb8));have e13:cellsOf .u32 (Af (bs ((ByteArray.mk #[101,120,112,97,110,100,32,51,50,45,98,121,116,101,32,107])++key)) 12)++ [.int .u32 (n:Int)]=cellsOf .u32 (Af (bs ((ByteArray.mk #[101,120,112,97,110,100,32,51,50,45,98,121,116,101,32,107])++key)) 12++ [n]):=by rw[BV];rfl
 rw[e13]at Ou;clear e13;have K4:ak w2 w4:=(K3.alloc _).grown xh (λb hb=> .inr (Zt.lt b hb).1);have hv4:=Ou.lt;clear xh Zt K3;refine(zc6 qH (by rw[Rt.o];omega) w4).m ?_;rintro e w5 ⟨v5,rfl,xq,K5⟩;have e3:qH.size/4=3:=by rw[Rt.o]
 rw[e3]at xq;clear e3;obtain⟨g5,YF,rfl,hg5⟩:=Pn xq (by omega);have R5:=uH.zfZ (l:=Af (bs qH) 3) (xq:_);have znJ:=K5.ownsRow Ou (λ_ _ h=>h);have K5':=K4.t K5 (λ_ _ h=>h);clear Ou xq K4 K5;have hb5:=K5'.size;go_wp2_with (first|(at_builtin;refine ik _ rfl _ _ 323 rfl w2.heap.size 80 i0 (.int .u32 0) 1 4 nX zM Ba D9 D6 rfl (by decide) v4 13 _ rfl znJ ⟨g5,0,none⟩ 3 YF (cellsOf .u32 (Af (bs qH) 3)) rfl rfl (λj u hj=>R5.cells j u hj) (Yo _ _) (by unfold maxLen;omega) (by omega) (by omega) ?_;intro v6 w6 EH zoz zb8;clear zb8;obtain⟨g6,ziP,rfl,hg6⟩:=Pn EH (by omega);have R6:=zx3 w6 _ g6 ziP key qH n h1 EH;have K6:ak w2 w6:=K5'.grown zoz (λb hb=> .inr (znJ.lt b hb).1);clear zoz znJ R5 K5' EH)|(at_builtin;refine ik _ rfl _ _ 323 rfl w6.heap.size 80 i0 (.int .u32 0) 1 4 nX zM Ba D9 D6 rfl (by decide) (.slice (some ⟨w6.heap.size,0,none⟩) 0 0) 0 [] rfl (World.ownsRow_made w6 #[] 0 (aS _) (by decide) rfl) ⟨g6,0,none⟩ 16 ziP (cellsOf .u32 (Go.Proofs.YtbcmmbeadgiiiaaGreatDoor.start (bs key) n (bs qH))) rfl (by rw[PR,VS]) (λj u hj=>(R6.qm ((ah qw w6).alloc _) (λx=>x)).cells j u hj) (Yo _ _) (by unfold maxLen;omega) (by omega) (by simp) ?_;intro v7 w7 Dx zi6 zb8;clear zb8;obtain⟨g7,zxc,rfl,hg7⟩:=Pn Dx (by omega)));have R7:uH w7 g7 80 .u32 (Go.Proofs.YtbcmmbeadgiiiaaGreatDoor.start (bs key) n (bs qH)):=uH.zfZ (l:=Go.Proofs.YtbcmmbeadgiiiaaGreatDoor.start (bs key) n (bs qH)) (by rw[VS];exact Dx);have LS:Cb (Go.Proofs.YtbcmmbeadgiiiaaGreatDoor.start (bs key) n (bs qH)):=Cb.zkD _ (N7 key) _ _ (N7 qH);have zzI:=R6.lt;have Bc:g6≠g7:=by omega
 refine qW (λw=>uH w g7 80 .u32 (times rnd 0 (Go.Proofs.YtbcmmbeadgiiiaaGreatDoor.start (bs key) n (bs qH)))∧uH w g6 80 .u32 (Go.Proofs.YtbcmmbeadgiiiaaGreatDoor.start (bs key) n (bs qH))∧ak w2 w) ⟨R7,R6.qm (((ah (qJ w6.heap.size) w6).alloc _).grown zi6 (λb hb=> .inr (by cases hb;exact aS _))) (λe=>by simp only[qJ]at e;omega),(K6.alloc _).grown zi6 (λb hb=> .inr (by cases hb;exact K6.size))⟩ ?_;have hb6:=K6.size;clear R7 R6 K6 zi6 Dx hv4 hb5 hg5 zzI;generalize Hs:Go.Proofs.YtbcmmbeadgiiiaaGreatDoor.start (bs key) n (bs qH)=s at*;have Hs':=ag Hs;clear Hs;intro w1 vF
 go_loopw [43] (λi wr=>∃k:Nat,k<=20∧i= .int .i64 k∧uH wr g7 80 .u32 (times rnd k s)∧uH wr g6 80 .u32 s∧ak w2 wr) (λi _=>20-(intOf i).toNat)
 case atStart=>exact⟨0,by omega,rfl,vF⟩
 case round=>
  clear vF w1;obtain⟨k,hk,rfl,R7,R6,K⟩:=hrel;by_cases rE:k<20
  ·have j1:(k:Int)<20:=by omega
   have LT:Cb (times rnd k s):=Cb.times (λi _ h=>h.rnd i) k LS;obtain⟨t0,ht0⟩:=aj (times rnd k s);rw[<-ht0]at R7 LT;have Ht0:=ag ht0;clear ht0;go_wp2_with fail;rcases(show k % 2=1∨k % 2=0 by omega)with zfF|zfF
   ·have p1:((k:Int) % 2==1)=true:=by simp;omega
    refine qW (λwr=>uH wr g7 80 .u32 t0∧uH wr g6 80 .u32 s∧ak w2 wr) ⟨R7,R6,K⟩ ?_;clear R7 R6 K wr;intro w1 vF
    go_loopw [46] (λi wr=>∃j:Nat,j<=4∧i= .int .i64 j∧uH wr g7 80 .u32 (times dia j t0)∧uH wr g6 80 .u32 s∧ak w2 wr) (λi _=>4-(intOf i).toNat)
    ·exact⟨0,by omega,rfl,vF⟩
    clear vF w1;obtain⟨j,hj,rfl,R7,R6,K⟩:=hrel;have LJ:Cb (times dia j t0):=Cb.times (λi _ h=>h.dia i) j LT;by_cases rE:j<4
    ·have j1:(j:Int)<4:=by omega
     go_wp2_with fail;refine(zon g7 zxc j (4+(j+1) % 4) (8+(j+2) % 4) (12+(j+3) % 4) _ _ _ _ _ _ rfl (by omega) (by omega) (by omega) (by omega) (by omega) (by omega) (by omega) (R7.qm ((ah qw wr).alloc _) (λx=>x)) LJ).m ?_;rintro e w8 ⟨rfl,R7',K'⟩;have R6':=(R6.qm ((ah qw wr).alloc _) (λx=>x)).qm K' (λe=>Bc e);have K2:=(K.alloc _).t K' (λi hi e=>by simp only[qJ]at e;omega);clear R7 R6 K K';go_wp2;go_roundw
     case rel=>first|exact⟨j+1,by omega,by go_num,R7',R6',K2⟩|((repeat apply Exists.intro);exact⟨⟨j+1,by omega,by go_num,R7',R6',K2⟩,rfl⟩)
     simp[intOf];omega
    obtain rfl:j=4:=by omega
    clear rE hj;go_wp2;have R7':uH wr g7 80 .u32 (times rnd (k+1) s):=by rw[uA,<-Ht0.o,rnd,bu zfF];exact R7
    go_roundw
    case rel=>first|exact⟨k+1,by omega,by go_num,R7',R6,K⟩|((repeat apply Exists.intro);exact⟨⟨k+1,by omega,by go_num,R7',R6,K⟩,rfl⟩)
    simp[intOf];omega
   have p1:((k:Int) % 2==1)=false:=by simp;omega
   refine qW (λwr=>uH wr g7 80 .u32 t0∧uH wr g6 80 .u32 s∧ak w2 wr) ⟨R7,R6,K⟩ ?_;clear R7 R6 K wr;intro w1 vF
   go_loopw [46] (λi wr=>∃j:Nat,j<=4∧i= .int .i64 j∧uH wr g7 80 .u32 (times col j t0)∧uH wr g6 80 .u32 s∧ak w2 wr) (λi _=>4-(intOf i).toNat)
   ·exact⟨0,by omega,rfl,vF⟩
   clear vF w1;obtain⟨j,hj,rfl,R7,R6,K⟩:=hrel;have LJ:Cb (times col j t0):=Cb.times (λi _ h=>h.col i) j LT;by_cases rE:j<4
   ·have j1:(j:Int)<4:=by omega
    go_wp2_with fail;refine(zon g7 zxc j (4+j) (8+j) (12+j) _ _ _ _ _ _ rfl (by omega) (by omega) (by omega) (by omega) (by omega) (by omega) (by omega) (R7.qm ((ah qw wr).alloc _) (λx=>x)) LJ).m ?_;rintro e w8 ⟨rfl,R7',K'⟩;have R6':=(R6.qm ((ah qw wr).alloc _) (λx=>x)).qm K' (λe=>Bc e);have K2:=(K.alloc _).t K' (λi hi e=>by simp only[qJ]at e;omega);clear R7 R6 K K';go_wp2;go_roundw
    case rel=>first|exact⟨j+1,by omega,by go_num,R7',R6',K2⟩|((repeat apply Exists.intro);exact⟨⟨j+1,by omega,by go_num,R7',R6',K2⟩,rfl⟩)
    simp[intOf];omega
   obtain rfl:j=4:=by omega
   clear rE hj;go_wp2;have R7':uH wr g7 80 .u32 (times rnd (k+1) s):=by rw[uA,<-Ht0.o,rnd,aV (by omega)];exact R7
   go_roundw
   case rel=>first|exact⟨k+1,by omega,by go_num,R7',R6,K⟩|((repeat apply Exists.intro);exact⟨⟨k+1,by omega,by go_num,R7',R6,K⟩,rfl⟩)
   simp[intOf];omega
  obtain rfl:k=20:=by omega
  clear rE hk;rw[zrA]at R7;have LT:Cb (times dbl 10 s):=Cb.times (λi _ h=>h.dbl i) 10 LS;obtain⟨t,ht⟩:=aj (times dbl 10 s);rw[<-ht]at R7 LT;have Ht:=ag ht;clear ht;go_wp2_with fail;refine qW (λwr=>uH wr g7 80 .u32 t∧uH wr g6 80 .u32 s∧ak w2 wr) ⟨R7,R6,K⟩ ?_;clear R7 R6 K wr;intro w1 vF
  go_loopw [13,81] (λo i wr=>∃k:Nat,k<=16∧i= .int .i64 k∧o= .string (uu (C9 t s k))∧uH wr g7 80 .u32 t∧uH wr g6 80 .u32 s∧ak w2 wr) (λ_ i _=>16-(intOf i).toNat)
  ·exact⟨0,by omega,rfl,rfl,vF⟩
  clear vF w1;obtain⟨k,hk,rfl,rfl,R7,R6,K⟩:=hrel;by_cases rE:k<16
  ·have j1:(k:Int)<16:=by omega
   have c1:=R7.cell k (by rw[LT.len];omega);have c2:=R6.cell k (by rw[LS.len];omega);go_wp2_with fail
   go_quiet (fail)
   go_wp2_with fail;clear c1 c2;obtain⟨X,hX⟩:=aj ((t.getD k 0+s.getD k 0) % 4294967296);have ex:((t[k]?.getD 0:Int)+(s[k]?.getD 0:Int)) % 4294967296=(X:Int):=by rw[hX];simp only[aG];omega
   have Rx:X<4294967296:=by rw[hX];exact jh _ (by omega)
   have HX:=ag hX;clear hX;simp only[ex];clear ex;have hlen:(C9 t s k).length=4*k:=VZ t s k;have yM:=ag hlen;clear hlen;refine qW (λwr=>uH wr g7 80 .u32 t∧uH wr g6 80 .u32 s∧ak w2 wr) ⟨R7,R6,K.drewN nq⟩ ?_;clear R7 R6 K wr;intro w1 vF
   go_loopw [13,15,93] (λo x i wr=>∃j:Nat,j<=4∧i= .int .i64 j∧x= .int .u32 (X/256^j:Nat)∧o= .string (uu (C9 t s k++GK X j))∧uH wr g7 80 .u32 t∧uH wr g6 80 .u32 s∧ak w2 wr) (λ_ _ i _=>4-(intOf i).toNat)
   ·exact⟨0,by omega,rfl,by rw[pU,Nat.div_one],by rw[GK,dS],vF⟩
   clear vF w1;obtain⟨j,hj,rfl,rfl,rfl,R7,R6,K⟩:=hrel;by_cases rE:j<4
   ·have j1:(j:Int)<4:=by omega
    obtain⟨x,hx⟩:=aj (X/256^j);rw[<-hx];have NT:=ED (P:=prog) wr dG eQ bK ((x:Int) % 256) (x % 256) (by omega);have uF:¬(9223372036854775807<(uu (C9 t s k++GK X j)).size+(uu [x % 256]).size):=by rw[rH,rH,aN,yM.o,ziq];simp;omega
    have hx4:x<4294967296:=jg (by rw[hx];exact jX _ _) Rx;have Hx:=ag hx;clear hx;go_wp2_with fail;refine⟨⟨j+1,by omega,by go_num,?_,?_,R7.qm ((ah qw wr).alloc _) (λx=>x),R6.qm ((ah qw wr).alloc _) (λx=>x),K.alloc _⟩,by simp[intOf];omega⟩
    ·refine dB (Value.int .u32) ?_;rw[mF,<-kQ,<-Hx.o];omega
    rw[GK,<-Hx.o,<-bC,zje]
   obtain rfl:j=4:=by omega
   clear rE hj;go_wp2_with fail;refine⟨⟨k+1,by omega,by go_num,?_,R7,R6,K⟩,by simp[intOf];omega⟩;rw[Iu,zfr,<-HX.o]
  obtain rfl:k=16:=by omega
  clear rE hk;go_wp2_with fail
  go_ret2
  have tN:C9 t s 16=block (bs key) n (bs qH):=by rw[Ht.o,<-Hs'.o];rfl
  rw[tN];exact⟨rfl,K⟩
def XQ(key qH:af)(i:Int)(n:Nat)(hi:i=n)(hk:key.size=32)(hn:qH.size=12)(h1:n<4294967296)(w:ax):
  ae 195 #[.string key,.int .i64 i,.string qH] w λe w'=>e= .returned (.tuple #[.string (uu (block (bs key) n (bs qH))),.int .i64 0])∧ak w w':=by
 subst hi;exact zfa key qH n hk hn h1 w
def blocks(key qH:List Nat):Nat->List Nat
 | 0=> []
 | m+1=>blocks key qH m++block key (1+m) qH
def NG(key qH:List Nat)(m:Nat):(blocks key qH m).length=64*m:=by
 induction m with
 | zero=>rfl
 | succ m ih=>rw[blocks,aN,ih,WI];omega
def zm1(key qH:List Nat)(m i:Nat)(h:i<64*m):(blocks key qH m).getD i 0=JY key qH i:=by
 induction m with
 | zero=>omega
 | succ m ih=>
  rw[blocks,aG];by_cases hi:i<64*m
  ·rw[dL (by rw[NG];exact hi),<-aG,ih hi]
  rw[bT (by rw[NG];omega),NG,<-aG,JY,show i/64=m by omega,show i % 64=i-64*m by omega]
def zaR(key qH s:af)(Vh:key.size=32)(Rt:qH.size=12)(hs:s.size<=1000000)(w:ax):
  ae 119 #[.string key,.string qH,.string s] w λe w'=>e= .returned (.tuple #[.string (uu (xor (bs key) (bs qH) (bs s))),.int .i64 0])∧ak w w':=by
 have Hk:=ag Vh;have Hn:=ag Rt;clear Vh Rt;go_enter func119,ntmps119;go_wp2_with fail
 go_loopw [8,9] (λa i wr=>∃(m:Nat) (A:af),64*m<s.size+128∧i= .int .i64 (1+(m:Int))∧a= .string A∧Hid (bs A=blocks (bs key) (bs qH) m)∧ak w wr) (λ_ i _=>s.size+128-64*(intOf i).toNat)
 case atStart=>exact⟨0,⟨#[]⟩,by omega,rfl,rfl,rfl,ah _ _⟩
 case round=>
  obtain⟨m,A,hm,rfl,rfl,hA,K⟩:=hrel;have uF:A.size=64*m:=by
   have:=dB List.length hA.o
   rwa [ry,NG]at this
  by_cases hgo:64*m<s.size∨m=0
  ·have hd:((A.size:Int)<s.size)∨((s.size:Int)<=A.size∧(m:Int)=0):=by omega
   have zb6:m<100000:=by omega
   have Hsz:=ag uF;clear uF hgo;have OB:Hid (bs (A++uu (block (bs key) (1+m) (bs qH)))=blocks (bs key) (bs qH) (m+1)):=by show bs _=_;rw[tX,hA.o,rM (PW _ _ _),blocks]
   have G8:¬(9223372036854775807<A.size+(uu (block (bs key) (1+m) (bs qH))).size):=by rw[rH,WI,Hsz.o];omega
   have zxL:=ag G8;clear G8;rcases hd with hd|⟨hd,hd0⟩
   ·go_wp2_with fail;refine(XQ key qH _ (1+m) (by omega) Hk.o Hn.o (by omega) _).m ?_;rintro e w2 ⟨rfl,K2⟩;have G8:=zxL.o;go_wp2_with fail;rw[Hsz.o]at hd;exact⟨⟨m+1,_,by omega,by go_num,rfl,OB,K.qo K2⟩,by simp[intOf];omega⟩
   obtain rfl:m=0:=by omega
   go_wp2_with fail;refine(XQ key qH _ (1+0) (by omega) Hk.o Hn.o (by omega) _).m ?_;rintro e w2 ⟨rfl,K2⟩;have G8:=zxL.o;go_wp2_with fail;exact⟨⟨0+1,_,by omega,by go_num,rfl,OB,K.qo K2⟩,by simp[intOf]⟩
  have hd1:(s.size:Int)<=A.size:=by omega
  have d0:decide (A.size<s.size)=false:=by simp;omega
  have FK:((1+(m:Int))==1)=false:=by simp;omega
  have NT:=jJ (P:=prog) wr 9 153 5 s bK dG eQ;have hge:Hid (s.size<=64*m):=by show _<=_;omega
  have Hsz:=ag uF;clear uF hgo;go_wp2_with fail;obtain⟨cap,Ci⟩:=aj (grownCap wr s.size 0 5);rw[<-Ci];obtain⟨BT,hBT⟩:=aj wr.heap.size;have zzU:w.heap.size<=BT:=by rw[hBT];exact K.size
  refine qW (λw1=>ak w w1∧wU w1 BT 5 (yN (bs key) (bs qH) (bs s) 0)) ⟨K.bytesWorld _ _,by rw[hBT];exact wU.ofBytes wr _ s⟩ ?_;rw[<-hBT];clear NT Ci hd1 FK d0 K hBT;intro w1 vF;obtain⟨K,R⟩:=vF
  go_loopw [42] (λi wr=>∃j:Nat,j<=s.size∧i= .int .i64 j∧wU wr BT 5 (yN (bs key) (bs qH) (bs s) j)∧ak w wr) (λi _=>s.size-(intOf i).toNat)
  ·exact⟨0,by omega,rfl,R,K⟩
  clear R K w1;obtain⟨j,hj,rfl,R,K⟩:=hrel;by_cases rE:j<s.size
  ·have d1:(j:Int)<s.size:=by omega
   have d2:j<A.size:=by have:=Hsz.o;have:=hge.o;omega
   have d3:(j:Int)<A.size:=by omega
   have c1:=R.cell j (by rw[CG,ry];omega);have f1:=R.free j (by rw[CG,ry];omega);go_wp2_with fail;refine qV 9 (by kernel_rfl) (by kernel_rfl) ?_;simp only[dE,dD,dA,dF]
   repeat(quiet_step (fail))
   refine dP ?_;intro nq;go_wp2;have hT:A[j].toNat=JY (bs key) (bs qH) j:=by have:=Hsz.o;rw[<-xZ A j d2,hA.o,zm1 _ _ _ _ (by omega)]
   have hx:bits .xor .u8 (((yN (bs key) (bs qH) (bs s) j).getD j 0:Nat):Int) (A[j].toNat:Int)=(((yN (bs key) (bs qH) (bs s) j).getD j 0^^^JY (bs key) (bs qH) j:Nat):Int):=by rw[hT];exact zoi _ _ (zaa _ _ _ (yE s) _ _) (zam _ _ _)
   simp only[aG]at hx;have R':wU ((wr.drewN nq).setCell ⟨BT,j,none⟩ (.int .u8 (bits .xor .u8 (((yN (bs key) (bs qH) (bs s) j)[j]?.getD 0:Nat):Int) (A[j].toNat:Int)))) BT 5 (yN (bs key) (bs qH) (bs s) (j+1)):=
    (R.drewN nq).store j (by rw[CG,ry];omega) hx
   have K':ak w ((wr.drewN nq).setCell ⟨BT,j,none⟩ (.int .u8 (bits .xor .u8 (((yN (bs key) (bs qH) (bs s) j)[j]?.getD 0:Nat):Int) (A[j].toNat:Int)))):=(K.drewN nq).setCell (p:=⟨BT,j,none⟩) (.inr zzU) _;clear hx hT;go_roundw
   case rel=>first|exact⟨j+1,by omega,by go_num,R',K'⟩|((repeat apply Exists.intro);exact⟨⟨j+1,by omega,by go_num,R',K'⟩,rfl⟩)
   simp[intOf];omega
  obtain rfl:j=s.size:=by omega
  rw[O9 _ _ _ _ (by rw[ry];omega)]at R;have NT:=yF (P:=prog) (cap:=cap) R dG eQ bK;rw[Eh,ry]at NT;go_wp2_with fail
  go_ret2
  exact⟨rfl,K⟩
def mk2(a b:af):af:=uu (mark 117 [bs a,bs b])
def zao(a b:af):(mk2 a b).size=16:=by rw[mk2,rH,mark,dJ,Ei];omega
def zkA(a b:af)(ha:a.size<=1000)(hb:b.size<=1000):(rG 117 ([a,b].map bs)).length<=100000:=by simp[rG,sS,tu,ry];omega
def zi4(a b:af):uu (mark 117 ([a,b].map bs))=mk2 a b:=rfl
def upL(l:List af):List af:=(List.range (l.length/2)).map λj=>mk2 (l.getD (2*j) ⟨#[]⟩) (l.getD (2*j+1) ⟨#[]⟩)
def zkz(l:List af):(upL l).length=l.length/2:=by simp[upL]
def zuG(l:List af)(j:Nat)(h:j<l.length/2):(upL l).getD j ⟨#[]⟩=mk2 (l.getD (2*j) ⟨#[]⟩) (l.getD (2*j+1) ⟨#[]⟩):=by rw[aG,upL,aX,kP h];rfl
def zq7(l:List af):∀s∈upL l,s.size=16:=by intro s hs;obtain⟨j,_,rfl⟩:=bY.1 hs;exact zao _ _
def ups:Nat->List af->List af
 | 0,l=>l
 | i+1,l=>upL (ups i l)
def Qo(l:List af)(i:Nat):(ups i l).length=l.length/2^i:=by
 induction i with
 | zero=>simp[ups]
 | succ i ih=>rw[ups,zkz,ih,kQ,mF]
def zq4(l:List af)(h:∀s∈l,s.size=16)(i:Nat):∀s∈ups i l,s.size=16:=by
 cases i with
 | zero=>exact h
 | succ i=>exact zq7 _
def yO(l:List af):Nat->List af
 | 0=>l
 | t+1=>yO l t++ [mk2 ((yO l t).getD (2*t) ⟨#[]⟩) ((yO l t).getD (2*t+1) ⟨#[]⟩)]
def KO(l:List af)(t:Nat):(yO l t).length=l.length+t:=by
 induction t with
 | zero=>rfl
 | succ t ih=>rw[yO,aN,ih];rfl
def zmh(l:List af)(h:∀s∈l,s.size=16)(t:Nat):∀s∈yO l t,s.size=16:=by
 induction t with
 | zero=>exact h
 | succ t ih=>
  intro s hs;rcases dX.1 hs with hs|hs
  ·exact ih s hs
  rw[bJ.1 hs];exact zao _ _
def QE(l:List af)(t u i:Nat)(h:i<l.length+t)(hu:t<=u):(yO l u).getD i ⟨#[]⟩=(yO l t).getD i ⟨#[]⟩:=by
 induction u with
 | zero=>
   obtain rfl:t=0:=by omega
   rfl
 | succ u ih=>
  by_cases e:t=u+1
  ·rw[e]
  rw[<-ih (by omega),yO,aG,dL (by rw[KO];omega),aG]
def zmg(l:List af)(t u:Nat)(h:t<u)(hl:t+2<=l.length):(yO l u).getD (l.length+t) ⟨#[]⟩=mk2 ((yO l u).getD (2*t) ⟨#[]⟩) ((yO l u).getD (2*t+1) ⟨#[]⟩):=by rw[QE l (t+1) u (l.length+t) (by omega) h,QE l t u (2*t) (by omega) (by omega),QE l t u (2*t+1) (by omega) (by omega),yO,aG,bT (by rw[KO];omega),KO,kz];rfl
def KL(l:List af)(hl:l.length=32)(R:List af)(n o:Nat)(ho:o+2*n=64)(hn:R.length=n)(h2:n % 2=0)(zlg:0<n)(h:∀j,j<n->(yO l 31).getD (o+j) ⟨#[]⟩=R.getD j ⟨#[]⟩):
  ∀j,j<n/2->(yO l 31).getD (o+n+j) ⟨#[]⟩=(upL R).getD j ⟨#[]⟩:=by
 intro j hj;have e:=zmg l (o+n+j-32) 31 (by omega) (by omega);rw[hl,show 32+(o+n+j-32)=o+n+j by omega,show 2*(o+n+j-32)=o+2*j by omega]at e;rw[e,zuG R j (by omega),<-h (2*j) (by omega),<-h (2*j+1) (by omega),kT]
def zrv(l:List af)(hl:l.length=32)(i:Nat)(hi:i<=5):∀j,j<2^(5-i)->(yO l 31).getD (64-2^(6-i)+j) ⟨#[]⟩=(ups i l).getD j ⟨#[]⟩:=by
 have h0:∀j,j<32->(yO l 31).getD (0+j) ⟨#[]⟩=(ups 0 l).getD j ⟨#[]⟩:=λj hj=>by rw[eH];exact QE l 0 31 j (by omega) (by omega)
 have h1:=KL l hl (ups 0 l) 32 0 (by omega) (by rw[Qo,hl]) (by omega) (by omega) h0;have h2:=KL l hl (ups 1 l) 16 32 (by omega) (by rw[Qo,hl]) (by omega) (by omega) h1;have h3:=KL l hl (ups 2 l) 8 48 (by omega) (by rw[Qo,hl]) (by omega) (by omega) h2;have h4:=KL l hl (ups 3 l) 4 56 (by omega) (by rw[Qo,hl]) (by omega) (by omega) h3;have h5:=KL l hl (ups 4 l) 2 60 (by omega) (by rw[Qo,hl]) (by omega) (by omega) h4
 have:i=0∨i=1∨i=2∨i=3∨i=4∨i=5:=by omega
 rcases this with rfl|rfl|rfl|rfl|rfl|rfl
 ·exact h0
 ·exact h1
 ·exact h2
 ·exact h3
 ·exact h4
 exact h5
def Jr(l:List af)(n:Nat):Bool:=decide (l.length=n)&&l.all λs=>decide (s.size=16)
def y8{l:List af} :Jr l n=true↔l.length=n∧∀s∈l,s.size=16:=by simp[Jr]
def vS(l:List af):af:=if Jr l 32 then(ups 5 l).getD 0 ⟨#[]⟩else⟨#[]⟩
def NW(l:List af):Int:=if Jr l 32 then 0 else 1
def addr_add(b off i:Nat):(⟨b,off,none⟩:Addr).add i=⟨b,off+i,none⟩:=by unfold Addr.add;split<;>simp_all
def zeV(l:List af):∀u∈strCells l,u.oneCell'=true:=by intro u hu;simp only[strCells,bY]at hu;obtain⟨s,_,rfl⟩:=hu;rfl
def zeW(l:List af):(strCells l).length=l.length*1:=by rw[strCells,aP,mi]
def AB(a b:List af):strCells (a++b)=strCells a++strCells b:=by simp[strCells]
def zpd{b off:Nat}{l:List af}(h:∀i,i<l.length->w.cell? ⟨b,off+i,none⟩=some (.string (l.getD i ⟨#[]⟩))):∀(j:Nat) (u:ay),(strCells l)[j]? =some u->w.cell? ((⟨b,off,none⟩:Addr).add j)=some u:=by
 intro j u hu;have hj:j<l.length:=by
  have:=(aT.1 hu).1
  rwa [strCells,aP]at this
 rw[addr_add,h j hj,<-hu,strCells,aX,aG,aK hj];rfl
def YK{P:Program}{t ty:aB}{i:TypeInfo}(ht:P.underlying t=some (.slice e))(hi:P.info? e=some i)(g n cap:Nat)(hn:n<=cap)(p:Option Addr)(c:Nat):
  (Builtin.append_ #[t,t] ty #[.slice (some ⟨g,0,none⟩) n cap,.slice p 0 c]).run P w= .ok (.slice (some ⟨g,0,none⟩) n cap) w:=by
 cases p with
 | none=>simp[Builtin.append_,fU ht,sizeOf,typeInfo,hi,Builtin.lenOf,hn,oH,storeCells,Builtin.firstCells]
 | some q=>
  have hld:(loadCells q 0).run P w= .ok #[] w:=by simp[loadCells,loadCellsFrom]
  simp[Builtin.append_,fU ht,sizeOf,typeInfo,hi,Builtin.lenOf,hn,oH,Builtin.firstCells,hld,storeCells]
section
variable {P:Program}{w:ax}
def YH{ops:Array Oper}{rest:List Oper}{o:Oper}{a:Act}{Q:Exit->Act->ax->Prop}(hgd:o.guard=none)(s x:Operand)(t:aB)
  (ho:o.op= .call { callee:= .builtin .append,args:= #[s,x],argTypes:= #[t,t] })
  (base:Nat) (e:aB) (i:TypeInfo) (ht:P.underlying t=some (.slice e)) (hi:P.info? e=some i) (hz:i.zero=some (.string ⟨#[]⟩))
  (NY:i.size=1) (hby:i.bytes=16) (g n cap:Nat) (xs l:List af) (hs:a.eval s= .slice (some ⟨g,0,none⟩) n cap) (ru:qF w base e 1 (.slice (some ⟨g,0,none⟩) n cap) n (strCells xs))
  (u:ay) (hx:a.eval x=u) (T:Strs w u l) (N:Nat) (hN:N=n+l.length) (h63:N<=1000000) (Ee:base<=w.heap.size)
  (h:∀g' TG w',qF w' base e 1 (.slice (some ⟨g',0,none⟩) N TG) N (strCells (xs++l))->Keep (qJ g) w w'->(g'=g∨w.heap.size<=g')->wpList P ops Q rest (a.put o.dst (.slice (some ⟨g',0,none⟩) N TG)) w'):wpList P ops Q (o::rest) a w:=by
 subst hN;by_cases h0:l.length=0
 ·obtain⟨p,c,rfl⟩:=T.len;obtain rfl:l= []:=dV h0;have Ci:n<=cap:=by
   rcases ru.2 with⟨hv,_⟩|⟨g2,QT,cur,fz,hv,_,_,_,hc,_⟩
   ·cases hv
   ·cases hv;exact hc
  refine pR hgd λK hK=> ?_;unfold Oper.wp execOp;have hr:=YK (P:=P) (w:=w) (t:=t) (ty:=o.type) ht hi g n cap Ci p c;rw[cZ]at hx;simp only[ho,resolve,invoke,builtin,lJ,Sem.run_pure,mQ,fH,bH,dh,hs,hx,hr];refine hK _ _ ?_;have:=h g cap w (by rw[dS,cZ,iY];exact ru) (ah _ _) (.inl rfl)
  rwa [cZ,iY]at this
 ·obtain⟨p,c,rfl⟩:=T.len;obtain⟨b,off,rfl,_,_,hc⟩:=T.at (by omega);refine rY (w:=w) (hgd:=hgd) s x t ho base e i (.string ⟨#[]⟩) 1 16 ht hi hz NY hby rfl (by decide) _ n (strCells xs) hs ru ⟨b,off,none⟩ l.length c (strCells l) hx (zeW l) (zpd hc) (zeV l) (by unfold maxLen;omega) (by omega) Ee ?_;intro v' w' own hg hw;obtain⟨g',TG,rfl,_,_⟩:=own.some (by omega);refine h g' TG w' (by rw[AB];exact own) ((ah _ _).grown hg (λk hk=> .inl ?_)) ?_
  ·exact(aU hk).s
  rcases hw with hw|hw
  ·exact .inl (aU hw)
  exact .inr (hw g' rfl)
end
section
variable {w w':ax}{base:Nat}{E:aB}{v:ay}{vs:List ay}{L:List (List af)}
end
