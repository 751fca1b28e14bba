import Derived.Test.YtopbkdebihcmcaaGreatDoorYAD
import Derived.Test.YtopbkdebihcmcaaGreatDoorProg
import Derived.WalkLawsBesides
import Derived.WalkSpells
import Derived.BigQuiet
import Derived.Lib.Hide
set_option linter.unusedSimpArgs false
set_option linter.unusedVariables false
namespace Go.Proofs.YtopbkdebihcmcaaGreatDoor
open Go.RowKit
set_option maxRecDepth 100000
set_option maxHeartbeats 16000000
theorem Ig(a:Nat)(ha:a<4294967296):(BitVec.ofInt 32 (a:Int)).toNat=a:=by rw[jI,jV];exact jw (by omega)
theorem WN(a b:Nat)(ha:a<4294967296)(hb:b<4294967296):bits .or .u32 (a:Int) (b:Int)=((a|||b:Nat):Int):=by have hx:a|||b<2^32:=kC (by omega) (by omega);show IntKind.u32.wrap ((BitVec.ofInt 32 (a:Int)|||BitVec.ofInt 32 (b:Int)).toNat:Int)=_;rw[BitVec.toNat_or,Ig a ha,Ig b hb,jS];omega
theorem Qe(a b:Nat)(ha:a<4294967296)(hb:b<4294967296):bits .xor .u32 (a:Int) (b:Int)=((a^^^b:Nat):Int):=by have hx:a^^^b<2^32:=jB (by omega) (by omega);show IntKind.u32.wrap ((BitVec.ofInt 32 (a:Int)^^^BitVec.ofInt 32 (b:Int)).toNat:Int)=_;rw[BitVec.toNat_xor,Ig a ha,Ig b hb,jS];omega
theorem zix(a b:Nat)(ha:a<4294967296)(hb:b<4294967296):bits .and .u32 (a:Int) (b:Int)=((a&&&b:Nat):Int):=by have hx:a&&&b<2^32:=iV Nat.and_le_left (by omega);show IntKind.u32.wrap ((BitVec.ofInt 32 (a:Int)&&&BitVec.ofInt 32 (b:Int)).toNat:Int)=_;rw[BitVec.toNat_and,Ig a ha,Ig b hb,jS];omega
theorem RJ(a b:Nat)(ha:a<4294967296)(hb:b<4294967296):a^^^b<4294967296:=jB (n:=32) ha hb
theorem zgp(x n:Nat)(hx:x<4294967296):bits .or .u32 ((x:Int)/2^n) ((x:Int)*2^(32-n) % 4294967296)=((zD x n:Nat):Int):=by
 have e1:((x:Int)*2^(32-n) % 4294967296)=((x*2^(32-n) % 4294967296:Nat):Int):=by simp
 have e2:((x:Int)/2^n)=((x/2^n:Nat):Int):=by simp
 rw[e1,e2];exact WN _ _ (iV (lq _ _) hx) (iM _ (by omega))
theorem zgQ{a b:Int}(h:a=b):Ending.returned (.int .u32 a)= .returned (.int .u32 b):=by rw[h]
theorem ZN(x:Int)(X n:Nat)(hx:X<4294967296)(he:x=X)(hn:n<=32)(w:World):
  Calls Tryz.prog 88 #[.int .u32 x,.int .i64 n] w λe w'=>e= .returned (.int .u32 (zD X n))∧∃k,w'=w.drewN k:=by
 subst he;go_enter Tryz.func88,Tryz.ntmps88;go_wp2
 go_quiet (fail)
 go_wp2;go_ret;exact⟨zgQ (zgp X n hx),⟨_,rfl⟩⟩
theorem Ag(x n:Int)(hx0:0<=x)(hx:x<4294967296)(hn0:0<=n)(hn:n<=32)(w:World)(k:Nat):
  Calls Tryz.prog 88 #[.int .u32 x,.int .i64 n] (w.drewN k) λe w''=>e= .returned (.int .u32 (zD x.toNat n.toNat:Nat))∧∃m,w''=w.drewN m:=by
 obtain⟨X,rfl⟩:∃X:Nat,x=X:=⟨x.toNat,by omega⟩
 obtain⟨N,rfl⟩:∃N:Nat,n=N:=⟨n.toNat,by omega⟩
 exact kF (ZN _ X N (by omega) rfl (by omega) _)
def oG(w:World):Prop:=∀i,i<64->w.cell? ⟨0,i,none⟩=some (.int .u32 ((EG.getD i 0:Nat):Int))
theorem oG.keep{w w':World}(h:oG w){S:Nat->Prop}(hk:Keep S w w')(hn:¬S 0):oG w':=
 λi hi=>by
  have h1:=h i hi;rw[<-h1];refine hk.cell ?_ hn;rcases lK 0 w.heap.size with h'|h'
  ·exact h'
  ·simp[World.cell?,dU h']at h1
theorem Kv(x a b c:Nat)(hx:x<4294967296)(hc:c<4294967296):bits BinOp.xor IntKind.u32 (bits BinOp.xor IntKind.u32 ((zD x a:Nat):Int) ((zD x b:Nat):Int)) ((c:Nat):Int)=((zD x a^^^zD x b^^^c:Nat):Int):=by rw[Qe _ _ (Ii x a hx) (Ii x b hx),Qe _ _ (RJ _ _ (Ii x a hx) (Ii x b hx)) hc]
theorem ZT(x:Nat)(hx:x<4294967296):bits BinOp.xor IntKind.u32 (bits BinOp.xor IntKind.u32 ((zD x 7:Nat):Int) ((zD x 18:Nat):Int)) ((x:Int)/8)=((za4 x:Nat):Int):=by
 have e:(x:Int)/8=((x/2^3:Nat):Int):=by omega
 rw[e];exact Kv x 7 18 _ hx (iV (lq _ _) hx)
theorem ZR(x:Nat)(hx:x<4294967296):bits BinOp.xor IntKind.u32 (bits BinOp.xor IntKind.u32 ((zD x 17:Nat):Int) ((zD x 19:Nat):Int)) ((x:Int)/1024)=((za3 x:Nat):Int):=by
 have e:(x:Int)/1024=((x/2^10:Nat):Int):=by omega
 rw[e];exact Kv x 17 19 _ hx (iV (lq _ _) hx)
theorem zfg(x:Nat)(hx:x<4294967296):bits BinOp.xor IntKind.u32 (bits BinOp.xor IntKind.u32 ((zD x 6:Nat):Int) ((zD x 11:Nat):Int)) ((zD x 25:Nat):Int)=((zih x:Nat):Int):=
 Kv x 6 11 _ hx (Ii x 25 hx)
theorem zfh(x:Nat)(hx:x<4294967296):bits BinOp.xor IntKind.u32 (bits BinOp.xor IntKind.u32 ((zD x 2:Nat):Int) ((zD x 13:Nat):Int)) ((zD x 22:Nat):Int)=((zii x:Nat):Int):=
 Kv x 2 13 _ hx (Ii x 22 hx)
theorem znH(a b c d:Nat)(ha:a<256)(hb:b<256)(hc:c<256)(hd:d<256):
  bits BinOp.or IntKind.u32 (bits BinOp.or IntKind.u32 (bits BinOp.or IntKind.u32 ((a:Int) % 4294967296*16777216 % 4294967296) ((b:Int) % 4294967296*65536 % 4294967296)) ((c:Int) % 4294967296*256 % 4294967296)) ((d:Int) % 4294967296)=((16777216*a+65536*b+256*c+d:Nat):Int):=by
 have e0:(a:Int) % 4294967296*16777216 % 4294967296=((2^24*a:Nat):Int):=by omega
 have e1:(b:Int) % 4294967296*65536 % 4294967296=((65536*b:Nat):Int):=by omega
 have e2:(c:Int) % 4294967296*256 % 4294967296=((256*c:Nat):Int):=by omega
 have e3:(d:Int) % 4294967296=(d:Nat):=by omega
 have o1:2^24*a|||65536*b=2^16*(256*a+b):=by rw[<-gz (by omega)];omega
 have o2:2^16*(256*a+b)|||256*c=2^8*(65536*a+256*b+c):=by rw[<-gz (by omega)];omega
 have o3:2^8*(65536*a+256*b+c)|||d=16777216*a+65536*b+256*c+d:=by rw[<-gz (by omega)];omega
 rw[e0,e1,e2,e3,WN _ _ (by omega) (by omega),o1,WN _ _ (by omega) (by omega),o2,WN _ _ (by omega) (by omega),o3]
theorem add32(a b:Nat):∃p:Nat,Hid (p=(a+b) % 4294967296)∧IntKind.u32.wrap ((a:Int)+(b:Int))=(p:Int):=
 ⟨(a+b) % 4294967296,rfl,by rw[jS];omega⟩
theorem YC(a b:Nat)(ha:(a:Int)<4294967296)(hb:(b:Int)<4294967296):∃p:Nat,Hid (p=a&&&b)∧(p:Int)<4294967296∧bits BinOp.and IntKind.u32 (a:Int) (b:Int)=(p:Int):=by
 have:a&&&b<4294967296:=iV Nat.and_le_left (by omega)
 exact⟨a&&&b,rfl,by omega,zix a b (by omega) (by omega)⟩
theorem zfC(a b:Nat)(ha:(a:Int)<4294967296)(hb:(b:Int)<4294967296):∃p:Nat,Hid (p=a^^^b)∧(p:Int)<4294967296∧bits BinOp.xor IntKind.u32 (a:Int) (b:Int)=(p:Int):=by
 have:a^^^b<4294967296:=RJ a b (by omega) (by omega)
 exact⟨a^^^b,rfl,by omega,Qe a b (by omega) (by omega)⟩
theorem zhJ(a:Nat)(ha:a<4294967296):4294967295^^^a=4294967295-a:=by
 refine zjk λi=> ?_;rw[Nat.testBit_xor,zeV a i ha];have h1:(4294967295:Nat).testBit i=decide (i<32):=Nat.testBit_two_pow_sub_one 32 i;rw[h1];by_cases hi:i<32
 ·simp[hi]
 ·rw[zhf a i ha hi];simp[hi]
theorem znJ(a:Nat)(ha:(a:Int)<4294967296):∃p:Nat,Hid (p=4294967295-a)∧(p:Int)<4294967296∧bits BinOp.xor IntKind.u32 (if IntKind.u32.signed=true then-1 else IntKind.u32.max) (a:Int)=(p:Int):=by refine⟨4294967295-a,rfl,by omega,?_⟩;have h:=Qe 4294967295 a (by omega) (by omega);rw[zhJ a (by omega)]at h;exact h
theorem zbb(a b:Nat):∃p:Nat,Hid (p=(a+b) % 4294967296)∧(p:Int)<4294967296∧((a:Int)+(b:Int)) % 4294967296=(p:Int):=
 ⟨(a+b) % 4294967296,rfl,by omega,by omega⟩
theorem znL(v:List Nat)(h:v.length=8):∃x0 x1 x2 x3 x4 x5 x6 x7,v= [x0,x1,x2,x3,x4,x5,x6,x7]:=by
 match v,h with
 | [x0,x1,x2,x3,x4,x5,x6,x7],_=>exact⟨x0,x1,x2,x3,x4,x5,x6,x7,rfl⟩
theorem XA(H:Nat)(h:List Nat)(s:af)(hs:Hid (s.size=64))(hl:Hid (h.length=8))(L:W32 h)(w:World)(R:Row w H .u32 83 h)(V:oG w)(hH:H≠0):
  Calls Tryz.prog 56 #[.pointer (some ⟨H,0,none⟩),.string s] w λe w'=>e= .returned (.tuple #[])∧Row w' H .u32 83 (compress h (bs s))∧Keep (nY H) w w':=by
 go_enter Tryz.func56,Tryz.ntmps56;go_wp2_with fail;refine pK (λw1=>Row w1 w.heap.size .u32 130 (Gg (bs s) 0)∧Row w1 H .u32 83 h∧Keep nM w w1) ⟨aG w _,R.keep ((ah nM w).alloc _) (λx=>x),(ah _ _).alloc _⟩ ?_;have hH2:H<w.heap.size:=R.lt;clear R;intro w1 hw1
 go_loopw [16] (λi wr=>∃k:Nat,k<=16∧i= .int .i64 k∧Row wr w.heap.size .u32 130 (Gg (bs s) k)∧Row wr H .u32 83 h∧Keep nM w wr) (λi _=>16-(intOf i).toNat)
 case atStart=>exact⟨0,by omega,rfl,hw1⟩
 case round=>
  clear hw1 w1;obtain⟨k,hk,rfl,RW,RH,K⟩:=hrel;by_cases hlt:k<16
  ·have j1:(k:Int)<16:=by omega
   have j2:(k:Int)<64:=by omega
   have f1:=RW.free k;have c1:=RW.cell k (by rw[Sm];omega);obtain⟨q0,e0⟩:∃q,q=4*k:=⟨_,rfl⟩
   obtain⟨q1,e1⟩:∃q,q=4*k+1:=⟨_,rfl⟩
   obtain⟨q2,e2⟩:∃q,q=4*k+2:=⟨_,rfl⟩
   obtain⟨q3,e3⟩:∃q,q=4*k+3:=⟨_,rfl⟩
   have w0:IntKind.i64.wrap (4*(k:Int))=(q0:Int):=by rw[aW _ (by omega)];omega
   have w1:IntKind.i64.wrap ((q0:Int)+1)=(q1:Int):=by rw[aW _ (by omega)];omega
   have w2:IntKind.i64.wrap ((q0:Int)+2)=(q2:Int):=by rw[aW _ (by omega)];omega
   have w3:IntKind.i64.wrap ((q0:Int)+3)=(q3:Int):=by rw[aW _ (by omega)];omega
   have l0:q0<s.size:=by rw[hs.out];omega
   have l1:q1<s.size:=by rw[hs.out];omega
   have l2:q2<s.size:=by rw[hs.out];omega
   have l3:q3<s.size:=by rw[hs.out];omega
   have E0:=Lib.hid e0;have E1:=Lib.hid e1;have E2:=Lib.hid e2;have E3:=Lib.hid e3;clear e0 e1 e2 e3;go_wp2_with fail;refine o6 31 (by kernel_rfl) (by kernel_rfl) ?_;simp only[bY,bZ,dh,cO]
   repeat(quiet_step (fail))
   refine dF ?_;intro nq;go_wp2_with fail;have hv:bits BinOp.or IntKind.u32 (bits BinOp.or IntKind.u32 (bits BinOp.or IntKind.u32 ((s[q0].toNat:Int) % 4294967296*16777216 % 4294967296) ((s[q1].toNat:Int) % 4294967296*65536 % 4294967296)) ((s[q2].toNat:Int) % 4294967296*256 % 4294967296)) ((s[q3].toNat:Int) % 4294967296)=((be32 (bs s) (4*k):Nat):Int):=by rw[be32,<-E0.out,show q0+1=q1 by rw[E0.out,E1.out],show q0+2=q2 by rw[E0.out,E2.out],show q0+3=q3 by rw[E0.out,E3.out],bs_getD s q0 l0,bs_getD s q1 l1,bs_getD s q2 l2,bs_getD s q3 l3];exact znH _ _ _ _ s[q0].toNat_lt s[q1].toNat_lt s[q2].toNat_lt s[q3].toNat_lt
   refine⟨⟨k+1,by omega,by go_num,(RW.drewN nq).store k hv,(RH.drewN nq).keep (Keep.set1 (ah _ _) _ _) (λe=>by simp only[nY]at e;omega),(K.drewN nq).setCell (.inr (aF _)) _⟩,by simp[intOf];omega⟩
  ·have j1:decide ((k:Int)<16)=false:=by simp;omega
   have RW1:Row wr w.heap.size .u32 130 (y7 (bs s) 0):=by
    have:k=16:=by omega
    rw[this]at RW;exact RW
   clear hlt hk RW;go_wp2_with fail;refine pK (λw1=>Row w1 w.heap.size .u32 130 (y7 (bs s) 0)∧Row w1 H .u32 83 h∧Keep nM w w1) ⟨RW1,RH,K⟩ ?_;clear RW1 RH K wr j1;intro w1 hw1
   go_loopw [6] (λi wr=>∃n:Nat,n<=64∧16<=n∧i= .int .i64 n∧Row wr w.heap.size .u32 130 (y7 (bs s) (n-16))∧Row wr H .u32 83 h∧Keep nM w wr) (λi _=>64-(intOf i).toNat)
   case atStart=>exact⟨16,by omega,by omega,rfl,hw1⟩
   case round=>
    clear hw1 w1;obtain⟨n,hn,hn2,rfl,RW,RH,K⟩:=hrel;by_cases hlt:n<64
    ·have j1:(n:Int)<64:=by omega
     obtain⟨m,hm⟩:∃m,m=y7 (bs s) (n-16):=⟨_,rfl⟩
     have LM:W32 m:=by rw[hm];exact W32.y7 _ (IP s) _
     have lm:m.length=64:=by rw[hm,Sl]
     rw[<-hm]at RW;have Hm:=Lib.hid hm;clear hm;obtain⟨q1,e1⟩:∃q,q=n-15:=⟨_,rfl⟩
     obtain⟨q2,e2⟩:∃q,q=n-2:=⟨_,rfl⟩
     obtain⟨q0,e0⟩:∃q,q=n-16:=⟨_,rfl⟩
     obtain⟨q7,e7⟩:∃q,q=n-7:=⟨_,rfl⟩
     have w1:IntKind.i64.wrap ((n:Int)-15)=(q1:Int):=by rw[aW _ (by omega)];omega
     have w2:IntKind.i64.wrap ((n:Int)-2)=(q2:Int):=by rw[aW _ (by omega)];omega
     have w0:IntKind.i64.wrap ((n:Int)-16)=(q0:Int):=by rw[aW _ (by omega)];omega
     have w7:IntKind.i64.wrap ((n:Int)-7)=(q7:Int):=by rw[aW _ (by omega)];omega
     have l1:(q1:Int)<64:=by omega
     have l2:(q2:Int)<64:=by omega
     have l0:(q0:Int)<64:=by omega
     have l7:(q7:Int)<64:=by omega
     have c1:=RW.cell q1 (by rw[lm];omega);have c2:=RW.cell q2 (by rw[lm];omega);have c0:=RW.cell q0 (by rw[lm];omega);have c7:=RW.cell q7 (by rw[lm];omega);have f1:=RW.free n;have cn:=RW.cell n (by rw[lm];omega);have E0:=Lib.hid e0;have E1:=Lib.hid e1;have E2:=Lib.hid e2;have E7:=Lib.hid e7;clear e0 e1 e2 e7;go_wp2_with fail;have LMi:∀q,((m[q]?.getD 0:Nat):Int)<4294967296:=λq=>by have:=LM q;rw[ax]at this;omega
     obtain⟨a1,ha1⟩:∃a,a=za4 (m.getD q1 0):=⟨_,rfl⟩
     obtain⟨a2,ha2⟩:∃a,a=za3 (m.getD q2 0):=⟨_,rfl⟩
     have b1:=ZT (m.getD q1 0) (LM q1);have b2:=ZR (m.getD q2 0) (LM q2);rw[<-ha1]at b1;rw[<-ha2]at b2;simp only[ax]at b1 b2;have A1:=Lib.hid ha1;have A2:=Lib.hid ha2;clear ha1 ha2
     go_quiet ((go_at_call 88;exact Ag _ _ (by omega) (LMi _) (by decide) (by decide) _ _))
     go_wp2_with fail;refine pK (λw1=>Row w1 w.heap.size .u32 130 m∧Row w1 H .u32 83 h∧Keep nM w w1) ⟨RW.drewN nq,RH.drewN nq,K.drewN nq⟩ ?_;clear RW RH K c1 c2 c0 c7 f1 cn nq wr;intro wr hwr;obtain⟨RW,RH,K⟩:=hwr;have c1:=RW.cell q1 (by rw[lm];omega);have c2:=RW.cell q2 (by rw[lm];omega);have c0:=RW.cell q0 (by rw[lm];omega);have c7:=RW.cell q7 (by rw[lm];omega);have f1:=RW.free n;have cn:=RW.cell n (by rw[lm];omega)
     go_quiet ((go_at_call 88;exact Ag _ _ (by omega) (LMi _) (by decide) (by decide) _ _))
     go_wp2_with fail;refine pK (λw1=>Row w1 w.heap.size .u32 130 m∧Row w1 H .u32 83 h∧Keep nM w w1) ⟨RW.drewN nq,RH.drewN nq,K.drewN nq⟩ ?_;clear RW RH K c1 c2 c0 c7 f1 cn nq wr;intro wr hwr;obtain⟨RW,RH,K⟩:=hwr;have c1:=RW.cell q1 (by rw[lm];omega);have c2:=RW.cell q2 (by rw[lm];omega);have c0:=RW.cell q0 (by rw[lm];omega);have c7:=RW.cell q7 (by rw[lm];omega);have f1:=RW.free n;have cn:=RW.cell n (by rw[lm];omega);refine o6 15 (by kernel_rfl) (by kernel_rfl) ?_;simp only[bY,bZ,dh,cO]
     repeat(quiet_step (fail))
     refine dF ?_;intro nq2;go_wp2_with fail;have hv:((m[q0]?.getD 0:Nat)+(a1:Int)+(m[q7]?.getD 0:Nat)+(a2:Int)) % 4294967296=(((m.getD q0 0+a1+m.getD q7 0+a2) % 4294967296:Nat):Int):=by simp only[ax];omega
     have hst:m.set n ((m.getD q0 0+a1+m.getD q7 0+a2) % 4294967296)=y7 (bs s) (n+1-16):=by
      rw[show n+1-16=(n-16)+1 by omega,y7,uY,<-y7,<-Hm.out,NG,A1.out,A2.out,E0.out,E1.out,E2.out,E7.out,
       show 16+(n-16)=n by omega,show 1+(n-16)=n-15 by omega,show 9+(n-16)=n-7 by omega,show 14+(n-16)=n-2 by omega]
     refine⟨⟨n+1,by omega,by omega,by go_num,?_,(RH.drewN nq2).keep (Keep.set1 (ah _ _) _ _) (λe=>by simp only[nY]at e;omega),(K.drewN nq2).setCell (.inr (aF _)) _⟩,by simp[intOf];omega⟩;rw[<-hst];exact(RW.drewN nq2).store n hv
    ·have j1:decide ((n:Int)<64)=false:=by simp;omega
     have RW1:Row wr w.heap.size .u32 130 (sched (bs s)):=by
      have:n=64:=by omega
      rw[this]at RW;exact RW
     clear hlt hn hn2 RW;have hi8:(Tryz.prog.info? 83).map (·.size)=some (ints .u32 h).size:=by rw[BQ,hl.out];kernel_rfl
     have Hi8:=Lib.hid hi8;clear hi8;have Hs8:Hid ((ints .u32 h).size=8):=by show(ints .u32 h).size=8;rw[BQ,hl.out]
     go_wp2_with (first|(refine jD rfl 83 _ rfl H rfl 83 (ints .u32 h) (0,0) _ RH Tryz.underlying83 rfl Hi8.out ?_)|(refine oH rfl 83 _ _ rfl wr.heap.size 83 _ (ints .u32 h) rfl rfl (aG wr _) Hi8.out 8 ?_ Hs8.out (KH _ _) ?_;exact rfl));go_wp2_with fail;obtain⟨BT,hBT⟩:∃b,b=wr.heap.size:=⟨_,rfl⟩
     have hlt1:w.heap.size<BT:=by rw[hBT];exact RW1.lt
     refine pK (λw1=>Row w1 BT .u32 83 (Bc (sched (bs s)) h 0)∧Row w1 w.heap.size .u32 130 (sched (bs s))∧Row w1 H .u32 83 h∧Keep nM w w1) ⟨by rw[hBT];exact oO (aG wr _),(RW1.keep ((ah nM wr).alloc _) (λx=>x)).keep ((ah (nY wr.heap.size) _).setRow (.inl rfl) _) (λe=>by simp only[nY]at e;omega),(RH.keep ((ah nM wr).alloc _) (λx=>x)).keep ((ah (nY wr.heap.size) _).setRow (.inl rfl) _) (λe=>by simp only[nY]at e;omega),(K.alloc _).setRow (.inr (by omega)) _⟩ ?_;rw[<-hBT];clear RW1 RH K hBT wr j1 Hi8 Hs8;have LM:W32 (sched (bs s)):=W32.y7 _ (IP s) _;have lm:(sched (bs s)).length=64:=Sl _ _;generalize hm:sched (bs s)=m at LM lm;have Hm:=Lib.hid hm;clear hm;intro w1 hw1
     go_loopw [107] (λi wr=>∃j:Nat,j<=64∧i= .int .i64 j∧Row wr BT .u32 83 (Bc m h j)∧Row wr w.heap.size .u32 130 m∧Row wr H .u32 83 h∧Keep nM w wr) (λi _=>64-(intOf i).toNat)
     case atStart=>exact⟨0,by omega,rfl,hw1⟩
     case round=>
      clear hw1 w1;obtain⟨j,hj,rfl,RV,RW,RH,K⟩:=hrel;by_cases hlt:j<64
      ·have j1:(j:Int)<64:=by omega
       obtain⟨v,hv⟩:∃v,v=Bc m h j:=⟨_,rfl⟩
       have LV:W32 v:=by rw[hv];exact W32.steps _ L _
       have lv:v.length=8:=by rw[hv,RY _ _ hl.out]
       rw[<-hv]at RV;have Hv:=Lib.hid hv;clear hv;obtain⟨x0,x1,x2,x3,x4,x5,x6,x7,rfl⟩:∃x0 x1 x2 x3 x4 x5 x6 x7,v= [x0,x1,x2,x3,x4,x5,x6,x7]:=znL v lv;clear lv;have b0:(x0:Int)<4294967296:=by have:=LV 0;simp at this;omega
       have b1:(x1:Int)<4294967296:=by have:=LV 1;simp at this;omega
       have b2:(x2:Int)<4294967296:=by have:=LV 2;simp at this;omega
       have b3:(x3:Int)<4294967296:=by have:=LV 3;simp at this;omega
       have b4:(x4:Int)<4294967296:=by have:=LV 4;simp at this;omega
       have b5:(x5:Int)<4294967296:=by have:=LV 5;simp at this;omega
       have b6:(x6:Int)<4294967296:=by have:=LV 6;simp at this;omega
       have b7:(x7:Int)<4294967296:=by have:=LV 7;simp at this;omega
       have c0:wr.cell? ⟨BT,0,none⟩=some (.int .u32 (x0:Int)):=RV.cell 0 (by show 0<8;omega);have c4:wr.cell? ⟨BT,4,none⟩=some (.int .u32 (x4:Int)):=RV.cell 4 (by show 4<8;omega);obtain⟨aE,haE⟩:∃a,a=zih x4:=⟨_,rfl⟩
       obtain⟨aA,haA⟩:∃a,a=zii x0:=⟨_,rfl⟩
       have bE:=zfg x4 (by omega);have bA:=zfh x0 (by omega);rw[<-haE]at bE;rw[<-haA]at bA;have AE:=Lib.hid haE;have AA:=Lib.hid haA;clear haE haA;go_wp2_with fail
       go_quiet ((go_at_call 88;exact Ag _ _ (by omega) b4 (by decide) (by decide) _ _))
       go_wp2_with fail;refine pK (λw1=>Row w1 BT .u32 83 [x0,x1,x2,x3,x4,x5,x6,x7]∧Row w1 w.heap.size .u32 130 m∧Row w1 H .u32 83 h∧Keep nM w w1) ⟨RV.drewN nq,RW.drewN nq,RH.drewN nq,K.drewN nq⟩ ?_;clear RV RW RH K c0 c4 nq wr;intro wr hwr;obtain⟨RV,RW,RH,K⟩:=hwr;obtain⟨rk,hrk⟩:∃r,r=EG.getD j 0:=⟨_,rfl⟩
       obtain⟨wk,hwk⟩:∃r,r=m.getD j 0:=⟨_,rfl⟩
       have cr:=(V.keep K (λx=>x)) j hlt;have cw:=RW.cell j (by rw[lm];omega);rw[<-hrk]at cr;rw[<-hwk]at cw;have Hrk:=Lib.hid hrk;have Hwk:=Lib.hid hwk;clear hrk hwk;have c4:wr.cell? ⟨BT,4,none⟩=some (.int .u32 (x4:Int)):=RV.cell 4 (by show 4<8;omega);have c5:wr.cell? ⟨BT,5,none⟩=some (.int .u32 (x5:Int)):=RV.cell 5 (by show 5<8;omega);have c6:wr.cell? ⟨BT,6,none⟩=some (.int .u32 (x6:Int)):=RV.cell 6 (by show 6<8;omega);have c7:wr.cell? ⟨BT,7,none⟩=some (.int .u32 (x7:Int)):=RV.cell 7 (by show 7<8;omega);obtain⟨p1,P1,e1⟩:=add32 x7 aE;obtain⟨q1,Q1,d1,e2⟩:=YC x4 x5 b4 b5;obtain⟨q2,Q2,d2,e3⟩:=znJ x4 b4;obtain⟨q3,Q3,d3,e4⟩:=YC q2 x6 d2 b6;obtain⟨q4,Q4,d4,e5⟩:=zfC q1 q3 d1 d3;obtain⟨p2,P2,e6⟩:=add32 p1 q4;obtain⟨p3,P3,e7⟩:=add32 p2 rk;obtain⟨p4,P4,e8⟩:=add32 p3 wk
       go_quiet (fail)
       clear e1 e2 e3 e4 e5 e6 e7 e8;go_wp2_with fail;refine pK (λw1=>Row w1 BT .u32 83 [x0,x1,x2,x3,x4,x5,x6,x7]∧Row w1 w.heap.size .u32 130 m∧Row w1 H .u32 83 h∧Keep nM w w1) ⟨RV.drewN nq,RW.drewN nq,RH.drewN nq,K.drewN nq⟩ ?_;clear RV RW RH K c4 c5 c6 c7 cr cw nq wr;intro wr hwr;obtain⟨RV,RW,RH,K⟩:=hwr;have c0:wr.cell? ⟨BT,0,none⟩=some (.int .u32 (x0:Int)):=RV.cell 0 (by show 0<8;omega)
       go_quiet ((go_at_call 88;exact Ag _ _ (by omega) b0 (by decide) (by decide) _ _))
       have c1:wr.cell? ⟨BT,1,none⟩=some (.int .u32 (x1:Int)):=RV.cell 1 (by show 1<8;omega);have c2:wr.cell? ⟨BT,2,none⟩=some (.int .u32 (x2:Int)):=RV.cell 2 (by show 2<8;omega);have c3:wr.cell? ⟨BT,3,none⟩=some (.int .u32 (x3:Int)):=RV.cell 3 (by show 3<8;omega);have c4:wr.cell? ⟨BT,4,none⟩=some (.int .u32 (x4:Int)):=RV.cell 4 (by show 4<8;omega);have c5:wr.cell? ⟨BT,5,none⟩=some (.int .u32 (x5:Int)):=RV.cell 5 (by show 5<8;omega);have c6:wr.cell? ⟨BT,6,none⟩=some (.int .u32 (x6:Int)):=RV.cell 6 (by show 6<8;omega);obtain⟨r1,R1,f1,e1⟩:=YC x0 x1 b0 b1;obtain⟨r2,R2,f2,e2⟩:=YC x0 x2 b0 b2;obtain⟨r3,R3,f3,e3⟩:=zfC r1 r2 f1 f2;obtain⟨r4,R4,f4,e4⟩:=YC x1 x2 b1 b2;obtain⟨r5,R5,f5,e5⟩:=zfC r3 r4 f3 f4;obtain⟨t1,T1,g1,e6⟩:=zbb aA r5;obtain⟨t2,T2,g2,e7⟩:=zbb p4 t1;obtain⟨t3,T3,g3,e8⟩:=zbb x3 p4;have hi8:(Tryz.prog.info? 83).map (·.size)=some (ints .u32 [t2,x0,x1,x2,t3,x4,x5,x6]).size:=by kernel_rfl
       have Hi8:=Lib.hid hi8;clear hi8;go_wp2_with (first|(refine oH rfl 83 _ _ rfl BT 83 _ (ints .u32 [t2,x0,x1,x2,t3,x4,x5,x6]) rfl rfl (RV.drewN nq) Hi8.out 8 rfl rfl (KH _ _) ?_));have hq:q4=chs x4 x5 x6:=by rw[Q4.out,Q1.out,Q3.out,Q2.out];rfl
       have hr:r5=maj x0 x1 x2:=by rw[R5.out,R3.out,R4.out,R1.out,R2.out];rfl
       have hp:p4=(x7+zih x4+chs x4 x5 x6+EG.getD j 0+m.getD j 0) % 4294967296:=by rw[P4.out,P3.out,P2.out,P1.out,hq,<-AE.out,<-Hrk.out,<-Hwk.out];omega
       have ht:t1=(zii x0+maj x0 x1 x2) % 4294967296:=by rw[T1.out,hr,<-AA.out]
       have hst: [t2,x0,x1,x2,t3,x4,x5,x6]=Bc m h (j+1):=by rw[Bc,uY,<-Bc,<-Hv.out,T2.out,T3.out,hp,ht];rfl
       have hBH:¬nY BT H:=λe=>by simp only[nY]at e;omega
       have hBW:¬nY BT w.heap.size:=λe=>by simp only[nY]at e;omega
       refine⟨⟨j+1,by omega,by go_num,?_,(RW.drewN nq).keep (Keep.setRow (ah (nY BT) _) (.inl rfl) _) hBW,(RH.drewN nq).keep (Keep.setRow (ah (nY BT) _) (.inl rfl) _) hBH,(K.drewN nq).setRow (.inr (by omega)) _⟩,by simp[intOf];omega⟩;rw[<-hst];exact oO (RV.drewN nq)
      ·have j1:decide ((j:Int)<64)=false:=by simp;omega
       have RV1:Row wr BT .u32 83 (Bc m h 64):=by
        have:j=64:=by omega
        rw[this]at RV;exact RV
       clear hlt hj RV RW LM lm;go_wp2_with fail;obtain⟨v,hv⟩:∃v,v=Bc m h 64:=⟨_,rfl⟩
       have LV:W32 v:=by rw[hv];exact W32.steps _ L _
       have lv:v.length=8:=by rw[hv,RY _ _ hl.out]
       rw[<-hv]at RV1;have Hv:=Lib.hid hv;have Hlv:=Lib.hid lv;clear hv lv;refine pK (λw1=>Row w1 BT .u32 83 v∧Row w1 H .u32 83 (FY v h 0)∧Keep (nY H) w w1) ⟨RV1,RH,K.vN⟩ ?_;clear RV1 RH K wr j1;intro w1 hw1
       go_loopw [197] (λi wr=>∃q:Nat,q<=8∧i= .int .i64 q∧Row wr BT .u32 83 v∧Row wr H .u32 83 (FY v h q)∧Keep (nY H) w wr) (λi _=>8-(intOf i).toNat)
       case atStart=>exact⟨0,by omega,rfl,hw1⟩
       case round=>
        clear hw1 w1;obtain⟨q,hq,rfl,RV,RH,K⟩:=hrel;by_cases hlt:q<8
        ·have j1:(q:Int)<8:=by omega
         obtain⟨g,hg⟩:∃g,g=FY v h q:=⟨_,rfl⟩
         have lg:g.length=8:=by rw[hg,Ws,hl.out]
         rw[<-hg]at RH;have Hg:=Lib.hid hg;clear hg;have c1:=RH.cell q (by omega);have c2:=RV.cell q (by rw[Hlv.out];omega);have f1:=RH.free q;clear lg;obtain⟨a1,ha1⟩:∃a,a=g.getD q 0:=⟨_,rfl⟩
         obtain⟨a2,ha2⟩:∃a,a=v.getD q 0:=⟨_,rfl⟩
         rw[<-ha1]at c1;rw[<-ha2]at c2;have A1:=Lib.hid ha1;have A2:=Lib.hid ha2;clear ha1 ha2;obtain⟨t1,T1,e1⟩:=add32 a1 a2;go_wp2_with fail;refine o6 11 (by kernel_rfl) (by kernel_rfl) ?_;simp only[bY,bZ,dh,cO]
         repeat(quiet_step (fail))
         refine dF ?_;intro nq;go_wp2_with fail;have hst:g.set q t1=FY v h (q+1):=by rw[FY,uY,<-FY,<-Hg.out,T1.out,A1.out,A2.out]
         refine⟨⟨q+1,by omega,by go_num,(RV.drewN nq).keep (Keep.set1 (ah _ _) _ _) (λe=>by simp only[nY]at e;omega),?_,(K.drewN nq).set1 _ _⟩,by simp[intOf];omega⟩;rw[<-hst];exact(RH.drewN nq).store q rfl
        ·have j1:decide ((q:Int)<8)=false:=by simp;omega
         have RH1:Row wr H .u32 83 (compress h (bs s)):=by
          have:q=8:=by omega
          rw[this,Hv.out,<-Hm.out]at RH;exact RH
         clear hlt hq RH;go_wp2_with fail;go_end0;exact⟨rfl,RH1,K⟩
theorem JX:(Tryz.prog.info? 5).map (λi=>(i.zero,i.size,i.bytes))=some (some (.int .u8 0),1,1):=by kernel_rfl
def hexDigit(x:Nat):Nat:=if x<10 then 48+x else 87+x
def zJ(l:List Nat):Nat->List Nat
 | 0=> []
 | k+1=>zJ l k++ [hexDigit (l.getD k 0/16),hexDigit (l.getD k 0 % 16)]
def hex(l:List Nat):List Nat:=zJ l l.length
theorem zhD(n:Nat)(h:n<16):(bs ⟨#[48,49,50,51,52,53,54,55,56,57,97,98,99,100,101,102]⟩).getD n 0=hexDigit n:=by
 have:∀i:Fin 16,(bs ⟨#[48,49,50,51,52,53,54,55,56,57,97,98,99,100,101,102]⟩).getD i.val 0=hexDigit i.val:=by decide
 exact this ⟨n,h⟩
theorem zoa(n:Nat)(h:n<256):bits .and .u8 (n:Int) 15=((n % 16:Nat):Int):=by
 have h8:∀c:Nat,c<256->(BitVec.ofInt 8 (c:Int)).toNat=c:=λc hc=>by rw[jI,jV];exact jw (by omega)
 show IntKind.u8.wrap ((BitVec.ofInt 8 (n:Int)&&&BitVec.ofInt 8 ((15:Nat):Int)).toNat:Int)=_;rw[BitVec.toNat_and,h8 n h,h8 15 (by omega),IntKind.wrap_u8]
 have:n&&&15=n % 16:=Nat.and_two_pow_sub_one_eq_mod n 4
 omega
theorem IC(l:List Nat)(k:Nat):(zJ l k).length=2*k:=by
 induction k with
 | zero=>rfl
 | succ k ih=>rw[zJ,ay,ih];simp only[aK,bI];omega
theorem zc3(s:af)(hs:s.size<=1000000)(w:World):
  Calls Tryz.prog 66 #[.string s] w λe w'=>e= .returned (.string (txt (hex (bs s))))∧Keep nM w w':=by
 obtain⟨i0,hi0,hz0,hz1,hz2⟩:=kG JX;go_enter Tryz.func66,Tryz.ntmps66;go_wp2;have hB:w.heap.size<=w.heap.size:=aF _
 go_loopw [3,7] (λv i wr=>∃k:Nat,k<=s.size∧i= .int .i64 k∧Keep nM w wr∧wr.ownsRow w.heap.size 5 1 v (zJ (bs s) k).length (zM (zJ (bs s) k))) (λ_ i _=>s.size-(intOf i).toNat)
 case atStart=>exact⟨0,by omega,rfl,ah _ _,kD _ _ _ _⟩
 case round=>
  obtain⟨k,hk,rfl,K,hown⟩:=hrel;by_cases hlt:k<s.size
  ·have j1:(k:Int)<s.size:=by omega
   have hb:s[k].toNat<256:=s[k].toNat_lt;have e15:bits BinOp.and IntKind.u8 (s[k].toNat:Int) 15=((s[k].toNat % 16:Nat):Int):=zoa _ hb;have hx1:=λwx=>Ib (P:=Tryz.prog) Tryz.underlying9 ⟨#[48,49,50,51,52,53,54,55,56,57,97,98,99,100,101,102]⟩ .u8 ((s[k].toNat:Int)/16) (s[k].toNat/16) (by omega) (by show _<16;omega) wx;have hx2:=λwx=>Ib (P:=Tryz.prog) Tryz.underlying9 ⟨#[48,49,50,51,52,53,54,55,56,57,97,98,99,100,101,102]⟩ .u8 ((s[k].toNat:Int) % 16) (s[k].toNat % 16) (by omega) (by show _<16;omega) wx;rw[zhD _ (by omega)]at hx1 hx2;rw[show((s[k].toNat % 16:Nat):Int)=(s[k].toNat:Int) % 16 by omega]at e15;clear hb;go_wp2_with fail;refine yR 11 [0,1,2,3,4,5,6,7,8,9,10] (by kernel_rfl) (by kernel_rfl) (λc a d v w h=>by cases d<;>exact h) ?_;rw[show Et 11 [0,1,2,3,4,5,6,7,8,9,10]= []from rfl];simp only[nR,aj,ak,au,dh,cO]
   repeat(refine zy (λK hK=> ?_);go_simp;refine hK _ ?_;clear hK K)
   refine AO ?_;refine dF ?_;intro nq;have hlen:(zJ (bs s) k).length=2*k:=IC _ _;have Hlen:=Lib.hid hlen;clear hlen hx1 hx2 e15;have zjF:(wr.drewN nq).ownsRow w.heap.size 5 1 u3 (zJ (bs s) k).length (zM (zJ (bs s) k)):=hown;go_wp2_with (first|(at_builtin;refine jJ _ rfl _ _ 33 rfl w.heap.size 5 i0 (.int .u8 0) 1 1 Tryz.underlying33 hi0 hz0 hz1 hz2 rfl (by decide) u3 _ _ rfl (zjF.alloc _) ⟨(wr.drewN nq).heap.size,0,none⟩ 2 2 _ rfl rfl (qj _ _ _) (znI _ _ _) (by rw[Hlen.out];unfold maxLen;omega) (by rw[Hlen.out];omega) (by have:=K.size;simp;omega) ?_;intro v' w' hown' hgrow _));have e2:zM (zJ (bs s) k)++ [Value.int .u8 (hexDigit (s[k].toNat/16):Nat),Value.int .u8 (hexDigit (s[k].toNat % 16):Nat)]=zM (zJ (bs s) (k+1)):=by rw[zJ,xG,bs_getD s k hlt];rfl
   have e3:(zJ (bs s) k).length+2=(zJ (bs s) (k+1)).length:=by rw[zJ,ay];rfl
   rw[e2,e3]at hown';have K2:Keep nM w w':=((K.drewN nq).alloc _).grown hgrow (λb hb=> .inr (hown.lt b hb).1);clear e2 e3 hgrow hown zjF;go_roundw
   case rel=>first|exact⟨k+1,by omega,by go_num,K2,hown'⟩|((repeat apply Exists.intro);exact⟨⟨k+1,by omega,by go_num,K2,hown'⟩,rfl⟩)
   case measure=>simp[intOf];omega
  ·obtain rfl:k=s.size:=by omega
   have hcv:=vM (P:=Tryz.prog) hown Tryz.underlying33 Tryz.underlying5 Tryz.underlying9;have hfin:zJ (bs s) s.size=hex (bs s):=by rw[hex,bs_len]
   rw[hfin]at hcv;clear hfin;go_wp2;go_ret;exact⟨rfl,K⟩
theorem G5(n k:Nat):zM (qU n k)++ [Value.int .u8 ((n/2^(8*(7-k)) % 256:Nat):Int)]=zM (qU n (k+1)):=by rw[qU,xG];rfl
theorem Rk(n k:Nat):(n:Int)/2^(8*(7-k)) % 256=((n/2^(8*(7-k)) % 256:Nat):Int):=by simp
theorem zcQ(n:Nat)(hn:n<9223372036854775808)(w:World):
  Calls Tryz.prog 26 #[.int .i64 n] w λe w'=>e= .returned (.string (txt (qB n)))∧Keep nM w w':=by
 obtain⟨i0,hi0,hz0,hz1,hz2⟩:=kG JX;have hn2:(n:Int)<=9223372036854775807:=by omega
 clear hn;go_enter Tryz.func26,Tryz.ntmps26;go_wp2
 go_loopw [3,4] (λv i wr=>∃k:Nat,k<=8∧i= .int .i64 (7-(k:Int))∧Keep nM w wr∧wr.ownsRow w.heap.size 5 1 v (qU n k).length (zM (qU n k))) (λ_ i _=>(intOf i+1).toNat)
 case atStart=>exact⟨0,by omega,rfl,ah _ _,kD _ _ _ _⟩
 case round=>
  obtain⟨k,hk,rfl,K,hown⟩:=hrel;by_cases hlt:k<8
  ·have j1:(0:Int)<=7-k:=by omega
   obtain⟨q,hq⟩:∃q,q=7-k:=⟨_,rfl⟩
   have hq2:(7:Int)-k=q:=by omega
   rw[hq2];have hq3:(0:Int)<=q:=by omega
   have hq4:(q:Int)<=7:=by omega
   have hq5:(8*(q:Int)).toNat=8*q:=by omega
   clear hq2 j1;have Hq:=Lib.hid hq;clear hq;have hlen:(qU n k).length=k:=ql _ _;have Hlen:=Lib.hid hlen;clear hlen;go_wp2_with (first|(at_builtin;refine jJ _ rfl _ _ 33 rfl w.heap.size 5 i0 (.int .u8 0) 1 1 Tryz.underlying33 hi0 hz0 hz1 hz2 rfl (by decide) u3 _ _ rfl (hown.alloc _) ⟨wr.heap.size,0,none⟩ 1 1 _ rfl rfl (qj _ _ _) (Yx _ _) (by rw[Hlen.out];unfold maxLen;omega) (by rw[Hlen.out];omega) (by have:=K.size;simp;omega) ?_;intro v' w' hown' hgrow _));have e2:zM (qU n k)++ [Value.int .u8 ((n:Int)/2^(8*q) % 256)]=zM (qU n (k+1)):=by rw[Hq.out,Rk,G5]
   have e3:(qU n k).length+1=(qU n (k+1)).length:=by rw[qU,ay];rfl
   rw[e2,e3]at hown';have K2:Keep nM w w':=(K.alloc _).grown hgrow (λb hb=> .inr (hown.lt b hb).1);have hq6:(q:Int)-1=7-((k+1:Nat):Int):=by rw[Hq.out];omega
   clear e2 e3 hgrow hown hq3 hq5;refine⟨⟨k+1,by omega,by rw[hq6],K2,hown'⟩,by simp[intOf]⟩
  ·obtain rfl:k=8:=by omega
   have hcv:=vM (P:=Tryz.prog) hown Tryz.underlying33 Tryz.underlying5 Tryz.underlying9;go_wp2_with fail;go_ret;exact⟨rfl,K⟩
def yY(s:List Nat)(k:Nat):List Nat:=s++ [128]++List.replicate k 0
theorem NJ(s:List Nat)(k:Nat):(yY s k).length=s.length+1+k:=by simp[yY];omega
theorem zbT(s:List Nat)(k:Nat):zM (yY s k)++ [Value.int .u8 0]=zM (yY s (k+1)):=by
 have e:yY s (k+1)=yY s k++ [0]:=by rw[yY,yY,List.replicate_succ',bu,bu,bu]
 rw[e,xG];rfl
theorem Fh(n k:Nat):Bytes (qU n k):=by
 induction k with
 | zero=>intro x hx;simp[qU]at hx
 | succ k ih=>
  rw[qU];refine bytes_append ih ?_;intro x hx;obtain rfl:x=_:=bD.1 hx;exact iM _ (by omega)
theorem XN(s:List Nat)(h:Bytes s):Bytes (padded s):=by
 rw[padded];refine bytes_append (bytes_append (bytes_append h ?_) ?_) (Fh _ _)
 ·intro x hx;obtain rfl:x=128:=bD.1 hx;omega
 ·intro x hx;obtain⟨_,rfl⟩:=iW.1 hx;omega
theorem sum_any(s:af)(hs:s.size<=100000)(w:World)(V:oG w):
  Calls Tryz.prog 27 #[.string s] w λe w'=>e= .returned (.string (txt (sha (bs s))))∧Keep nM w w':=by
 obtain⟨i0,hi0,hz0,hz1,hz2⟩:=kG JX;have hR:0<w.heap.size:=by
  rcases lK 0 w.heap.size with h'|h'
  ·exact h'
  ·have:=V 0 (by omega);simp[World.cell?,dU h']at this
 have hcv:=λw=>jh (P:=Tryz.prog) w 9 33 5 s Tryz.underlying9 Tryz.underlying33 Tryz.underlying5;have hi8:(Tryz.prog.info? 83).map (·.size)=some (ints .u32 zS).size:=by kernel_rfl
 have Hi8:=Lib.hid hi8;clear hi8;go_enter Tryz.func27,Tryz.ntmps27;have hl0:(bs s).length=s.size:=bs_len s;have Hl0:=Lib.hid hl0;clear hl0;go_wp2_with (first|(refine oH rfl 83 _ _ rfl w.heap.size 83 _ (ints .u32 zS) rfl rfl (aG w _) Hi8.out 8 rfl rfl (KH _ _) ?_;refine o8 (λw1=>Row w1 w.heap.size .u32 83 zS∧Keep nM w w1∧w.heap.size+1<=w1.heap.size) ⟨oO (aG w _),((ah nM w).alloc _).setRow (.inr (aF _)) _,by simp[World.setRow]⟩ ?_;intro w1 hw1;obtain⟨RH,K,hsz⟩:=hw1)|(at_builtin;refine qc _ rfl _ _ 33 rfl (w.heap.size+1) 5 i0 (.int .u8 0) 1 1 Tryz.underlying33 hi0 hz0 hz1 hz2 rfl (by decide) _ s.size (zM (bs s)) rfl ((nV.ofBytes w1 (w.heap.size+1) 5 s hsz (by omega)).alloc _) ⟨(Lib.bytesWorld w1 5 s).heap.size,0,none⟩ 1 1 [.int .u8 128] rfl rfl (qj _ _ _) (Yx _ _) (by unfold maxLen;omega) (by omega) (by have:=Lib.bytesWorld_size w1 5 s;simp;omega) ?_;intro v1 w2 hown1 hgrow1));have K2:Keep nM w w2:=((K.bytesWorld _ _).alloc _).grown hgrow1 (λb hb=>by obtain rfl:w1.heap.size=b:=aH hb;exact .inr (by omega))
 have RH2:Row w2 w.heap.size .u32 83 zS:=(((RH.keep ((ah nM w1).bytesWorld _ _) (λx=>x)).alloc _)).grown hgrow1 (λe=>by
  have:w.heap.size=w1.heap.size:=aH e
  omega)
 have hown2:nV w2 (w.heap.size+1) 5 1 v1 (yY (bs s) 0).length (zM (yY (bs s) 0)):=by rw[NJ,Hl0.out,yY,List.replicate_zero,dJ,xG];exact hown1
 clear hown1 hgrow1 hcv RH K hsz Hi8
 go_loopw [4] (λv wr=>∃k:Nat,k<=Un s.size∧nV wr (w.heap.size+1) 5 1 v (yY (bs s) k).length (zM (yY (bs s) k))∧Row wr w.heap.size .u32 83 zS∧Keep nM w wr) (λv _=>match v with| .slice _ n _=>200000-n|_=>0)
 case atStart=>exact⟨0,by omega,hown2,RH2,K2⟩
 case round=>
  clear hown2 RH2 K2 w2;obtain⟨k,hk,hown,RH,K⟩:=hrel;have hkz:k<=64:=by have:Un s.size<64:=iM _ (by omega);omega
  have hlen:(yY (bs s) k).length=s.size+1+k:=by rw[NJ,Hl0.out]
  have Hlen:=Lib.hid hlen;obtain⟨g,cap,rfl,hg,hcap⟩:=hown.some (by rw[hlen];omega);obtain⟨n,hn⟩:∃n,n=(yY (bs s) k).length:=⟨_,rfl⟩
  rw[<-hn]at hown hcap;rw[<-hn];have hn1:n=s.size+1+k:=by rw[hn,hlen]
  have Hn:=Lib.hid hn;clear hlen hn;by_cases hlt:k<Un s.size
  ·have j1:((n:Int) % 64 !=56)=true:=by
    unfold Un at hlt;simp only[bne_iff_ne,ne_eq];omega
   have hn2:n<=100100:=by omega
   have Hn1:=Lib.hid hn1;clear hn1;go_wp2_with (first|(at_builtin;refine qc _ rfl _ _ 33 rfl (w.heap.size+1) 5 i0 (.int .u8 0) 1 1 Tryz.underlying33 hi0 hz0 hz1 hz2 rfl (by decide) _ n _ rfl (hown.alloc _) ⟨wr.heap.size,0,none⟩ 1 1 [.int .u8 0] rfl rfl (qj _ _ _) (Yx _ _) (by unfold maxLen;omega) (by omega) (by have:=RH.lt;simp;omega) ?_;intro v1 w2 hown1 hgrow1));have K2:Keep nM w w2:=(K.alloc _).grown hgrow1 (λb hb=>by obtain rfl:g=b:=aH hb;exact .inr (by omega))
   have RH2:Row w2 w.heap.size .u32 83 zS:=(RH.alloc _).grown hgrow1 (λe=>by
    have:w.heap.size=g:=aH e
    omega)
   have hown2:nV w2 (w.heap.size+1) 5 1 v1 (yY (bs s) (k+1)).length (zM (yY (bs s) (k+1))):=by rw[<-zbT,NJ,Hl0.out,show s.size+1+(k+1)=n+1 by rw[Hn1.out];omega];exact hown1
   clear hgrow1 hown;obtain⟨g2,cap2,rfl,_,_⟩:=hown1.some (by omega);clear hown1;refine⟨⟨k+1,by omega,hown2,RH2,K2⟩,?_⟩;show 200000-(n+1)<200000-n;omega
  ·have j1:((n:Int) % 64 !=56)=false:=by
    have e:k=Un s.size:=by omega
    unfold Un at e;simp only[bne_eq_false_iff_eq];omega
   have hn2:n<=100100:=by omega
   have zmw:k=Un s.size:=by omega
   obtain⟨N8,hN8⟩:∃N,N=8*s.size:=⟨_,rfl⟩
   have e8:(s.size:Int)*8=N8:=by omega
   have b8:(N8:Int)<=800000:=by omega
   have HN8:=Lib.hid hN8;have znr:=Lib.hid zmw;have Hn1:=Lib.hid hn1;clear hn1 hN8 zmw hlt hk hkz;obtain⟨l1,hl1⟩:∃l,l=yY (bs s) k:=⟨_,rfl⟩
   rw[<-hl1]at hown;have Hl1:=Lib.hid hl1;clear hl1;go_wp2_with fail;refine pK (λw1=>Row w1 w.heap.size .u32 83 zS∧Keep nM w w1∧nV w1 (w.heap.size+1) 5 1 (.slice (some ⟨g,0,none⟩) n cap) (n+0) (zM (l1++qU N8 0))) ⟨RH,K,by rw[qU,dJ];exact hown⟩ ?_;clear RH K hown;intro w3 hw3
   go_loopw [4,6] (λv i wr=>∃k:Nat,k<=8∧i= .int .i64 (7-(k:Int))∧Row wr w.heap.size .u32 83 zS∧Keep nM w wr∧nV wr (w.heap.size+1) 5 1 v (n+k) (zM (l1++qU N8 k))) (λ_ i _=>(intOf i+1).toNat)
   case atStart=>exact⟨0,by omega,rfl,hw3⟩
   case round=>
    clear hw3 w3;obtain⟨k2,hk2,rfl,RH,K,hown⟩:=hrel;by_cases hlt:k2<8
    ·obtain⟨g1,cap1,rfl,hg1,hcap1⟩:=hown.some (by rw[Hn1.out];omega);obtain⟨q,hq⟩:∃q,q=7-k2:=⟨_,rfl⟩
     have hq2:(7:Int)-k2=q:=by omega
     rw[hq2];have hq3:(0:Int)<=q:=by omega
     have hq4:(q:Int)<=7:=by omega
     have hq5:(8*(q:Int)).toNat=8*q:=by omega
     clear hq2;have Hq:=Lib.hid hq;clear hq;go_wp2_with (first|(at_builtin;refine qc _ rfl _ _ 33 rfl (w.heap.size+1) 5 i0 (.int .u8 0) 1 1 Tryz.underlying33 hi0 hz0 hz1 hz2 rfl (by decide) _ (n+k2) _ rfl (hown.alloc _) ⟨wr.heap.size,0,none⟩ 1 1 _ rfl rfl (qj _ _ _) (Yx _ _) (by unfold maxLen;omega) (by omega) (by have:=RH.lt;simp;omega) ?_;intro v1 w2 hown1 hgrow1));have K2:Keep nM w w2:=(K.alloc _).grown hgrow1 (λb hb=>by obtain rfl:g1=b:=aH hb;exact .inr (by omega))
     have RH2:Row w2 w.heap.size .u32 83 zS:=(RH.alloc _).grown hgrow1 (λe=>by
      have:w.heap.size=g1:=aH e
      omega)
     have hown2:nV w2 (w.heap.size+1) 5 1 v1 (n+(k2+1)) (zM (l1++qU N8 (k2+1))):=by rw[Hq.out,Rk]at hown1;rw[xG,<-G5,<-bu,<-xG];exact hown1
     have hq6:(q:Int)-1=7-((k2+1:Nat):Int):=by rw[Hq.out];omega
     clear hgrow1 hown hown1 hq3 hq5;exact⟨⟨k2+1,by omega,by rw[hq6],RH2,K2,hown2⟩,by simp[intOf]⟩
    ·have hp:zM (l1++qU N8 8)=zM (padded (bs s)):=by
      rw[Hl1.out,znr.out,HN8.out,yY,padded,qB,Hl0.out]
     have hpl:(padded (bs s)).length=n+8:=by rw[SK,Hl0.out,Hn1.out,znr.out];omega
     have hk8:k2=8:=by omega
     have hk9:(7:Int)-k2= -1:=by omega
     rw[hk8]at hown;rw[hk9];clear hk9;obtain⟨p,hpp⟩:∃p,p=padded (bs s):=⟨_,rfl⟩
     have zoT:p.length % 64=0:=by rw[hpp];exact zbS _
     have hpb:Bytes p:=by rw[hpp];exact XN _ (zq s)
     rw[hp,<-hpp]at hown;rw[<-hpp]at hpl;have Hpp:=Lib.hid hpp;clear hp hpp hk8 hlt hk2;obtain⟨g1,cap1,rfl,hg1,hcap1⟩:=hown.some (by omega);obtain⟨m,hm⟩:∃m,m=p.length/64:=⟨_,rfl⟩
     have zh9:p.length=64*m:=by omega
     have hnm:n+8=64*m:=by omega
     rw[hnm]at hown hcap1;rw[hnm];rw[<-zh9]at hown;have RP:=vP.vN hown;rw[zh9]at hown;have Hm:=Lib.hid hm;have znn:=Lib.hid zh9;have Hnm:=Lib.hid hnm;have hm2:m<=2000:=by omega
     clear hm zh9 hnm hpl hown zoT;go_wp2_with fail;refine pK (λw1=>vP w1 g1 5 p∧Row w1 w.heap.size .u32 83 (zt p 0)∧Keep nM w w1) ⟨RP,RH,K⟩ ?_;clear RH K RP;intro w3 hw3
     go_loopw [7] (λi wr=>∃k:Nat,k<=m∧i= .int .i64 (64*(k:Int))∧vP wr g1 5 p∧Row wr w.heap.size .u32 83 (zt p k)∧Keep nM w wr) (λi _=>(64*m-(intOf i).toNat))
     case atStart=>exact⟨0,by omega,rfl,hw3⟩
     case round=>
      clear hw3 w3;obtain⟨k3,hk3,rfl,RP,RH,K⟩:=hrel;by_cases hlt:k3<m
      ·have hs1:=P7 (P:=Tryz.prog) (off:=64*k3) (k:=64) (cap:=cap1-64*k3) RP (by rw[znn.out];omega) Tryz.underlying33 Tryz.underlying5 Tryz.underlying9;obtain⟨c,hc⟩:∃c,c=64*k3:=⟨_,rfl⟩
       have hc2:64*(k3:Int)=c:=by omega
       have hc3:c+64<=64*m:=by omega
       have hc4:(c:Int)+64<=64*(m:Int):=by omega
       have hc5:(c:Int)<64*(m:Int):=by omega
       rw[hc2];rw[<-hc]at hs1;obtain⟨T,hT⟩:∃T,T=txt ((p.drop c).take 64):=⟨_,rfl⟩
       rw[<-hT]at hs1;have HT:=Lib.hid hT;have Hc:=Lib.hid hc;have Hc2:=Lib.hid hc2;clear hT hc hc2;go_wp2_with fail;have hTs:Hid (T.size=64):=by show T.size=64;rw[HT.out,oU,bG,gV,znn.out];omega
       have hbT:bs T=(p.drop (64*k3)).take 64:=by rw[HT.out,qw (zX (TD hpb _) _),Hc.out]
       refine(XA w.heap.size (zt p k3) T hTs (Lib.hid (Md p k3)) (W32.blocks p k3) wr RH (V.keep K (λx=>x)) (by omega)).mono ?_;rintro e w4 ⟨rfl,RH4,K4⟩;have RP4:=RP.keep K4 (λe=>by simp only[nY]at e;omega);have K5:Keep nM w w4:=K.trans K4 (λi hi e=>by simp only[nY]at e;omega);have RH5:Row w4 w.heap.size .u32 83 (zt p (k3+1)):=by rw[hbT]at RH4;exact RH4
       clear RP RH RH4 K K4 hbT hs1;go_wp2_with fail;have hc6:(c:Int)+64=64*((k3+1:Nat):Int):=by rw[Hc.out];omega
       exact⟨⟨k3+1,by omega,by rw[hc6],RP4,RH5,K5⟩,by simp[intOf];omega⟩
      ·have hk:k3=m:=by omega
       rw[hk]at RH;rw[hk];rw[Hm.out,Hpp.out]at RH;obtain⟨h,hh⟩:∃h,h=zt (padded (bs s)) ((padded (bs s)).length/64):=⟨_,rfl⟩
       have hl8:h.length=8:=by rw[hh,Md]
       have W:W32 h:=by rw[hh];exact W32.blocks _ _
       rw[<-hh]at RH;have Hh:=Lib.hid hh;have Hl8:=Lib.hid hl8;have hi8:(Tryz.prog.info? 83).map (·.size)=some (ints .u32 h).size:=by rw[BQ,hl8];kernel_rfl
       have Hi8:=Lib.hid hi8;clear hh hl8 hi8 hlt hk hk3;go_wp2_with (first|(refine jD rfl 83 _ rfl w.heap.size rfl 83 (ints .u32 h) (0,0) _ RH Tryz.underlying83 rfl Hi8.out ?_));clear RP Hi8;refine pK (λw1=>Keep nM w w1) K ?_;clear K RH;intro w5 K5
       go_loopw [8,54] (λv i wr=>∃k:Nat,k<=8∧i= .int .i64 k∧Keep nM w wr∧wr.ownsRow w.heap.size 5 1 v (sF h k).length (zM (sF h k))) (λ_ i _=>8-(intOf i).toNat)
       case atStart=>exact⟨0,by omega,rfl,K5,kD _ _ _ _⟩
       case round=>
        clear K5 w5;obtain⟨k4,hk4,rfl,K,hown⟩:=hrel;by_cases hlt:k4<8
        ·have j1:(k4:Int)<8:=by omega
         have hix:=Ic (P:=Tryz.prog) (kd:= .u32) Tryz.underlying83 Tryz.underlying82 rfl (by kernel_rfl) h k4 Hl8.out hlt;obtain⟨x,hx⟩:∃x,x=h.getD k4 0:=⟨_,rfl⟩
         have bx:(x:Int)<4294967296:=by have:=W k4;rw[hx];omega
         rw[<-hx]at hix;have Hx:=Lib.hid hx;clear hx;have hlen:(sF h k4).length=4*k4:=Fb _ _;have Hlen:=Lib.hid hlen;clear hlen;go_wp2_with (first|(at_builtin;refine jJ _ rfl _ _ 33 rfl w.heap.size 5 i0 (.int .u8 0) 1 1 Tryz.underlying33 hi0 hz0 hz1 hz2 rfl (by decide) _ _ _ rfl (hown.alloc _) ⟨wr.heap.size,0,none⟩ 4 4 _ rfl rfl (qj _ _ _) (zjx _ _ _ _ _) (by rw[Hlen.out];unfold maxLen;omega) (by rw[Hlen.out];omega) (by have:=K.size;simp;omega) ?_;intro v' w' hown' hgrow _));have e2:zM (sF h k4)++ [Value.int .u8 ((x:Int)/16777216),Value.int .u8 ((x:Int)/65536 % 256),Value.int .u8 ((x:Int)/256 % 256),Value.int .u8 ((x:Int) % 256)]=zM (sF h (k4+1)):=by rw[sF,sF,uY,<-sF,xG,<-Hx.out,show(x:Int)/16777216=((x/16777216 % 256:Nat):Int)by omega];rfl
         have e3:(sF h k4).length+4=(sF h (k4+1)).length:=by rw[Hlen.out,Fb];omega
         rw[e2,e3]at hown';have K2:Keep nM w w':=(K.alloc _).grown hgrow (λb hb=> .inr (hown.lt b hb).1);clear e2 e3 hgrow hown;exact⟨⟨k4+1,by omega,by go_num,K2,hown'⟩,by simp[intOf];omega⟩
        ·have hk:k4=8:=by omega
         rw[hk]at hown;have hcv:=vM (P:=Tryz.prog) hown Tryz.underlying33 Tryz.underlying5 Tryz.underlying9;have j1:decide ((k4:Int)<8)=false:=by simp;omega
         have zme:sF h 8=sha (bs s):=by rw[Hh.out,sha]
         rw[zme]at hcv;clear hk hlt hk4 zme;clear hown;go_wp2_with fail;go_ret;exact⟨rfl,K⟩
theorem I7(kind:Nat)(l:List (List Nat))(k:Nat)(hk:k<l.length):pV kind (l.take (k+1))=pV kind (l.take k)++qB (l.getD k []).length++l.getD k []:=by
 have e:l.take (k+1)=l.take k++ [l.getD k []]:=by rw[aT hk,ax,aC hk];rfl
 rw[e,pV,pV,jK];rfl
theorem Bi(kind:Nat)(l:List (List Nat))(k:Nat):(pV kind (l.take k)).length<=(pV kind l).length:=by
 by_cases hk:k<l.length
 ·have h1:=Bi kind l (k+1);rw[I7 kind l k hk,ay,ay]at h1;omega
 ·rw[aV (by omega)];exact aF _
 termination_by l.length-k
theorem TU(h:List Nat)(k:Nat):Bytes (sF h k):=by
 induction k with
 | zero=>intro x hx;simp[sF,times]at hx
 | succ k ih=>
  rw[sF,uY,<-sF];refine bytes_append ih ?_;intro x hx;simp only[WY,bK,iJ,jY]at hx;rcases hx with rfl|rfl|rfl|rfl<;>exact iM _ (by omega)
theorem NF(s:List Nat):Bytes (sha s):=TU _ _
theorem xC(kind:Nat)(hkd:kind<256)(v:Value)(l:List af)(w:World)(V:oG w)(S:Strs w v l)(hb:(pV kind (l.map bs)).length<=100000)(hl:l.length<=100000):
  Calls Tryz.prog 13 #[.int .u8 kind,v] w λe w'=>e= .returned (.string (txt (mark kind (l.map bs))))∧Keep nM w w':=by
 obtain⟨p,c,rfl⟩:=S.len;have hso:=λw=>TS (P:=Tryz.prog) w (E:=5) Tryz.underlying33 Tryz.underlying5 Tryz.underlying9 (kind:Int) kind rfl;have Hb:=Lib.hid hb;clear hb;obtain⟨n,hn⟩:∃n,n=l.length:=⟨_,rfl⟩
 rw[<-hn]at S hl;rw[<-hn];have Hn:=Lib.hid hn;clear hn;go_enter Tryz.func13,Tryz.ntmps13;go_wp2_with fail;clear hso;refine pK (λw1=>Keep nM w w1) ((ah nM w).alloc _) ?_;intro w1 hw1
 go_loopw [5,13] (λs i wr=>∃(k:Nat) (A:af),k<=n∧i= .int .i64 k∧s= .string A∧Hid (bs A=pV kind ((l.map bs).take k))∧Keep nM w wr) (λ_ i _=>n-(intOf i).toNat)
 case atStart=>exact⟨0,_,by omega,rfl,rfl,by show bs (txt [kind])= [kind];exact qw (λx hx=>by obtain rfl:x=kind:=bD.1 hx;exact hkd),hw1⟩
 case round=>
  clear hw1 w1;obtain⟨k,A,hk,rfl,rfl,hA,K⟩:=hrel;have hAs:A.size<=100000:=by have:=Bi kind (l.map bs) k;rw[<-hA.out,bs_len]at this;have:=Hb.out;omega
  by_cases hlt:k<n
  ·have j1:(k:Int)<n:=by omega
   have S1:=S.keep K (λ_ _ x=>x);obtain⟨B,off,rfl,hnl,hB,hc⟩:=S1.at (by have:=Hn.out;omega);have hck:=hc k (by have:=Hn.out;omega);clear hc S1 hnl;obtain⟨q,hq⟩:∃q,q=l.getD k ⟨#[]⟩:=⟨_,rfl⟩
   rw[<-hq]at hck;have hqe:(l.map bs).getD k []=bs q:=by rw[hq,ax,bC,ax];cases l[k]? <;>rfl
   have hstep:=I7 kind (l.map bs) k (by rw[aI];have:=Hn.out;omega);rw[hqe,<-hA.out,bs_len]at hstep;have hlen2:=Bi kind (l.map bs) (k+1);rw[hstep,ay,ay,bs_len,bs_len,qB,ql]at hlen2;have hqs:q.size<=100000:=by have:=Hb.out;omega
   have Hq:=Lib.hid hq;have Hst:=Lib.hid hstep;clear hq hqe hstep hlen2;go_wp2_with fail;refine(zcQ q.size (by omega) _).mono ?_;rintro e w2 ⟨rfl,K2⟩;have hbe:(txt (qB q.size)).size=8:=by rw[oU,qB,ql]
   have zfO:¬(9223372036854775807<(txt (qB q.size)).size+q.size):=by rw[hbe];omega
   have Yz:¬(9223372036854775807<A.size+(txt (qB q.size)++q).size):=by rw[aX,hbe];omega
   have HA2:Hid (bs (A++(txt (qB q.size)++q))=pV kind ((l.map bs).take (k+1))):=by show bs _=_;rw[Hst.out,tN,tN,qw (show Bytes (qB q.size)from Fh _ _),bu]
   clear hbe;go_wp2_with fail;clear zfO Yz hck;exact⟨⟨k+1,_,by omega,by go_num,rfl,HA2,K.nK K2⟩,by simp[intOf];omega⟩
  ·have hk2:k=n:=by omega
   have j1:decide (k<n)=false:=by simp;omega
   have hA2:bs A=pV kind (l.map bs):=by rw[hA.out,hk2,Hn.out,aV (by rw[aI];exact aF _)]
   have HA2:=Lib.hid hA2;clear hlt hk hk2 hA2;go_wp2_with fail;refine(sum_any A hAs wr (V.keep K (λx=>x))).mono ?_;rw[HA2.out];rintro e w2 ⟨rfl,K2⟩;obtain⟨T,hT⟩:∃T,T=txt (sha (pV kind (l.map bs))):=⟨_,rfl⟩
   have hTs:(16:Int)<=T.size:=by rw[hT,oU,yB];omega
   have hTe:T.extract 0 16=txt (mark kind (l.map bs)):=by apply xy;rw[pY,hT,qw (NF _),cO,mark,qw (zX (NF _) _)]
   rw[<-hT];have HT:=Lib.hid hT;have HTe:=Lib.hid hTe;clear hT hTe;go_wp2_with fail;go_ret;exact⟨dK (λt=>Ending.returned (.string t)) HTe.out,K.nK K2⟩
structure Two(T:TypeId)(w wr:World)(v u:Value)(a b:List Nat):Prop where
 left:nV wr w.heap.size T 1 v a.length (cellsOf .u64 a)
 right:nV wr w.heap.size T 1 u b.length (cellsOf .u64 b)
 apart:∀c,v.ownBlock=some c->u.ownBlock≠some c
 keep:Keep nM w wr
theorem Two.swap{T:TypeId}{w wr:World}{v u:Value}{a b:List Nat}(h:Two T w wr v u a b):Two T w wr u v b a:=
 ⟨h.right,h.left,λc h1 h2=>h.apart c h2 h1,h.keep⟩
def uf(i:Int):Nat:=(i % 18446744073709551616).toNat
theorem zdF(i:Int):i % 18446744073709551616=(uf i:Int):=by unfold uf;omega
theorem YN(n:Nat)(h:n<18446744073709551616):uf n=n:=by unfold uf;omega
theorem num_int(i:Int)(w:World):
  Calls Tryz.prog 26 #[.int .i64 i] w λe w'=>e= .returned (.string (txt (qB (uf i))))∧Keep nM w w':=by
 obtain⟨i0,hi0,hz0,hz1,hz2⟩:=kG JX;have hu:IntKind.u64.wrap i=(uf i:Int):=by rw[IntKind.wrap_u64];exact zdF i
 obtain⟨n,hn⟩:∃n,n=uf i:=⟨_,rfl⟩
 rw[<-hn];rw[<-hn]at hu;clear hn;go_enter Tryz.func26,Tryz.ntmps26;go_wp2
 go_loopw [3,4] (λv i wr=>∃k:Nat,k<=8∧i= .int .i64 (7-(k:Int))∧Keep nM w wr∧wr.ownsRow w.heap.size 5 1 v (qU n k).length (zM (qU n k))) (λ_ i _=>(intOf i+1).toNat)
 case atStart=>exact⟨0,by omega,rfl,ah _ _,kD _ _ _ _⟩
 case round=>
  obtain⟨k,hk,rfl,K,hown⟩:=hrel;by_cases hlt:k<8
  ·have j1:(0:Int)<=7-k:=by omega
   obtain⟨q,hq⟩:∃q,q=7-k:=⟨_,rfl⟩
   have hq2:(7:Int)-k=q:=by omega
   rw[hq2];have hq3:(0:Int)<=q:=by omega
   have hq4:(q:Int)<=7:=by omega
   have hq5:(8*(q:Int)).toNat=8*q:=by omega
   clear hq2 j1;have Hq:=Lib.hid hq;clear hq;have hlen:(qU n k).length=k:=ql _ _;have Hlen:=Lib.hid hlen;clear hlen;go_wp2_with (first|(at_builtin;refine jJ _ rfl _ _ 33 rfl w.heap.size 5 i0 (.int .u8 0) 1 1 Tryz.underlying33 hi0 hz0 hz1 hz2 rfl (by decide) u3 _ _ rfl (hown.alloc _) ⟨wr.heap.size,0,none⟩ 1 1 _ rfl rfl (qj _ _ _) (Yx _ _) (by rw[Hlen.out];unfold maxLen;omega) (by rw[Hlen.out];omega) (by have:=K.size;simp;omega) ?_;intro v' w' hown' hgrow _));have e2:zM (qU n k)++ [Value.int .u8 ((n:Int)/2^(8*q) % 256)]=zM (qU n (k+1)):=by rw[Hq.out,Rk,G5]
   have e3:(qU n k).length+1=(qU n (k+1)).length:=by rw[qU,ay];rfl
   rw[e2,e3]at hown';have K2:Keep nM w w':=(K.alloc _).grown hgrow (λb hb=> .inr (hown.lt b hb).1);have hq6:(q:Int)-1=7-((k+1:Nat):Int):=by rw[Hq.out];omega
   clear e2 e3 hgrow hown hq3 hq5;refine⟨⟨k+1,by omega,by rw[hq6],K2,hown'⟩,by simp[intOf]⟩
  ·obtain rfl:k=8:=by omega
   have hcv:=vM (P:=Tryz.prog) hown Tryz.underlying33 Tryz.underlying5 Tryz.underlying9;go_wp2_with fail;go_ret;exact⟨rfl,K⟩
def strCells(l:List af):List Value:=l.map Value.string
def upto{α:Type}(f:Nat->α)(k:Nat):List α:=(List.range k).map f
theorem upto_succ{α:Type}(f:Nat->α)(k:Nat):upto f (k+1)=upto f k++ [f k]:=by simp[upto,mF]
theorem upto_length{α:Type}(f:Nat->α)(k:Nat):(upto f k).length=k:=by simp[upto]
theorem nV.at{w:World}{base:Nat}{E:TypeId}{v:Value}{n:Nat}{xs:List Value}(h:nV w base E 1 v n xs)(hn:0<n):∃g cap,v= .slice (Option.some ⟨g,0,none⟩) n cap∧g<w.heap.size∧(∀i u,xs[i]? =Option.some u->w.cell? ⟨g,i,none⟩=Option.some u)∧∀i,i<n->w.frozen? ⟨g,i,none⟩=false:=by
 rcases h.2 with⟨_,h0⟩|⟨g,cap,cur,fz,hv,hb,hg,hf,hc,hm,hs,ht⟩
 ·omega
 ·refine⟨g,cap,hv,lt_of_heap hg,λi u hu=> ?_,λi hi=> ?_⟩
  ·have:=h.cells (g:=g) (by rw[hv];rfl) i u hu;have hadd:(⟨g,0,none⟩:Addr).add i=⟨g,0+i,none⟩:=by unfold Addr.add;split<;>simp_all
   rwa [hadd,dM]at this
  ·have:=hf i (by rw[hs];omega);obtain⟨lo,hi'⟩:=fz
   simpa [World.frozen?,hg]using this
theorem Po:(Tryz.prog.info? 9).map (λi=>(i.zero,i.size,i.bytes))=some (some (.string ⟨#[]⟩),1,16):=by kernel_rfl
theorem Kq{w:World}{base:Nat}{E:TypeId}{v:Value}{l:List af}(h:nV w base E 1 v l.length (strCells l)):Strs w v l:=by
 by_cases h0:0<l.length
 ·obtain⟨g,cap,rfl,hg,hc,_⟩:=h.at h0;refine .inr ⟨g,0,cap,rfl,hg,λi hi=> ?_⟩;rw[dM];exact hc i _ (by rw[strCells,bC,ax,aC hi];rfl)
 ·have hnil:l= []:=aU (by omega);subst hnil;rcases h.2 with⟨hv,_⟩|⟨g,cap,cur,fz,hv,_⟩
  ·exact .inl ⟨rfl,_,_,hv⟩
  ·exact .inl ⟨rfl,_,_,hv⟩
theorem UU(g:FuncId)(p:af->Bool)(hp:∀s w,Calls Tryz.prog g #[.string s] w λe w'=>e= .returned (.bool (p s))∧w'=w)(eg:∀args w,(callFunc g args).run Tryz.prog w= .ok (.enter g args) w)(v:Value)(l:List af)(w:World)(S:Strs w v l)(hl:l.length<=1000000):
  Calls Tryz.prog 254 #[v,.func (.func g) #[] #[]] w λe w'=>(∃i:Int,e= .returned (.int .i64 i)∧decide (0<=i)=l.any p)∧w'=w:=by
 obtain⟨a,c,rfl⟩:=S.len;obtain⟨n,hn⟩:∃n,n=l.length:=⟨_,rfl⟩
 rw[<-hn]at S hl;rw[<-hn];have Hn:=Lib.hid hn;clear hn;go_enter Tryz.func254,Tryz.ntmps254;go_wp2_with fail
 go_loop [8] (λi=>∃k:Nat,k<=n∧i= .int .i64 k∧(l.take k).any p=false) (λi=>n-(intOf i).toNat)
 case atStart=>exact⟨0,by omega,rfl,rfl⟩
 case round=>
  obtain⟨k,hk,rfl,hpre⟩:=hrel;by_cases hlt:k<n
  ·have j1:decide (k<n)=true:=by simp;omega
   obtain⟨b,off,rfl,hnl,hb,hcell⟩:=S.at (by have:=Hn.out;omega);have hck:=hcell k (by have:=Hn.out;omega);obtain⟨s,hs⟩:∃s,s=l.getD k ⟨#[]⟩:=⟨_,rfl⟩
   rw[<-hs]at hck;have hks:(l.take (k+1)).any p=p s:=by rw[aT (by have:=Hn.out;omega),List.any_append,hpre,hs,ax,aC (by have:=Hn.out;omega)];simp
   have Hks:=Lib.hid hks;have zpA:=Lib.hid hpre;have hj:(k:Int)<n:=by omega
   clear hcell hs hks hpre hnl;go_wp2_with fail;refine(hp s w).mono ?_;rintro e w' ⟨rfl,hw⟩;subst w';cases hps:p s with
   | true=>
    rw[hps]at Hks;clear hps;go_wp2_with fail;go_ret;refine⟨⟨(k:Int),rfl,?_⟩,rfl⟩;have h1:=Hks.out;rw[iI]at h1;obtain⟨y,hy,hpy⟩:=h1;have h2:l.any p=true:=iI.2 ⟨y,dH hy,hpy⟩;rw[h2];simp
   | false=>
    rw[hps]at Hks;clear hps;go_wp2_with fail;exact⟨⟨k+1,by omega,by go_num,Hks.out⟩,by simp[intOf];omega⟩
  ·obtain rfl:k=n:=by omega
   have hall:l.any p=false:=by rw[<-hpre,aV (by rw[<-Hn.out];exact aF _)]
   have j1:decide (k<k)=false:=by simp
   have zaX:=Lib.hid hall;clear hall hpre;go_wp2_with fail;go_ret;exact⟨⟨-1,rfl,by rw[zaX.out];rfl⟩,rfl⟩
theorem Oi(g:FuncId)(p:af->Bool)(hp:∀s w,Calls Tryz.prog g #[.string s] w λe w'=>e= .returned (.bool (p s))∧w'=w)(eg:∀args w,(callFunc g args).run Tryz.prog w= .ok (.enter g args) w)(v:Value)(l:List af)(w:World)(S:Strs w v l)(hl:l.length<=1000000):
  Calls Tryz.prog 219 #[v,.func (.func g) #[] #[]] w λe w'=>e= .returned (.bool (l.any p))∧w'=w:=by
 have hi:=UU g p hp eg v l w S hl;obtain⟨a,c,rfl⟩:=S.len;generalize l.any p=b at hi⊢;clear hp eg;go_enter Tryz.func219,Tryz.ntmps219;go_wp2_with fail;refine hi.mono ?_;clear hi;rintro e w' ⟨⟨i,rfl,hd⟩,hw⟩;subst w';go_wp2_with fail;go_ret
 first|exact⟨dK (λb=>Ending.returned (.bool b)) hd,rfl⟩|exact⟨rfl,rfl⟩
theorem ofInt_u32(a:Nat)(ha:a<4294967296):(BitVec.ofInt 32 (a:Int)).toNat=a:=by rw[jI,jV];exact jw (by omega)
theorem u32_or(a b:Nat)(ha:a<4294967296)(hb:b<4294967296):bits .or .u32 (a:Int) (b:Int)=((a|||b:Nat):Int):=by have hx:a|||b<2^32:=kC (by omega) (by omega);show IntKind.u32.wrap ((BitVec.ofInt 32 (a:Int)|||BitVec.ofInt 32 (b:Int)).toNat:Int)=_;rw[BitVec.toNat_or,ofInt_u32 a ha,ofInt_u32 b hb,jS];omega
theorem u32_xor(a b:Nat)(ha:a<4294967296)(hb:b<4294967296):bits .xor .u32 (a:Int) (b:Int)=((a^^^b:Nat):Int):=by have hx:a^^^b<2^32:=jB (by omega) (by omega);show IntKind.u32.wrap ((BitVec.ofInt 32 (a:Int)^^^BitVec.ofInt 32 (b:Int)).toNat:Int)=_;rw[BitVec.toNat_xor,ofInt_u32 a ha,ofInt_u32 b hb,jS];omega
theorem QS(a b:Nat)(ha:a<4294967296)(hb:b<4294967296):a^^^b<4294967296:=by have hx:a^^^b<2^32:=jB (by omega) (by omega);omega
theorem zgt(x n:Nat)(hx:x<4294967296):bits .or .u32 ((x:Int)*2^n % 4294967296) ((x:Int)/2^(32-n))=((rotl x n:Nat):Int):=by
 have e1:((x:Int)*2^n % 4294967296)=((x*2^n % 4294967296:Nat):Int):=by simp
 have e2:((x:Int)/2^(32-n))=((x/2^(32-n):Nat):Int):=by simp
 rw[e1,e2];exact u32_or _ _ (iM _ (by omega)) (iV (lq _ _) hx)
theorem ziP(x n:Nat)(hx:x<4294967296):rotl x n<4294967296:=by unfold rotl;have:=kC (n:=32) (x:=x*2^n % 4294967296) (y:=x/2^(32-n)) (iM _ (by omega)) (iV (lq _ _) hx);exact this
theorem zcK{a b:Int}(h:a=b):Ending.returned (.int .u32 a)= .returned (.int .u32 b):=by rw[h]
theorem J6(x:Int)(X n:Nat)(hx:X<4294967296)(he:x=X)(hn:n<=32)(w:World):
  Calls Tryz.prog 147 #[.int .u32 x,.int .i64 n] w λe w'=>e= .returned (.int .u32 (rotl X n))∧∃k,w'=w.drewN k:=by
 subst he;go_enter Tryz.func147,Tryz.ntmps147;go_wp2
 go_quiet (fail)
 go_wp2;go_ret;exact⟨zcK (zgt X n hx),⟨_,rfl⟩⟩
structure AZ(l:List Nat):Prop where
 len:l.length=16
 lt:∀i,l.getD i 0<4294967296
theorem zln{l:List Nat}(h:∀i,l.getD i 0<4294967296)(i v:Nat)(hv:v<4294967296)(k:Nat):(l.set i v).getD k 0<4294967296:=by
 have:=h k;simp only[ax,lM]at*;split
 ·split<;>simp<;>omega
 ·exact this
theorem AZ.set{l:List Nat}(h:AZ l)(i v:Nat)(hv:v<4294967296):AZ (l.set i v):=⟨by simp[h.len],zln h.lt i v hv⟩
theorem AZ.add{l:List Nat}(h:AZ l)(i j:Nat):AZ (yj l i j):=h.set _ _ (iM _ (by omega))
theorem AZ.rot{l:List Nat}(h:AZ l)(i j n:Nat):AZ (Ak l i j n):=h.set _ _ (ziP _ _ (QS _ _ (h.lt i) (h.lt j)))
theorem La{l:List Nat}(i j:Nat):((l[i]?.getD 0:Nat)+(l[j]?.getD 0:Nat):Int) % 4294967296=(((l.getD i 0+l.getD j 0) % 4294967296:Nat):Int):=by simp
theorem J4{l:List Nat}(h:AZ l)(i j:Nat):bits .xor .u32 ((l[i]?.getD 0:Nat):Int) ((l[j]?.getD 0:Nat):Int)=((l.getD i 0^^^l.getD j 0:Nat):Int):=by
 have:=u32_xor (l.getD i 0) (l.getD j 0) (h.lt i) (h.lt j)
 simpa using this
theorem Z4(B:Nat)(T:TypeId)(a b c d:Nat)(l:List Nat)(w:World)(ha:a<16)(hb:b<16)(hc:c<16)(hd:d<16)(R:Row w B .u32 T l)(L:AZ l):
  Calls Tryz.prog 109 #[.pointer (some ⟨B,0,none⟩),.int .i64 a,.int .i64 b,.int .i64 c,.int .i64 d] w λe w'=>e= .returned (.tuple #[])∧Row w' B .u32 T (qr l a b c d)∧Keep (nY B) w w':=by
 have ja:(a:Int)<16:=by omega
 have jb:(b:Int)<16:=by omega
 have jc:(c:Int)<16:=by omega
 have jd:(d:Int)<16:=by omega
 have K:Keep (nY B) w w:=ah _ _;go_enter Tryz.func109,Tryz.ntmps109;go_wp2;have c1:=R.cell a (by rw[L.len];omega);have c2:=R.cell b (by rw[L.len];omega);have f1:=R.free a;refine o6 13 (by kernel_rfl) (by kernel_rfl) ?_;simp only[bY,bZ,dh,cO]
 repeat(quiet_step (fail))
 refine dF ?_;intro nq;go_wp2;refine pK (λw1=>Row w1 B .u32 T (yj l a b)∧Keep (nY B) w w1) ⟨(R.drewN nq).store a (La a b),(K.drewN nq).set1 _ _⟩ ?_;clear R K c1 c2 f1;intro w1 hw1;obtain⟨R,K⟩:=hw1;have L:=L.add a b;have c1:=R.cell d (by rw[L.len];omega);have c2:=R.cell a (by rw[L.len];omega);have f1:=R.free d;refine o6 16 (by kernel_rfl) (by kernel_rfl) ?_;simp only[bY,bZ,dh,cO]
 repeat(quiet_step ((go_at_call 147;exact kF (J6 _ _ 16 (QS _ _ (L.lt d) (L.lt a)) (J4 L d a) (by omega) _))))
 refine dF ?_;intro nq;go_wp2;refine pK (λw1=>Row w1 B .u32 T (Ak ((yj l a b)) d a 16)∧Keep (nY B) w w1) ⟨(R.drewN nq).store d rfl,(K.drewN nq).set1 _ _⟩ ?_;clear R K c1 c2 f1;intro w1 hw1;obtain⟨R,K⟩:=hw1;have L:=L.rot d a 16;have c1:=R.cell c (by rw[L.len];omega);have c2:=R.cell d (by rw[L.len];omega);have f1:=R.free c;refine o6 13 (by kernel_rfl) (by kernel_rfl) ?_;simp only[bY,bZ,dh,cO]
 repeat(quiet_step (fail))
 refine dF ?_;intro nq;go_wp2;refine pK (λw1=>Row w1 B .u32 T (yj (Ak (yj l a b) d a 16) c d)∧Keep (nY B) w w1) ⟨(R.drewN nq).store c (La c d),(K.drewN nq).set1 _ _⟩ ?_;clear R K c1 c2 f1;intro w1 hw1;obtain⟨R,K⟩:=hw1;have L:=L.add c d;have c1:=R.cell b (by rw[L.len];omega);have c2:=R.cell c (by rw[L.len];omega);have f1:=R.free b;refine o6 16 (by kernel_rfl) (by kernel_rfl) ?_;simp only[bY,bZ,dh,cO]
 repeat(quiet_step ((go_at_call 147;exact kF (J6 _ _ 12 (QS _ _ (L.lt b) (L.lt c)) (J4 L b c) (by omega) _))))
 refine dF ?_;intro nq;go_wp2;refine pK (λw1=>Row w1 B .u32 T (Ak ((yj (Ak (yj l a b) d a 16) c d)) b c 12)∧Keep (nY B) w w1) ⟨(R.drewN nq).store b rfl,(K.drewN nq).set1 _ _⟩ ?_;clear R K c1 c2 f1;intro w1 hw1;obtain⟨R,K⟩:=hw1;have L:=L.rot b c 12;have c1:=R.cell a (by rw[L.len];omega);have c2:=R.cell b (by rw[L.len];omega);have f1:=R.free a;refine o6 13 (by kernel_rfl) (by kernel_rfl) ?_;simp only[bY,bZ,dh,cO]
 repeat(quiet_step (fail))
 refine dF ?_;intro nq;go_wp2;refine pK (λw1=>Row w1 B .u32 T (yj (Ak (yj (Ak (yj l a b) d a 16) c d) b c 12) a b)∧Keep (nY B) w w1) ⟨(R.drewN nq).store a (La a b),(K.drewN nq).set1 _ _⟩ ?_;clear R K c1 c2 f1;intro w1 hw1;obtain⟨R,K⟩:=hw1;have L:=L.add a b;have c1:=R.cell d (by rw[L.len];omega);have c2:=R.cell a (by rw[L.len];omega);have f1:=R.free d;refine o6 16 (by kernel_rfl) (by kernel_rfl) ?_;simp only[bY,bZ,dh,cO]
 repeat(quiet_step ((go_at_call 147;exact kF (J6 _ _ 8 (QS _ _ (L.lt d) (L.lt a)) (J4 L d a) (by omega) _))))
 refine dF ?_;intro nq;go_wp2;refine pK (λw1=>Row w1 B .u32 T (Ak ((yj (Ak (yj (Ak (yj l a b) d a 16) c d) b c 12) a b)) d a 8)∧Keep (nY B) w w1) ⟨(R.drewN nq).store d rfl,(K.drewN nq).set1 _ _⟩ ?_;clear R K c1 c2 f1;intro w1 hw1;obtain⟨R,K⟩:=hw1;have L:=L.rot d a 8;have c1:=R.cell c (by rw[L.len];omega);have c2:=R.cell d (by rw[L.len];omega);have f1:=R.free c;refine o6 13 (by kernel_rfl) (by kernel_rfl) ?_;simp only[bY,bZ,dh,cO]
 repeat(quiet_step (fail))
 refine dF ?_;intro nq;go_wp2;refine pK (λw1=>Row w1 B .u32 T (yj (Ak (yj (Ak (yj (Ak (yj l a b) d a 16) c d) b c 12) a b) d a 8) c d)∧Keep (nY B) w w1) ⟨(R.drewN nq).store c (La c d),(K.drewN nq).set1 _ _⟩ ?_;clear R K c1 c2 f1;intro w1 hw1;obtain⟨R,K⟩:=hw1;have L:=L.add c d;have c1:=R.cell b (by rw[L.len];omega);have c2:=R.cell c (by rw[L.len];omega);have f1:=R.free b;refine o6 16 (by kernel_rfl) (by kernel_rfl) ?_;simp only[bY,bZ,dh,cO]
 repeat(quiet_step ((go_at_call 147;exact kF (J6 _ _ 7 (QS _ _ (L.lt b) (L.lt c)) (J4 L b c) (by omega) _))))
 refine dF ?_;intro nq;go_wp2;go_end0;exact⟨rfl,(R.drewN nq).store b rfl,(K.drewN nq).set1 _ _⟩
theorem Sv(B:Nat)(T:TypeId)(a b c d:Nat)(ia ib ic id:Int)(l:List Nat)(w:World)(ha:a<16)(hb:b<16)(hc:c<16)(hd:d<16)(ea:ia=a)(eb:ib=b)(ec:ic=c)(ed:id=d)(R:Row w B .u32 T l)(L:AZ l):
  Calls Tryz.prog 109 #[.pointer (some ⟨B,0,none⟩),.int .i64 ia,.int .i64 ib,.int .i64 ic,.int .i64 id] w λe w'=>e= .returned (.tuple #[])∧Row w' B .u32 T (qr l a b c d)∧Keep (nY B) w w':=by
 subst ea eb ec ed;exact Z4 B T a b c d l w ha hb hc hd R L
theorem or4(a b c d:Nat)(ha:a<256)(hb:b<256)(hc:c<256)(hd:d<256):((a|||b*256)|||c*65536)|||d*16777216=a+256*b+65536*c+16777216*d:=by
 have e1:a|||b*256=a+256*b:=by
  have:=gz (i:=8) (b:=a) (by omega) b;rw[Nat.or_comm,gG b 256]
  simpa [mM]using this.symm
 have e2:(a+256*b)|||c*65536=a+256*b+65536*c:=by
  have:=gz (i:=16) (b:=a+256*b) (by omega) c;rw[Nat.or_comm,gG c 65536]
  simpa [mM]using this.symm
 have e3:(a+256*b+65536*c)|||d*16777216=a+256*b+65536*c+16777216*d:=by
  have:=gz (i:=24) (b:=a+256*b+65536*c) (by omega) d;rw[Nat.or_comm,gG d 16777216]
  simpa [mM]using this.symm
 rw[e1,e2,e3]
theorem YM(s:af)(hs:4<=s.size)(w:World):
  Calls Tryz.prog 108 #[.string s] w λe w'=>e= .returned (.int .u32 (Qz (bs s) 0:Nat))∧∃k,w'=w.drewN k:=by
 have h0:0<s.size:=by omega
 have h1:(1:Int)<s.size:=by omega
 have h2:(2:Int)<s.size:=by omega
 have h3:(3:Int)<s.size:=by omega
 go_enter Tryz.func108,Tryz.ntmps108;go_wp2
 go_quiet (fail)
 go_wp2;go_ret;refine⟨?_,⟨_,rfl⟩⟩;have b0:=bs_getD s 0 (by omega);have b1:=bs_getD s 1 (by omega);have b2:=bs_getD s 2 (by omega);have b3:=bs_getD s 3 (by omega);have c0:=IP s 0;have c1:=IP s 1;have c2:=IP s 2;have c3:=IP s 3;refine zcK ?_;have fin:∀a b c d:Nat,a<256->b<256->c<256->d<256->bits BinOp.or IntKind.u32 (bits BinOp.or IntKind.u32 (bits BinOp.or IntKind.u32 ((a:Int) % 4294967296) ((b:Int) % 4294967296*256 % 4294967296)) ((c:Int) % 4294967296*65536 % 4294967296)) ((d:Int) % 4294967296*16777216 % 4294967296)=((a+256*b+65536*c+16777216*d:Nat):Int):=by
  intro a b c d ha hb hc hd;have e0:(a:Int) % 4294967296=(a:Nat):=by omega
  have e1:(b:Int) % 4294967296*256 % 4294967296=((b*256:Nat):Int):=by omega
  have e2:(c:Int) % 4294967296*65536 % 4294967296=((c*65536:Nat):Int):=by omega
  have e3:(d:Int) % 4294967296*16777216 % 4294967296=((d*16777216:Nat):Int):=by omega
  have p1:a|||b*256<4294967296:=by have:=kC (n:=32) (x:=a) (y:=b*256) (by omega) (by omega);omega
  have p2:(a|||b*256)|||c*65536<4294967296:=by have:=kC (n:=32) (x:=a|||b*256) (y:=c*65536) (by omega) (by omega);omega
  rw[e0,e1,e2,e3,u32_or _ _ (by omega) (by omega),u32_or _ _ p1 (by omega),u32_or _ _ p2 (by omega),or4 a b c d ha hb hc hd]
 rw[b0]at c0;rw[b1]at c1;rw[b2]at c2;rw[b3]at c3;have:=fin _ _ _ _ c0 c1 c2 c3;unfold Qz;rw[b0,b1,b2,b3];exact this
theorem VW(key:List Nat)(k:Nat):(keyed key k).length=16:=by
 unfold keyed;induction k with
 | zero=>rfl
 | succ k ih=>simp[times,ih]
theorem zbX(l:List Nat)(oh:List Nat)(k:Nat):(Cc l oh k).length=l.length:=by
 unfold Cc;induction k with
 | zero=>rfl
 | succ k ih=>simp[times,ih]
theorem zcW(l:List Nat)(h:∀i,l.getD i 0<256)(i:Nat):Qz l i<4294967296:=by unfold Qz;have:=h i;have:=h (i+1);have:=h (i+2);have:=h (i+3);omega
theorem AZ.keyed(key:List Nat)(h:∀i,key.getD i 0<256)(k:Nat):AZ (keyed key k):=by
 unfold Go.Proofs.YtopbkdebihcmcaaGreatDoor.keyed
 induction k with
 | zero=>
  refine⟨rfl,λi=> ?_⟩;simp only[times];by_cases hi:i<16
  ·have:∀j:Fin 16,za2.getD j.val 0<4294967296:=by decide
   exact this ⟨i,hi⟩
  ·rw[ax,fH (by simp[za2];omega)];simp
 | succ k ih=>exact ih.set _ _ (zcW _ h _)
theorem AZ.Cc{l:List Nat}(L:AZ l)(oh:List Nat)(h:∀i,oh.getD i 0<256)(k:Nat):AZ (Cc l oh k):=by
 unfold Go.Proofs.YtopbkdebihcmcaaGreatDoor.Cc
 induction k with
 | zero=>exact L
 | succ k ih=>exact ih.set _ _ (zcW _ h _)
theorem AZ.ziI(key:List Nat)(hk:∀i,key.getD i 0<256)(n:Nat)(oh:List Nat)(hn:∀i,oh.getD i 0<256):AZ (Go.Proofs.YtopbkdebihcmcaaGreatDoor.start key n oh):=
 AZ.Cc ((AZ.keyed key hk 8).set 12 _ (iM _ (by omega))) oh hn 3
theorem AZ.qr{l:List Nat}(L:AZ l)(a b c d:Nat):AZ (qr l a b c d):=by unfold Go.Proofs.YtopbkdebihcmcaaGreatDoor.qr;exact((((((((L.add _ _).rot _ _ _).add _ _).rot _ _ _).add _ _).rot _ _ _).add _ _).rot _ _ _)
theorem AZ.times{f:Nat->List Nat->List Nat}(hf:∀i l,AZ l->AZ (f i l))(n:Nat){l:List Nat}(L:AZ l):AZ (times f n l):=by
 induction n with
 | zero=>exact L
 | succ n ih=>exact hf n _ ih
theorem AZ.col{l:List Nat}(L:AZ l)(i:Nat):AZ (col i l):=L.qr _ _ _ _
theorem AZ.dia{l:List Nat}(L:AZ l)(i:Nat):AZ (dia i l):=L.qr _ _ _ _
theorem AZ.dbl{l:List Nat}(L:AZ l)(i:Nat):AZ (dbl i l):=AZ.times (λi _ h=>h.dia i) 4 (AZ.times (λi _ h=>h.col i) 4 L)
theorem BM(s:af)(i:Nat)(h:i+4<=s.size):Qz (bs (s.extract i s.size)) 0=Qz (bs s) i:=by
 have e:∀j,j<4->(bs (s.extract i s.size)).getD j 0=(bs s).getD (i+j) 0:=by intro j hj;rw[pY];simp only[ax,fG,List.getElem?_drop];rw[aP (by omega)]
 unfold Qz;have:=e 0 (by omega);have:=e 1 (by omega);have:=e 2 (by omega);have:=e 3 (by omega)
 simp_all
theorem Tf(key:List Nat)(k:Nat):keyed key (k+1)=(keyed key k).set (4+k) (Qz key (4*k)):=rfl
theorem O6(l oh:List Nat)(k:Nat):Cc l oh (k+1)=(Cc l oh k).set (13+k) (Qz oh (4*k)):=rfl
theorem Vy(s:af)(i:Nat):(s.extract i s.size).size=s.size-i:=by simp
theorem EU(t s:List Nat)(k:Nat):Bl t s (k+1)=Bl t s k++QH ((t.getD k 0+s.getD k 0) % 4294967296):=rfl
theorem VI(t s:List Nat)(k:Nat):(Bl t s k).length=4*k:=by
 induction k with
 | zero=>rfl
 | succ k ih=>rw[EU,ay,ih];simp[QH];omega
theorem info5:(Tryz.prog.info? 5).map (λi=>(i.zero,i.size,i.bytes))=some (some (.int .u8 0),1,1):=by kernel_rfl
theorem zlm:(Tryz.prog.info? 82).map (·.size)=some 1:=by kernel_rfl
theorem zgo(x:Nat)(hx:x<4294967296):zM (QH x)= [.int .u8 ((x:Int) % 256),.int .u8 ((x:Int)/256 % 256),.int .u8 ((x:Int)/65536 % 256),.int .u8 ((x:Int)/16777216)]:=by
 have e0:((x % 256:Nat):Int)=(x:Int) % 256:=by omega
 have e1:((x/256 % 256:Nat):Int)=(x:Int)/256 % 256:=by omega
 have e2:((x/65536 % 256:Nat):Int)=(x:Int)/65536 % 256:=by omega
 have e3:((x/16777216 % 256:Nat):Int)=(x:Int)/16777216:=by omega
 simp only[zM,QH,bF,dB,e0,e1,e2,e3]
theorem Wn(key oh:af)(n:Nat)(hk0:Hid (key.size=32))(hn0:Hid (oh.size=12))(h1:n<4294967296)(w:World):
  Calls Tryz.prog 64 #[.string key,.int .i64 n,.string oh] w λe w'=>e= .returned (.tuple #[.string (txt (block (bs key) n (bs oh))),.nilIface])∧Keep nM w w':=by
 have b1:((key.size:Int) !=32)=false:=by rw[hk0.out];rfl
 have b2:((oh.size:Int) !=12)=false:=by rw[hn0.out];rfl
 have b3:decide ((n:Int)<0)=false:=by simp
 have b4:decide (4294967296<=(n:Int))=false:=by simp;omega
 have LK:∀k,AZ (keyed (bs key) k):=λk=>AZ.keyed _ (IP key) k;have HLK:=Lib.hid LK;clear LK;go_enter Tryz.func64,Tryz.ntmps64;go_wp2;refine pK (λw1=>Row w1 w.heap.size .u32 162 (keyed (bs key) 0)∧Keep nM w w1) ⟨aG w _,(ah _ _).alloc _⟩ ?_;intro w1 hw1
 go_loopw [35] (λi wr=>∃k:Nat,k<=8∧i= .int .i64 k∧Row wr w.heap.size .u32 162 (keyed (bs key) k)∧Keep nM w wr) (λi _=>8-(intOf i).toNat)
 case atStart=>exact⟨0,by omega,rfl,hw1.1,hw1.2⟩
 case round=>
  clear hw1 w1;obtain⟨k,hk,rfl,R,K⟩:=hrel;by_cases hlt:k<8
  ·have j1:(k:Int)<8:=by omega
   have j2:(4:Int)+k<16:=by omega
   have j3:(4:Int)*k<=key.size:=by rw[hk0.out];omega
   have c1:=R.cell (4+k) (by rw[VW];omega);have f1:=R.free (4+k);go_wp2_with fail;refine(YM _ (by rw[Vy,hk0.out];omega) _).mono ?_;rintro e w2 ⟨rfl,m,rfl⟩;go_wp2;go_roundw
   case rel=>first|exact⟨k+1,by omega,by go_num,by rw[Tf];exact(R.drewN m).store (4+k) (by rw[BM key _ (by rw[hk0.out];omega)]),(K.drewN m).setCell (.inr (aF _)) _⟩|((repeat apply Exists.intro);exact⟨⟨k+1,by omega,by go_num,by rw[Tf];exact(R.drewN m).store (4+k) (by rw[BM key _ (by rw[hk0.out];omega)]),(K.drewN m).setCell (.inr (aF _)) _⟩,rfl⟩)
   case measure=>simp[intOf];omega
  ·obtain rfl:k=8:=by omega
   clear hlt hk;have f1:=R.free 12;have c1:=R.cell 12 (by rw[VW];omega);go_wp2;clear f1 c1;refine pK (λw1=>Row w1 w.heap.size .u32 162 (Cc ((keyed (bs key) 8).set 12 (n % 4294967296)) (bs oh) 0)∧Keep nM w w1) ⟨R.store 12 (by omega),K.setCell (.inr (aF _)) _⟩ ?_;clear R K wr;intro w1 hw1;obtain⟨l12,hl12⟩:∃l,l=(keyed (bs key) 8).set 12 (n % 4294967296):=⟨_,rfl⟩
   have L12:AZ l12:=by rw[hl12];exact(HLK.out 8).set 12 _ (iM _ (by omega))
   rw[<-hl12]at hw1;have znq:=Lib.hid hl12;clear hl12
   go_loopw [50] (λi wr=>∃k:Nat,k<=3∧i= .int .i64 k∧Row wr w.heap.size .u32 162 (Cc l12 (bs oh) k)∧Keep nM w wr) (λi _=>3-(intOf i).toNat)
   case atStart=>exact⟨0,by omega,rfl,hw1.1,hw1.2⟩
   case round=>
    clear hw1 w1;obtain⟨k,hk,rfl,R,K⟩:=hrel;by_cases hlt:k<3
    ·have j1:(k:Int)<3:=by omega
     have j2:(13:Int)+k<16:=by omega
     have j3:(4:Int)*k<=oh.size:=by rw[hn0.out];omega
     have c1:=R.cell (13+k) (by rw[zbX,L12.len];omega);have f1:=R.free (13+k);go_wp2_with fail;refine(YM _ (by rw[Vy,hn0.out];omega) _).mono ?_;rintro e w2 ⟨rfl,m,rfl⟩;go_wp2;go_roundw
     case rel=>first|exact⟨k+1,by omega,by go_num,by rw[O6];exact(R.drewN m).store (13+k) (by rw[BM oh _ (by rw[hn0.out];omega)]),(K.drewN m).setCell (.inr (aF _)) _⟩|((repeat apply Exists.intro);exact⟨⟨k+1,by omega,by go_num,by rw[O6];exact(R.drewN m).store (13+k) (by rw[BM oh _ (by rw[hn0.out];omega)]),(K.drewN m).setCell (.inr (aF _)) _⟩,rfl⟩)
     case measure=>simp[intOf];omega
    ·obtain rfl:k=3:=by omega
     clear hlt hk;refine pK (λw1=>Row w1 w.heap.size .u32 162 (Go.Proofs.YtopbkdebihcmcaaGreatDoor.start (bs key) n (bs oh))∧Keep nM w w1) ⟨by rw[znq.out]at R;exact R,K⟩ ?_;have LS:AZ (Go.Proofs.YtopbkdebihcmcaaGreatDoor.start (bs key) n (bs oh)):=AZ.ziI _ (IP key) _ _ (IP oh);generalize Hs:Go.Proofs.YtopbkdebihcmcaaGreatDoor.start (bs key) n (bs oh)=s at LS;have Hs':=Lib.hid Hs;clear Hs R K wr znq L12;intro w1 hw1;obtain⟨R,K⟩:=hw1;have FK:(Tryz.prog.info? 162).map (·.size)=some (ints .u32 s).size:=by rw[BQ,LS.len];kernel_rfl
     have znt:=Lib.hid FK;clear FK;have zpy:Hid ((ints .u32 s).size=16):=by show(ints .u32 s).size=16;rw[BQ,LS.len]
     go_wp2_with (first|(refine jD rfl 162 _ rfl w.heap.size rfl 162 (ints .u32 s) (0,0) _ R Tryz.underlying162 rfl znt.out ?_)|(refine oH rfl 162 _ _ rfl w1.heap.size 162 _ (ints .u32 s) rfl rfl (aG w1 _) znt.out 16 ?_ zpy.out (KH _ _) ?_;exact rfl));have hlt1:w.heap.size<w1.heap.size:=R.lt;obtain⟨BT,hBT⟩:∃b,b=w1.heap.size:=⟨_,rfl⟩
     rw[<-hBT]at hlt1;have HBT:=Lib.hid hBT;refine pK (λw2=>Row w2 BT .u32 162 s∧Row w2 w.heap.size .u32 162 s∧Keep nM w w2) ⟨by rw[hBT];exact oO (aG w1 _),(R.keep ((ah nM w1).alloc _) (λx=>x)).keep ((ah (nY w1.heap.size) _).setRow (.inl rfl) _) (λe=>by simp only[nY]at e;omega),(K.alloc _).setRow (.inr (by omega)) _⟩ ?_;rw[<-hBT];clear R K hBT;intro w2 hw2;obtain⟨RT,RS,K⟩:=hw2
     go_loopw [63] (λi wr=>∃k:Nat,k<=10∧i= .int .i64 k∧Row wr BT .u32 162 (times dbl k s)∧Row wr w.heap.size .u32 162 s∧Keep nM w wr) (λi _=>10-(intOf i).toNat)
     case atStart=>exact⟨0,by omega,rfl,RT,RS,K⟩
     case round=>
      clear RT RS K w2;obtain⟨k,hk,rfl,RT,RS,K⟩:=hrel;have LT:AZ (times dbl k s):=AZ.times (λi _ h=>h.dbl i) k LS;by_cases hlt:k<10
      ·have j1:(k:Int)<10:=by omega
       obtain⟨t0,ht0⟩:∃t,t=times dbl k s:=⟨_,rfl⟩
       rw[<-ht0]at RT LT;have Ht0:=Lib.hid ht0;clear ht0;go_wp2;refine pK (λw2=>Row w2 BT .u32 162 t0∧Row w2 w.heap.size .u32 162 s∧Keep nM w w2) ⟨RT,RS,K⟩ ?_;clear RT RS K wr;intro w2 hw2;obtain⟨RT,RS,K⟩:=hw2
       go_loopw [65] (λi wr=>∃j:Nat,j<=4∧i= .int .i64 j∧Row wr BT .u32 162 (times col j t0)∧Row wr w.heap.size .u32 162 s∧Keep nM w wr) (λi _=>4-(intOf i).toNat)
       case atStart=>exact⟨0,by omega,rfl,RT,RS,K⟩
       case round=>
        clear RT RS K w2;obtain⟨j,hj,rfl,RT,RS,K⟩:=hrel;have LJ:AZ (times col j t0):=AZ.times (λi _ h=>h.col i) j LT;by_cases hlt:j<4
        ·have j1:(j:Int)<4:=by omega
         go_wp2_with fail;refine(Sv BT 162 j (4+j) (8+j) (12+j) _ _ _ _ _ wr (by omega) (by omega) (by omega) (by omega) rfl (by omega) (by omega) (by omega) RT LJ).mono ?_;rintro e w2 ⟨rfl,RT',K'⟩;have RS':=RS.keep K' (λe=>by simp only[nY]at e;omega);have K2:=K.trans K' (λi hi e=>by simp only[nY]at e;omega);clear RT RS K K';go_wp2;go_roundw
         case rel=>first|exact⟨j+1,by omega,by go_num,RT',RS',K2⟩|((repeat apply Exists.intro);exact⟨⟨j+1,by omega,by go_num,RT',RS',K2⟩,rfl⟩)
         case measure=>simp[intOf];omega
        ·obtain rfl:j=4:=by omega
         clear hlt hj;obtain⟨t1,ht1⟩:∃t,t=times col 4 t0:=⟨_,rfl⟩
         rw[<-ht1]at RT LJ;have Ht1:=Lib.hid ht1;clear ht1;go_wp2;refine pK (λw2=>Row w2 BT .u32 162 t1∧Row w2 w.heap.size .u32 162 s∧Keep nM w w2) ⟨RT,RS,K⟩ ?_;clear RT RS K wr;intro w2 hw2;obtain⟨RT,RS,K⟩:=hw2
         go_loopw [77] (λi wr=>∃j:Nat,j<=4∧i= .int .i64 j∧Row wr BT .u32 162 (times dia j t1)∧Row wr w.heap.size .u32 162 s∧Keep nM w wr) (λi _=>4-(intOf i).toNat)
         case atStart=>exact⟨0,by omega,rfl,RT,RS,K⟩
         case round=>
          clear RT RS K w2;obtain⟨j,hj,rfl,RT,RS,K⟩:=hrel;have LD:AZ (times dia j t1):=AZ.times (λi _ h=>h.dia i) j LJ;by_cases hlt:j<4
          ·have j1:(j:Int)<4:=by omega
           go_wp2_with fail;refine(Sv BT 162 j (4+(j+1) % 4) (8+(j+2) % 4) (12+(j+3) % 4) _ _ _ _ _ wr (by omega) (by omega) (by omega) (by omega) rfl (by omega) (by omega) (by omega) RT LD).mono ?_;rintro e w2 ⟨rfl,RT',K'⟩;have RS':=RS.keep K' (λe=>by simp only[nY]at e;omega);have K2:=K.trans K' (λi hi e=>by simp only[nY]at e;omega);clear RT RS K K';go_wp2;go_roundw
           case rel=>first|exact⟨j+1,by omega,by go_num,RT',RS',K2⟩|((repeat apply Exists.intro);exact⟨⟨j+1,by omega,by go_num,RT',RS',K2⟩,rfl⟩)
           case measure=>simp[intOf];omega
          ·obtain rfl:j=4:=by omega
           clear hlt hj;go_wp2;have RT':Row wr BT .u32 162 (times dbl (k+1) s):=by rw[uY,<-Ht0.out];unfold dbl;rw[<-Ht1.out];exact RT
           go_roundw
           case rel=>first|exact⟨k+1,by omega,by go_num,RT',RS,K⟩|((repeat apply Exists.intro);exact⟨⟨k+1,by omega,by go_num,RT',RS,K⟩,rfl⟩)
           case measure=>simp[intOf];omega
      ·obtain rfl:k=10:=by omega
       clear hlt hk;obtain⟨t,ht⟩:∃t,t=times dbl 10 s:=⟨_,rfl⟩
       rw[<-ht]at RT LT;have Ht:=Lib.hid ht;clear ht;have FK:(Tryz.prog.info? 162).map (·.size)=some (ints .u32 t).size:=by rw[BQ,LT.len];kernel_rfl
       have znb:=Lib.hid FK;clear FK;go_wp2_with (first|(refine jD rfl 162 _ rfl BT rfl 162 (ints .u32 t) (0,0) _ RT Tryz.underlying162 rfl znb.out ?_));clear znb;obtain⟨i0,hi0,hz0,hz1,hz2⟩:=kG info5;refine pK (λw2=>Row w2 BT .u32 162 t∧Row w2 w.heap.size .u32 162 s∧Keep nM w w2) ⟨RT,RS,K⟩ ?_;clear RT RS K wr;intro w2 hw2;obtain⟨RT,RS,K⟩:=hw2;have zpi:=RT.lt
       go_loopw [14,97] (λv i wr=>∃k:Nat,k<=16∧i= .int .i64 k∧Row wr w.heap.size .u32 162 s∧Keep nM w wr∧wr.ownsRow (BT+1) 5 1 v (Bl t s k).length (zM (Bl t s k))∧BT+1<=wr.heap.size) (λ_ i _=>16-(intOf i).toNat)
       case atStart=>exact⟨0,by omega,rfl,RS,K,kD _ _ _ _,by omega⟩
       case round=>
        clear RT RS K zpi w2;obtain⟨k,hk,rfl,RS,K,hown,hsz⟩:=hrel;by_cases hlt:k<16
        ·have j1:(k:Int)<16:=by omega
         have c1:=RS.cell k (by rw[LS.len];omega);have hix:=λwx=>Ic (P:=Tryz.prog) (kd:= .u32) Tryz.underlying162 Tryz.underlying82 rfl zlm t k LT.len hlt wx;have hlen:(Bl t s k).length=4*k:=VI t s k;have Hlen:=Lib.hid hlen;clear hlen;go_wp2_with (first|(at_builtin;refine jJ _ rfl _ _ 33 rfl (BT+1) 5 i0 (.int .u8 0) 1 1 Tryz.underlying33 hi0 hz0 hz1 hz2 rfl (by decide) u14 _ _ rfl (hown.alloc _) ⟨wr.heap.size,0,none⟩ 4 4 _ rfl rfl (qj _ _ _) (zjx _ _ _ _ _) (by rw[Hlen.out];unfold maxLen;omega) (by rw[Hlen.out];omega) (by simp;omega) ?_;intro v' w' hown' hgrow _));have hx4:(t.getD k 0+s.getD k 0) % 4294967296<4294967296:=iM _ (by omega);have hw4:=zgo _ hx4;have ex:(((t.getD k 0+s.getD k 0) % 4294967296:Nat):Int)=((t.getD k 0:Int)+(s.getD k 0:Int)) % 4294967296:=by omega
         have ey:((t.getD k 0:Int)+(s.getD k 0:Int)) % 4294967296 % 256=((t.getD k 0:Int)+(s.getD k 0:Int)) % 256:=by omega
         rw[ex,ey]at hw4;simp only[ax]at hw4;rw[<-hw4,<-xG]at hown';have hl4:(Bl t s k).length+4=(Bl t s (k+1)).length:=by rw[EU,ay];rfl
         rw[hl4]at hown';have hown2:w'.ownsRow (BT+1) 5 1 v' (Bl t s (k+1)).length (zM (Bl t s (k+1))):=by rw[EU];simp only[ax];exact hown'
         have hne:∀b,u14.ownBlock=some b->BT+1<=b:=λb hb=>(hown.lt b hb).1;have K2:Keep nM w w':=(K.alloc _).grown hgrow (λb hb=> .inr (by have:=hne b hb;omega));have RS2:Row w' w.heap.size .u32 162 s:=(RS.alloc _).grown hgrow (λe=>by have:=hne _ e.symm;omega);have hsz2:BT+1<=w'.heap.size:=by have:=hgrow.size;simp at this;omega
         have znV:∃k_1:Nat,k_1<=16∧Value.int IntKind.i64 (↑k+1)=Value.int IntKind.i64 ↑k_1∧Row w' w.heap.size IntKind.u32 162 s∧Keep nM w w'∧w'.ownsRow (BT+1) 5 1 v' (Bl t s k_1).length (zM (Bl t s k_1))∧BT+1<=w'.heap.size:=
          ⟨k+1,by omega,by go_num,RS2,K2,hown2,hsz2⟩
         clear hown' hgrow hw4 ex ey hown2 RS2 K2 hx4 hl4 hix c1;go_roundw
         case rel=>exact znV
         case measure=>simp[intOf];omega
        ·obtain rfl:k=16:=by omega
         have hcv:=vM (P:=Tryz.prog) hown Tryz.underlying33 Tryz.underlying5 Tryz.underlying9;have hfin:Bl t s 16=block (bs key) n (bs oh):=by rw[Ht.out,<-Hs'.out];rfl
         rw[hfin]at hcv;have Hcv:=Lib.hid hfin;clear hfin;go_wp2
         go_ret2
         exact⟨rfl,K⟩
theorem zff(key oh:af)(n:Int)(h:¬(key.size=32∧oh.size=12∧0<=n∧n<4294967296))(w:World):
  Calls Tryz.prog 64 #[.string key,.int .i64 n,.string oh] w λe w'=>e= .returned (.tuple #[.string (txt []),(.iface 51 (.int .i64 1))])∧Keep nM w w':=by
 have hp:(n<0∨4294967296<=n)∨(0<=n∧n<4294967296):=by omega
 by_cases h1:key.size=32
 ·have b1:((key.size:Int) !=32)=false:=by rw[h1];rfl
  have H1:=Lib.hid h1;by_cases h2:oh.size=12
  ·have b2:((oh.size:Int) !=12)=false:=by rw[h2];rfl
   by_cases h3:n<0
   ·have b3:decide (n<0)=true:=by simp;omega
    clear h h1 h2 hp;go_enter Tryz.func64,Tryz.ntmps64;go_wp2
    go_ret2
    exact⟨rfl,ah _ _⟩
   ·have b3:decide (n<0)=false:=by simp;omega
    have b4:decide (4294967296<=n)=true:=by simp;omega
    clear h h1 h2 hp;go_enter Tryz.func64,Tryz.ntmps64;go_wp2
    go_ret2
    exact⟨rfl,ah _ _⟩
  ·have b2:((oh.size:Int) !=12)=true:=by simp;omega
   clear h h1 h2 hp;go_enter Tryz.func64,Tryz.ntmps64;go_wp2
   go_ret2
   exact⟨rfl,ah _ _⟩
 ·have b1:((key.size:Int) !=32)=true:=by simp;omega
  clear h h1 hp;go_enter Tryz.func64,Tryz.ntmps64;go_wp2
  go_ret2
  exact⟨rfl,ah _ _⟩
theorem zhU(key oh:af)(i:Int)(n:Nat)(hi:i=n)(hk:key.size=32)(hn:oh.size=12)(h1:n<4294967296)(w:World):
  Calls Tryz.prog 64 #[.string key,.int .i64 i,.string oh] w λe w'=>e= .returned (.tuple #[.string (txt (block (bs key) n (bs oh))),.nilIface])∧Keep nM w w':=by
 subst hi;exact Wn key oh n hk hn h1 w
theorem NY(key:List Nat)(n:Nat)(oh:List Nat):(block key n oh).length=64:=VI _ _ 16
theorem J5(key oh s:List Nat)(k:Nat)(h:s.length<=k):xq key oh s k=xor key oh s:=by
 induction k with
 | zero=>
  have:s= []:=aU (by omega)
  subst this;rfl
 | succ k ih=>
  by_cases hk:s.length<=k
  ·have e:xq key oh s (k+1)=Qd key oh k (xq key oh s k):=rfl;rw[e,Qd,List.set_eq_of_length_le (by rw[BP];exact hk),ih hk]
  ·have:k+1=s.length:=by omega
   rw[this];rfl
theorem zfZ(a b:Nat)(ha:a<256)(hb:b<256):bits .xor .u8 (a:Int) (b:Int)=((a^^^b:Nat):Int):=by
 have h8:∀c:Nat,c<256->(BitVec.ofInt 8 (c:Int)).toNat=c:=λc hc=>by rw[jI,jV];exact jw (by omega)
 have hx:a^^^b<2^8:=jB (by omega) (by omega);show IntKind.u8.wrap ((BitVec.ofInt 8 (a:Int)^^^BitVec.ofInt 8 (b:Int)).toNat:Int)=_;rw[BitVec.toNat_xor,h8 a ha,h8 b hb,IntKind.wrap_u8];omega
theorem ZE(x:Nat):Bytes (QH x):=by intro y hy;simp only[QH,bK,iJ,jY]at hy;rcases hy with rfl|rfl|rfl|rfl<;>exact iM _ (by omega)
theorem zab(t s:List Nat)(k:Nat):Bytes (Bl t s k):=by
 induction k with
 | zero=>intro x hx;simp[Bl,times]at hx
 | succ k ih=>
  rw[EU];intro x hx;rcases dG.1 hx with h|h
  ·exact ih x h
  ·exact ZE _ x h
theorem PN(key:List Nat)(n:Nat)(oh:List Nat):Bytes (block key n oh):=zab _ _ 16
theorem Y5(key oh:List Nat)(i:Nat):JP key oh i<256:=JC (PN _ _ _) _
theorem YL(key oh s:List Nat)(hs:Bytes s)(k i:Nat):(xq key oh s k).getD i 0<256:=by
 rw[RF];split
 ·have h1:=JC hs i;have h2:=Y5 key oh i;have:=jB (n:=8) (x:=s.getD i 0) (y:=JP key oh i) (by omega) (by omega);omega
 ·exact JC hs i
theorem ZA(key oh:af)(i:Int)(n:Nat)(hi:i=n)(hk:key.size=32)(hn:oh.size=12)(h1:n<4294967296)(w:World):
  Calls Tryz.prog 64 #[.string key,.int .i64 i,.string oh] w λe w'=>∃T,e= .returned (.tuple #[.string T,.nilIface])∧Hid (bs T=block (bs key) n (bs oh))∧Keep nM w w':=
 (zhU key oh i n hi hk hn h1 w).mono λ_ _ ⟨he,hK⟩=>⟨_,he,qw (PN _ _ _),hK⟩
theorem ziv(key oh s:af)(hk0:key.size=32)(hn0:oh.size=12)(hpos:0<s.size)(hs:s.size<=1000000)(w:World):
  Calls Tryz.prog 179 #[.string key,.string oh,.string s] w λe w'=>e= .returned (.tuple #[.string (txt (xor (bs key) (bs oh) (bs s))),.nilIface])∧Keep nM w w':=by
 have Hk:=Lib.hid hk0;have Hn:=Lib.hid hn0;clear hk0 hn0;have hcv:=jh (P:=Tryz.prog) w 9 33 5 s Tryz.underlying9 Tryz.underlying33 Tryz.underlying5;go_enter Tryz.func179,Tryz.ntmps179;go_wp2_with fail;obtain⟨cap,hcap⟩:∃c,c=grownCap w s.size 0 5:=⟨_,rfl⟩
 rw[<-hcap];refine pK (λw1=>Keep nM w w1∧vP w1 w.heap.size 5 (xq (bs key) (bs oh) (bs s) 0)) ⟨(ah _ _).bytesWorld _ _,vP.ofBytes w _ s⟩ ?_;clear hcv hcap;intro w1 hw1;obtain⟨K,R⟩:=hw1
 go_loopw [9] (λi wr=>∃m:Nat,64*m<s.size+64∧i= .int .i64 (64*(m:Int))∧vP wr w.heap.size 5 (xq (bs key) (bs oh) (bs s) (64*m))∧Keep nM w wr) (λi _=>s.size+64-(intOf i).toNat)
 case atStart=>exact⟨0,by omega,rfl,R,K⟩
 case round=>
  clear R K w1;obtain⟨m,hm,rfl,R,K⟩:=hrel;have hmb:(64*m:Nat)<=2000000:=by omega
  by_cases hgo:64*m<s.size
  ·have hd:64*(m:Int)<(s.size:Int):=by omega
   go_wp2_with fail;refine(ZA key oh _ (1+m) (by omega) Hk.out Hn.out (by omega) _).mono ?_;rintro e w2 ⟨T,rfl,HT,K2⟩;have R2:=R.keep K2 (λx=>x);have K3:=K.nK K2;have HTs:Hid (T.size=64):=by have:=dK List.length HT.out;rw[bs_len,NY]at this;exact this
   clear R K K2;go_wp2_with fail;refine pK (λw1=>vP w1 w.heap.size 5 (xq (bs key) (bs oh) (bs s) (64*m))∧Keep nM w w1) ⟨R2,K3⟩ ?_;clear R2 K3 w2 wr;intro w1 hw1;obtain⟨R,K⟩:=hw1
   go_loopw [12] (λkv wr=>∃j:Nat,64*m<=j∧j<=64*m+64∧j<=s.size∧kv= .int .i64 j∧vP wr w.heap.size 5 (xq (bs key) (bs oh) (bs s) j)∧Keep nM w wr) (λkv _=>64*m+64-(intOf kv).toNat)
   case atStart=>exact⟨64*m,by omega,by omega,by omega,by go_num,R,K⟩
   case round=>
    clear R K w1;obtain⟨j,hj1,hj2,hj3,rfl,R,K⟩:=hrel;by_cases hin:j<s.size∧j<64*m+64
    ·obtain⟨hjs,hj64⟩:=hin;have d1:(j:Int)<s.size:=by omega
     have d2:(j:Int)<64*(m:Int)+64:=by omega
     obtain⟨q,hq⟩:∃q,j=64*m+q:=⟨j-64*m,by omega⟩
     have Hq:=Lib.hid hq;clear hq;have d3:IntKind.i64.wrap ((j:Int)-64*(m:Int))=(q:Int):=by rw[aW _ (by omega)];have:=Hq.out;omega
     have d4:q<T.size:=by rw[HTs.out];have:=Hq.out;omega
     have c1:=R.cell j (by rw[BP,bs_len];omega);have f1:=R.free j (by rw[BP,bs_len];omega);go_wp2_with fail;refine o6 11 (by kernel_rfl) (by kernel_rfl) ?_;simp only[bY,bZ,dh,cO]
     repeat(quiet_step (fail))
     refine dF ?_;intro nq;go_wp2;have hT:T[q].toNat=JP (bs key) (bs oh) j:=by rw[<-bs_getD T q d4,HT.out];unfold JP;have e:=Hq.out;rw[show j/64=m by omega,show j % 64=q by omega]
     have hx:bits .xor .u8 (((xq (bs key) (bs oh) (bs s) j).getD j 0:Nat):Int) (T[q].toNat:Int)=(((xq (bs key) (bs oh) (bs s) j).getD j 0^^^JP (bs key) (bs oh) j:Nat):Int):=by rw[hT];exact zfZ _ _ (YL _ _ _ (zq s) _ _) (Y5 _ _ _)
     simp only[ax]at hx;have R':vP ((wr.drewN nq).setCell ⟨w.heap.size,j,none⟩ (.int .u8 (bits .xor .u8 (((xq (bs key) (bs oh) (bs s) j)[j]?.getD 0:Nat):Int) (T[q].toNat:Int)))) w.heap.size 5 (xq (bs key) (bs oh) (bs s) (j+1)):=
      (R.drewN nq).store j (by rw[BP,bs_len];omega) hx
     have K':Keep nM w ((wr.drewN nq).setCell ⟨w.heap.size,j,none⟩ (.int .u8 (bits .xor .u8 (((xq (bs key) (bs oh) (bs s) j)[j]?.getD 0:Nat):Int) (T[q].toNat:Int)))):=(K.drewN nq).setCell (p:=⟨w.heap.size,j,none⟩) (.inr (aF _)) _;clear hx hT;go_roundw
     case rel=>first|exact⟨j+1,by omega,by omega,by omega,by go_num,R',K'⟩|((repeat apply Exists.intro);exact⟨⟨j+1,by omega,by omega,by omega,by go_num,R',K'⟩,rfl⟩)
     case measure=>simp[intOf];omega
    ·have d1:((j:Int)<s.size∧64*(m:Int)+64<=(j:Int))∨((s.size:Int)<=(j:Int)):=by omega
     clear hin;have R':vP wr w.heap.size 5 (xq (bs key) (bs oh) (bs s) (64*(m+1))):=by
      by_cases h:j=64*(m+1)
      ·rw[<-h];exact R
      ·have e:j=s.size:=by omega
       rw[J5 _ _ _ _ (by rw[bs_len];omega)];rw[J5 _ _ _ _ (by rw[bs_len];omega)]at R;exact R
     clear R;rcases d1 with⟨d1,d2⟩|d1
     all_goals
      go_wp2;go_roundw
      case rel=>first|exact⟨m+1,by omega,by go_num,R',K⟩|((repeat apply Exists.intro);exact⟨⟨m+1,by omega,by go_num,R',K⟩,rfl⟩)
      case measure=>simp[intOf];omega
  ·have hd:(s.size:Int)<=64*(m:Int):=by omega
   have hm0:(64*(m:Int)==0)=false:=by simp;omega
   have hm1:((m:Int)==0)=false:=by simp;omega
   rw[J5 _ _ _ _ (by rw[bs_len];omega)]at R;have hcv:=xK (P:=Tryz.prog) (cap:=cap) R Tryz.underlying33 Tryz.underlying5 Tryz.underlying9;rw[BG,bs_len]at hcv;go_wp2
   go_ret2
   exact⟨rfl,K⟩
theorem zdx(key oh:af)(hk0:key.size=32)(hn0:oh.size=12)(w:World):
  Calls Tryz.prog 179 #[.string key,.string oh,.string ByteArray.empty] w λe w'=>e= .returned (.tuple #[.string (txt []),.nilIface])∧Keep nM w w':=by
 have Hk:=Lib.hid hk0;have Hn:=Lib.hid hn0;clear hk0 hn0;have hcv:=jh (P:=Tryz.prog) w 9 33 5 ByteArray.empty Tryz.underlying9 Tryz.underlying33 Tryz.underlying5;go_enter Tryz.func179,Tryz.ntmps179;go_wp2_with fail;obtain⟨cap,hcap⟩:∃c,c=grownCap w 0 0 5:=⟨_,rfl⟩
 rw[<-hcap];refine pK (λw1=>Keep nM w w1∧vP w1 w.heap.size 5 (bs ByteArray.empty)) ⟨(ah _ _).bytesWorld _ _,vP.ofBytes w _ _⟩ ?_;clear hcv hcap;intro w1 hw1;obtain⟨K,R⟩:=hw1;refine lN 2 ?_;rw[lZ];go_wp2_with fail;refine(ZA key oh _ 1 (by rfl) Hk.out Hn.out (by omega) _).mono ?_;rintro e w2 ⟨T,rfl,HT,K2⟩;have R2:=R.keep K2 (λx=>x);have K3:=K.nK K2;clear R K K2;go_wp2_with fail;refine lN 1 ?_;rw[lZ];go_wp2_with fail;rw[lZ];have hcv:=xK (P:=Tryz.prog) (cap:=cap) R2 Tryz.underlying33 Tryz.underlying5 Tryz.underlying9;have e0:(bs ByteArray.empty).length=0:=rfl;rw[e0]at hcv;go_wp2
 go_ret2
 exact⟨rfl,K3⟩
theorem zcF(key oh s:af)(hk0:key.size=32)(hn0:oh.size=12)(hs:s.size<=1000000)(w:World):
  Calls Tryz.prog 179 #[.string key,.string oh,.string s] w λe w'=>e= .returned (.tuple #[.string (txt (xor (bs key) (bs oh) (bs s))),.nilIface])∧Keep nM w w':=by
 by_cases h:0<s.size
 ·exact ziv key oh s hk0 hn0 h hs w
 ·have hz:bs s= []:=aU (by rw[bs_len];omega);have e:s=ByteArray.empty:=xy (by rw[hz];rfl);subst e;rw[hz];exact zdx key oh hk0 hn0 w
def mk2(a b:af):af:=txt (mark 117 [bs a,bs b])
theorem Za(a b:af):(mk2 a b).size=16:=by rw[mk2,oU,mark,bG,yB];omega
theorem ziE(a b:af)(ha:a.size<=1000)(hb:b.size<=1000):(pV 117 ([a,b].map bs)).length<=100000:=by simp[pV,qB,ql,bs_len];omega
theorem zf5(a b:af):txt (mark 117 ([a,b].map bs))=mk2 a b:=rfl
def upL(l:List af):List af:=(List.range (l.length/2)).map λj=>mk2 (l.getD (2*j) ⟨#[]⟩) (l.getD (2*j+1) ⟨#[]⟩)
theorem zcG(l:List af):(upL l).length=l.length/2:=by simp[upL]
theorem ziB(l:List af):∀s∈upL l,s.size=16:=by intro s hs;obtain⟨j,_,rfl⟩:=bf.1 hs;exact Za _ _
def ups:Nat->List af->List af
 | 0,l=>l
 | i+1,l=>upL (ups i l)
theorem ziy(l:List af)(i:Nat):(ups i l).length=l.length/2^i:=by
 induction i with
 | zero=>simp[ups]
 | succ i ih=>rw[ups,zcG,ih,Nat.div_div_eq_div_mul,Nat.pow_succ]
theorem ziz(l:List af)(h:∀s∈l,s.size=16)(i:Nat):∀s∈ups i l,s.size=16:=by
 cases i with
 | zero=>exact h
 | succ i=>exact ziB _
def Jj(l:List af)(n:Nat):Bool:=decide (l.length=n)&&l.all λs=>decide (s.size=16)
theorem AV{l:List af}{n:Nat} :Jj l n=true↔l.length=n∧∀s∈l,s.size=16:=by simp[Jj]
def rV(l:List af):af:=if Jj l 32 then(ups 5 l).getD 0 ⟨#[]⟩else⟨#[]⟩
def QI(l:List af):Int:=if Jj l 32 then 0 else 1
theorem P6(a b:List af):strCells (a++b)=strCells a++strCells b:=by simp[strCells]
section
variable {P:Program}{w:World}
end
def zkt:Value:= .slice none 0 0
def zbd(v:Value)(vs:List Value)(L:List (List af))(b:Nat):Prop:=v.ownBlock=some b∨∃i,i<L.length∧(vs.getD i zkt).ownBlock=some b
structure zjV(w:World)(base:Nat)(E:TypeId)(v:Value)(vs:List Value)(L:List (List af)):Prop where
 own:nV w base E 1 v L.length vs
 strs:∀i,i<L.length->Strs w (vs.getD i zkt) (L.getD i [])
 lt:∀i b,i<L.length->(vs.getD i zkt).ownBlock=some b->base<=b∧b<w.heap.size∧v.ownBlock≠some b
section
variable {w w':World}{base:Nat}{E:TypeId}{v:Value}{vs:List Value}{L:List (List af)}
end
end Go.Proofs.YtopbkdebihcmcaaGreatDoor
