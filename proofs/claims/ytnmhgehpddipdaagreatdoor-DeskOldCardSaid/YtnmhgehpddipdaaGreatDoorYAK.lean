import Derived.Test.YtnmhgehpddipdaaGreatDoorYAA
import Derived.Test.YtnmhgehpddipdaaGreatDoorYAD
import Derived.Test.YtnmhgehpddipdaaGreatDoorProg
import Derived.WalkLawsBesides
import Derived.WalkSpells
import Derived.LoopTactic
import Derived.RegionTactic
import Derived.Deep.QuietTactic
import Derived.BigQuiet
import Derived.OwnWalk
import Derived.Lib.Hide
import Derived.WideLaws
set_option linter.unusedSimpArgs false
set_option linter.unusedVariables false
namespace Go.Cof
open Go.RowKit
theorem w32_nat(a:Nat)(ha:a<4294967296):(BitVec.ofInt 32 (a:Int)).toNat=a:=by
 rw[BitVec.ofInt_natCast,BitVec.toNat_ofNat];exact Nat.mod_eq_of_lt (by omega)
theorem w32_or(a b:Nat)(ha:a<4294967296)(hb:b<4294967296):bits .or .u32 (a:Int) (b:Int)=((a|||b:Nat):Int):=by
 have hx:a|||b<2^32:=Nat.or_lt_two_pow (by omega) (by omega)
 show IntKind.u32.wrap ((BitVec.ofInt 32 (a:Int)|||BitVec.ofInt 32 (b:Int)).toNat:Int)=_
 rw[BitVec.toNat_or,w32_nat a ha,w32_nat b hb,IntKind.wrap_u32]
 omega
theorem w32_xor(a b:Nat)(ha:a<4294967296)(hb:b<4294967296):bits .xor .u32 (a:Int) (b:Int)=((a^^^b:Nat):Int):=by
 have hx:a^^^b<2^32:=Nat.xor_lt_two_pow (by omega) (by omega)
 show IntKind.u32.wrap ((BitVec.ofInt 32 (a:Int)^^^BitVec.ofInt 32 (b:Int)).toNat:Int)=_
 rw[BitVec.toNat_xor,w32_nat a ha,w32_nat b hb,IntKind.wrap_u32]
 omega
theorem w32_and(a b:Nat)(ha:a<4294967296)(hb:b<4294967296):bits .and .u32 (a:Int) (b:Int)=((a&&&b:Nat):Int):=by
 have hx:a&&&b<2^32:=Nat.lt_of_le_of_lt Nat.and_le_left (by omega)
 show IntKind.u32.wrap ((BitVec.ofInt 32 (a:Int)&&&BitVec.ofInt 32 (b:Int)).toNat:Int)=_
 rw[BitVec.toNat_and,w32_nat a ha,w32_nat b hb,IntKind.wrap_u32]
 omega
theorem w32_lt_xor(a b:Nat)(ha:a<4294967296)(hb:b<4294967296):a^^^b<4294967296:=Nat.xor_lt_two_pow (n:=32) ha hb
theorem w32_rotr(x n:Nat)(hx:x<4294967296):bits .or .u32 ((x:Int)/2^n) ((x:Int)*2^(32-n) % 4294967296)=((rotr x n:Nat):Int):=by
 have e1:((x:Int)*2^(32-n) % 4294967296)=((x*2^(32-n) % 4294967296:Nat):Int):=by simp
 have e2:((x:Int)/2^n)=((x/2^n:Nat):Int):=by simp
 rw[e1,e2]
 exact w32_or _ _ (Nat.lt_of_le_of_lt (Nat.div_le_self _ _) hx) (Nat.mod_lt _ (by omega))
theorem ret_u32'{a b:Int}(h:a=b):Ending.returned (.int .u32 a)= .returned (.int .u32 b):=by rw[h]
end Go.Cof
namespace Go.Proofs.YtnmhgehpddipdaaGreatDoor
open Go.RowKit Go.Cof
theorem sumTurn_any(x:Int)(X n:Nat)(hx:X<4294967296)(he:x=X)(hn:n<=32)(w:World):
  Calls Tryz.prog 236 #[.int .u32 x,.int .i64 n] w λe w'=>e= .returned (.int .u32 (rotr X n))∧∃k,w'=w.drewN k:=by
 subst he
 go_enter Tryz.func236,Tryz.ntmps236
 go_wp2
 go_quiet (fail)
 go_wp2
 go_ret
 exact⟨ret_u32' (w32_rotr X n hx),⟨_,rfl⟩⟩
theorem sumTurn_quiet(x n:Int)(hx0:0<=x)(hx:x<4294967296)(hn0:0<=n)(hn:n<=32)(w:World)(k:Nat):
  Calls Tryz.prog 236 #[.int .u32 x,.int .i64 n] (w.drewN k) λe w''=>e= .returned (.int .u32 (rotr x.toNat n.toNat:Nat))∧∃m,w''=w.drewN m:=by
 obtain⟨X,rfl⟩:∃X:Nat,x=X:=⟨x.toNat,by omega⟩
 obtain⟨N,rfl⟩:∃N:Nat,n=N:=⟨n.toNat,by omega⟩
 exact Calls.quiet_of (sumTurn_any _ X N (by omega) rfl (by omega) _)
def RoundsVar(w:World):Prop:=∀i,i<64->w.cell? ⟨5,i,none⟩=some (.int .u32 ((roundsK.getD i 0:Nat):Int))
theorem RoundsVar.keep{w w':World}(h:RoundsVar w){S:Nat->Prop}(hk:Keep S w w')(hn:¬S 5):RoundsVar w':=
 λi hi=>by
  have h1:=h i hi
  rw[<-h1]
  refine hk.cell ?_ hn
  rcases Nat.lt_or_ge 5 w.heap.size with h'|h'
  ·exact h'
  ·simp[World.cell?,Array.getElem?_eq_none h']at h1
theorem rotr_xor(x a b c:Nat)(hx:x<4294967296)(hc:c<4294967296):bits BinOp.xor IntKind.u32 (bits BinOp.xor IntKind.u32 ((rotr x a:Nat):Int) ((rotr x b:Nat):Int)) ((c:Nat):Int)=((rotr x a^^^rotr x b^^^c:Nat):Int):=by
 rw[w32_xor _ _ (rotr_lt x a hx) (rotr_lt x b hx),w32_xor _ _ (w32_lt_xor _ _ (rotr_lt x a hx) (rotr_lt x b hx)) hc]
theorem small0_bits(x:Nat)(hx:x<4294967296):bits BinOp.xor IntKind.u32 (bits BinOp.xor IntKind.u32 ((rotr x 7:Nat):Int) ((rotr x 18:Nat):Int)) ((x:Int)/8)=((small0 x:Nat):Int):=by
 have e:(x:Int)/8=((x/2^3:Nat):Int):=by omega
 rw[e]
 exact rotr_xor x 7 18 _ hx (Nat.lt_of_le_of_lt (Nat.div_le_self _ _) hx)
theorem small1_bits(x:Nat)(hx:x<4294967296):bits BinOp.xor IntKind.u32 (bits BinOp.xor IntKind.u32 ((rotr x 17:Nat):Int) ((rotr x 19:Nat):Int)) ((x:Int)/1024)=((small1 x:Nat):Int):=by
 have e:(x:Int)/1024=((x/2^10:Nat):Int):=by omega
 rw[e]
 exact rotr_xor x 17 19 _ hx (Nat.lt_of_le_of_lt (Nat.div_le_self _ _) hx)
theorem bigE_bits(x:Nat)(hx:x<4294967296):bits BinOp.xor IntKind.u32 (bits BinOp.xor IntKind.u32 ((rotr x 6:Nat):Int) ((rotr x 11:Nat):Int)) ((rotr x 25:Nat):Int)=((bigE x:Nat):Int):=
 rotr_xor x 6 11 _ hx (rotr_lt x 25 hx)
theorem bigA_bits(x:Nat)(hx:x<4294967296):bits BinOp.xor IntKind.u32 (bits BinOp.xor IntKind.u32 ((rotr x 2:Nat):Int) ((rotr x 13:Nat):Int)) ((rotr x 22:Nat):Int)=((bigA x:Nat):Int):=
 rotr_xor x 2 13 _ hx (rotr_lt x 22 hx)
theorem or4be(a b c d:Nat)(ha:a<256)(hb:b<256)(hc:c<256)(hd:d<256):
  bits BinOp.or IntKind.u32 (bits BinOp.or IntKind.u32 (bits BinOp.or IntKind.u32 ((a:Int) % 4294967296*16777216 % 4294967296) ((b:Int) % 4294967296*65536 % 4294967296)) ((c:Int) % 4294967296*256 % 4294967296)) ((d:Int) % 4294967296)=((16777216*a+65536*b+256*c+d:Nat):Int):=by
 have e0:(a:Int) % 4294967296*16777216 % 4294967296=((2^24*a:Nat):Int):=by omega
 have e1:(b:Int) % 4294967296*65536 % 4294967296=((65536*b:Nat):Int):=by omega
 have e2:(c:Int) % 4294967296*256 % 4294967296=((256*c:Nat):Int):=by omega
 have e3:(d:Int) % 4294967296=(d:Nat):=by omega
 have o1:2^24*a|||65536*b=2^16*(256*a+b):=by
  rw[<-Nat.two_pow_add_eq_or_of_lt (by omega)];omega
 have o2:2^16*(256*a+b)|||256*c=2^8*(65536*a+256*b+c):=by
  rw[<-Nat.two_pow_add_eq_or_of_lt (by omega)];omega
 have o3:2^8*(65536*a+256*b+c)|||d=16777216*a+65536*b+256*c+d:=by
  rw[<-Nat.two_pow_add_eq_or_of_lt (by omega)];omega
 rw[e0,e1,e2,e3,w32_or _ _ (by omega) (by omega),o1,w32_or _ _ (by omega) (by omega),o2,w32_or _ _ (by omega) (by omega),o3]
theorem add32(a b:Nat):∃p:Nat,Hid (p=(a+b) % 4294967296)∧IntKind.u32.wrap ((a:Int)+(b:Int))=(p:Int):=
 ⟨(a+b) % 4294967296,rfl,by rw[IntKind.wrap_u32];omega⟩
theorem and32(a b:Nat)(ha:(a:Int)<4294967296)(hb:(b:Int)<4294967296):∃p:Nat,Hid (p=a&&&b)∧(p:Int)<4294967296∧bits BinOp.and IntKind.u32 (a:Int) (b:Int)=(p:Int):=by
 have:a&&&b<4294967296:=Nat.lt_of_le_of_lt Nat.and_le_left (by omega)
 exact⟨a&&&b,rfl,by omega,w32_and a b (by omega) (by omega)⟩
theorem xor32(a b:Nat)(ha:(a:Int)<4294967296)(hb:(b:Int)<4294967296):∃p:Nat,Hid (p=a^^^b)∧(p:Int)<4294967296∧bits BinOp.xor IntKind.u32 (a:Int) (b:Int)=(p:Int):=by
 have:a^^^b<4294967296:=w32_lt_xor a b (by omega) (by omega)
 exact⟨a^^^b,rfl,by omega,w32_xor a b (by omega) (by omega)⟩
theorem compl_eq(a:Nat)(ha:a<4294967296):4294967295^^^a=4294967295-a:=by
 refine bits_eq λi=> ?_
 rw[Nat.testBit_xor,compl_bit a i ha]
 have h1:(4294967295:Nat).testBit i=decide (i<32):=Nat.testBit_two_pow_sub_one 32 i
 rw[h1]
 by_cases hi:i<32
 ·simp[hi]
 ·rw[high_bit a i ha hi];simp[hi]
theorem not32(a:Nat)(ha:(a:Int)<4294967296):∃p:Nat,Hid (p=4294967295-a)∧(p:Int)<4294967296∧bits BinOp.xor IntKind.u32 (if IntKind.u32.signed=true then-1 else IntKind.u32.max) (a:Int)=(p:Int):=by
 refine⟨4294967295-a,rfl,by omega,?_⟩
 have h:=w32_xor 4294967295 a (by omega) (by omega)
 rw[compl_eq a (by omega)]at h
 exact h
theorem addm32(a b:Nat):∃p:Nat,Hid (p=(a+b) % 4294967296)∧(p:Int)<4294967296∧((a:Int)+(b:Int)) % 4294967296=(p:Int):=
 ⟨(a+b) % 4294967296,rfl,by omega,by omega⟩
theorem list8(v:List Nat)(h:v.length=8):∃x0 x1 x2 x3 x4 x5 x6 x7,v= [x0,x1,x2,x3,x4,x5,x6,x7]:=by
 match v,h with
 | [x0,x1,x2,x3,x4,x5,x6,x7],_=>exact⟨x0,x1,x2,x3,x4,x5,x6,x7,rfl⟩
set_option maxRecDepth 100000 in
set_option maxHeartbeats 8000000 in
theorem sumBlock_any(H:Nat)(h:List Nat)(s:ByteArray)(hs:Hid (s.size=64))(hl:Hid (h.length=8))(L:W32 h)(w:World)(R:Row w H .u32 240 h)(V:RoundsVar w)(hH:H≠5):
  Calls Tryz.prog 181 #[.pointer (some ⟨H,0,none⟩),.string s] w λe w'=>e= .returned (.tuple #[])∧Row w' H .u32 240 (compress h (bs s))∧Keep (OneB H) w w':=by
 go_enter Tryz.func181,Tryz.ntmps181
 go_wp2_with fail
 refine wp_world (λw1=>Row w1 w.heap.size .u32 284 (sched0 (bs s) 0)∧Row w1 H .u32 240 h∧Keep NoB w w1) ⟨heap_alloc_new w _,R.keep ((Keep.refl NoB w).alloc _) (λx=>x),(Keep.refl _ _).alloc _⟩ ?_
 have hH2:H<w.heap.size:=R.lt
 clear R
 intro w1 hw1
 go_loopw [16] (λi wr=>∃k:Nat,k<=16∧i= .int .i64 k∧Row wr w.heap.size .u32 284 (sched0 (bs s) k)∧Row wr H .u32 240 h∧Keep NoB w wr) (λi _=>16-(intOf i).toNat)
 case atStart=>exact⟨0,by omega,rfl,hw1⟩
 case round=>
  clear hw1 w1
  obtain⟨k,hk,rfl,RW,RH,K⟩:=hrel
  by_cases hlt:k<16
  ·have j1:(k:Int)<16:=by omega
   have j2:(k:Int)<64:=by omega
   have f1:=RW.free k
   have c1:=RW.cell k (by rw[sched0_len];omega)
   obtain⟨q0,e0⟩:∃q,q=4*k:=⟨_,rfl⟩
   obtain⟨q1,e1⟩:∃q,q=4*k+1:=⟨_,rfl⟩
   obtain⟨q2,e2⟩:∃q,q=4*k+2:=⟨_,rfl⟩
   obtain⟨q3,e3⟩:∃q,q=4*k+3:=⟨_,rfl⟩
   have w0:IntKind.i64.wrap (4*(k:Int))=(q0:Int):=by rw[IntWalk.i64_in _ (by omega)];omega
   have w1:IntKind.i64.wrap ((q0:Int)+1)=(q1:Int):=by rw[IntWalk.i64_in _ (by omega)];omega
   have w2:IntKind.i64.wrap ((q0:Int)+2)=(q2:Int):=by rw[IntWalk.i64_in _ (by omega)];omega
   have w3:IntKind.i64.wrap ((q0:Int)+3)=(q3:Int):=by rw[IntWalk.i64_in _ (by omega)];omega
   have l0:q0<s.size:=by rw[hs.out];omega
   have l1:q1<s.size:=by rw[hs.out];omega
   have l2:q2<s.size:=by rw[hs.out];omega
   have l3:q3<s.size:=by rw[hs.out];omega
   have E0:=Lib.hid e0
   have E1:=Lib.hid e1
   have E2:=Lib.hid e2
   have E3:=Lib.hid e3
   clear e0 e1 e2 e3
   go_wp2_with fail
   refine wp_region_qt_drew 31 (by kernel_rfl) (by kernel_rfl) ?_
   simp only[List.take_succ_cons,List.take_zero,List.drop_succ_cons,List.drop_zero]
   repeat(quiet_step (fail))
   refine wpQuiet_nil ?_
   intro nq
   go_wp2_with fail
   have hv:bits BinOp.or IntKind.u32 (bits BinOp.or IntKind.u32 (bits BinOp.or IntKind.u32 ((s[q0].toNat:Int) % 4294967296*16777216 % 4294967296) ((s[q1].toNat:Int) % 4294967296*65536 % 4294967296)) ((s[q2].toNat:Int) % 4294967296*256 % 4294967296)) ((s[q3].toNat:Int) % 4294967296)=((be32 (bs s) (4*k):Nat):Int):=by
    rw[be32,<-E0.out,show q0+1=q1 by rw[E0.out,E1.out],show q0+2=q2 by rw[E0.out,E2.out],show q0+3=q3 by rw[E0.out,E3.out],bs_getD s q0 l0,bs_getD s q1 l1,bs_getD s q2 l2,bs_getD s q3 l3]
    exact or4be _ _ _ _ s[q0].toNat_lt s[q1].toNat_lt s[q2].toNat_lt s[q3].toNat_lt
   refine⟨⟨k+1,by omega,by go_num,(RW.drewN nq).store k hv,(RH.drewN nq).keep (Keep.set1 (Keep.refl _ _) _ _) (λe=>by simp only[Cof.OneB]at e;omega),(K.drewN nq).setCell (.inr (Nat.le_refl _)) _⟩,by simp[intOf];omega⟩
  ·have j1:decide ((k:Int)<16)=false:=by simp;omega
   have RW1:Row wr w.heap.size .u32 284 (sched1 (bs s) 0):=by
    have:k=16:=by omega
    rw[this]at RW
    exact RW
   clear hlt hk RW
   go_wp2_with fail
   refine wp_world (λw1=>Row w1 w.heap.size .u32 284 (sched1 (bs s) 0)∧Row w1 H .u32 240 h∧Keep NoB w w1) ⟨RW1,RH,K⟩ ?_
   clear RW1 RH K wr j1
   intro w1 hw1
   go_loopw [6] (λi wr=>∃n:Nat,n<=64∧16<=n∧i= .int .i64 n∧Row wr w.heap.size .u32 284 (sched1 (bs s) (n-16))∧Row wr H .u32 240 h∧Keep NoB w wr) (λi _=>64-(intOf i).toNat)
   case atStart=>exact⟨16,by omega,by omega,rfl,hw1⟩
   case round=>
    clear hw1 w1
    obtain⟨n,hn,hn2,rfl,RW,RH,K⟩:=hrel
    by_cases hlt:n<64
    ·have j1:(n:Int)<64:=by omega
     obtain⟨m,hm⟩:∃m,m=sched1 (bs s) (n-16):=⟨_,rfl⟩
     have LM:W32 m:=by rw[hm];exact W32.sched1 _ (bs_lt s) _
     have lm:m.length=64:=by rw[hm,sched1_len]
     rw[<-hm]at RW
     have Hm:=Lib.hid hm
     clear hm
     obtain⟨q1,e1⟩:∃q,q=n-15:=⟨_,rfl⟩
     obtain⟨q2,e2⟩:∃q,q=n-2:=⟨_,rfl⟩
     obtain⟨q0,e0⟩:∃q,q=n-16:=⟨_,rfl⟩
     obtain⟨q7,e7⟩:∃q,q=n-7:=⟨_,rfl⟩
     have w1:IntKind.i64.wrap ((n:Int)-15)=(q1:Int):=by rw[IntWalk.i64_in _ (by omega)];omega
     have w2:IntKind.i64.wrap ((n:Int)-2)=(q2:Int):=by rw[IntWalk.i64_in _ (by omega)];omega
     have w0:IntKind.i64.wrap ((n:Int)-16)=(q0:Int):=by rw[IntWalk.i64_in _ (by omega)];omega
     have w7:IntKind.i64.wrap ((n:Int)-7)=(q7:Int):=by rw[IntWalk.i64_in _ (by omega)];omega
     have l1:(q1:Int)<64:=by omega
     have l2:(q2:Int)<64:=by omega
     have l0:(q0:Int)<64:=by omega
     have l7:(q7:Int)<64:=by omega
     have c1:=RW.cell q1 (by rw[lm];omega)
     have c2:=RW.cell q2 (by rw[lm];omega)
     have c0:=RW.cell q0 (by rw[lm];omega)
     have c7:=RW.cell q7 (by rw[lm];omega)
     have f1:=RW.free n
     have cn:=RW.cell n (by rw[lm];omega)
     have E0:=Lib.hid e0
     have E1:=Lib.hid e1
     have E2:=Lib.hid e2
     have E7:=Lib.hid e7
     clear e0 e1 e2 e7
     go_wp2_with fail
     have LMi:∀q,((m[q]?.getD 0:Nat):Int)<4294967296:=λq=>by
      have:=LM q
      rw[List.getD_eq_getElem?_getD]at this
      omega
     obtain⟨a1,ha1⟩:∃a,a=small0 (m.getD q1 0):=⟨_,rfl⟩
     obtain⟨a2,ha2⟩:∃a,a=small1 (m.getD q2 0):=⟨_,rfl⟩
     have b1:=small0_bits (m.getD q1 0) (LM q1)
     have b2:=small1_bits (m.getD q2 0) (LM q2)
     rw[<-ha1]at b1
     rw[<-ha2]at b2
     simp only[List.getD_eq_getElem?_getD]at b1 b2
     have A1:=Lib.hid ha1
     have A2:=Lib.hid ha2
     clear ha1 ha2
     go_quiet ((go_at_call 236;exact sumTurn_quiet _ _ (by omega) (LMi _) (by decide) (by decide) _ _))
     go_wp2_with fail
     refine wp_world (λw1=>Row w1 w.heap.size .u32 284 m∧Row w1 H .u32 240 h∧Keep NoB w w1) ⟨RW.drewN nq,RH.drewN nq,K.drewN nq⟩ ?_
     clear RW RH K c1 c2 c0 c7 f1 cn nq wr
     intro wr hwr
     obtain⟨RW,RH,K⟩:=hwr
     have c1:=RW.cell q1 (by rw[lm];omega)
     have c2:=RW.cell q2 (by rw[lm];omega)
     have c0:=RW.cell q0 (by rw[lm];omega)
     have c7:=RW.cell q7 (by rw[lm];omega)
     have f1:=RW.free n
     have cn:=RW.cell n (by rw[lm];omega)
     go_quiet ((go_at_call 236;exact sumTurn_quiet _ _ (by omega) (LMi _) (by decide) (by decide) _ _))
     go_wp2_with fail
     refine wp_world (λw1=>Row w1 w.heap.size .u32 284 m∧Row w1 H .u32 240 h∧Keep NoB w w1) ⟨RW.drewN nq,RH.drewN nq,K.drewN nq⟩ ?_
     clear RW RH K c1 c2 c0 c7 f1 cn nq wr
     intro wr hwr
     obtain⟨RW,RH,K⟩:=hwr
     have c1:=RW.cell q1 (by rw[lm];omega)
     have c2:=RW.cell q2 (by rw[lm];omega)
     have c0:=RW.cell q0 (by rw[lm];omega)
     have c7:=RW.cell q7 (by rw[lm];omega)
     have f1:=RW.free n
     have cn:=RW.cell n (by rw[lm];omega)
     refine wp_region_qt_drew 15 (by kernel_rfl) (by kernel_rfl) ?_
     simp only[List.take_succ_cons,List.take_zero,List.drop_succ_cons,List.drop_zero]
     repeat(quiet_step (fail))
     refine wpQuiet_nil ?_
     intro nq2
     go_wp2_with fail
     have hv:((m[q0]?.getD 0:Nat)+(a1:Int)+(m[q7]?.getD 0:Nat)+(a2:Int)) % 4294967296=(((m.getD q0 0+a1+m.getD q7 0+a2) % 4294967296:Nat):Int):=by
      simp only[List.getD_eq_getElem?_getD];omega
     have hst:m.set n ((m.getD q0 0+a1+m.getD q7 0+a2) % 4294967296)=sched1 (bs s) (n+1-16):=by
      rw[show n+1-16=(n-16)+1 by omega,sched1,times_succ,<-sched1,<-Hm.out,schedStep,A1.out,A2.out,E0.out,E1.out,E2.out,E7.out,
       show 16+(n-16)=n by omega,show 1+(n-16)=n-15 by omega,show 9+(n-16)=n-7 by omega,show 14+(n-16)=n-2 by omega]
     refine⟨⟨n+1,by omega,by omega,by go_num,?_,(RH.drewN nq2).keep (Keep.set1 (Keep.refl _ _) _ _) (λe=>by simp only[Cof.OneB]at e;omega),(K.drewN nq2).setCell (.inr (Nat.le_refl _)) _⟩,by simp[intOf];omega⟩
     rw[<-hst]
     exact(RW.drewN nq2).store n hv
    ·have j1:decide ((n:Int)<64)=false:=by simp;omega
     have RW1:Row wr w.heap.size .u32 284 (sched (bs s)):=by
      have:n=64:=by omega
      rw[this]at RW
      exact RW
     clear hlt hn hn2 RW
     have hi8:(Tryz.prog.info? 240).map (·.size)=some (ints .u32 h).size:=by rw[ints_size,hl.out];kernel_rfl
     have Hi8:=Lib.hid hi8
     clear hi8
     have Hs8:Hid ((ints .u32 h).size=8):=by show(ints .u32 h).size=8;rw[ints_size,hl.out]
     go_wp2_with (first|(refine wpList_load_row rfl 240 _ rfl H rfl 240 (ints .u32 h) (0,0) _ RH Tryz.underlying240 rfl Hi8.out ?_)|(refine wpList_store_whole rfl 240 _ _ rfl wr.heap.size 240 _ (ints .u32 h) rfl rfl (heap_alloc_new wr _) Hi8.out 8 ?_ Hs8.out (ints_one _ _) ?_;exact rfl))
     go_wp2_with fail
     obtain⟨BT,hBT⟩:∃b,b=wr.heap.size:=⟨_,rfl⟩
     have hlt1:w.heap.size<BT:=by rw[hBT];exact RW1.lt
     refine wp_world (λw1=>Row w1 BT .u32 240 (stepsV (sched (bs s)) h 0)∧Row w1 w.heap.size .u32 284 (sched (bs s))∧Row w1 H .u32 240 h∧Keep NoB w w1) ⟨by rw[hBT];exact heap_setRow (heap_alloc_new wr _),(RW1.keep ((Keep.refl NoB wr).alloc _) (λx=>x)).keep ((Keep.refl (OneB wr.heap.size) _).setRow (.inl rfl) _) (λe=>by simp only[OneB]at e;omega),(RH.keep ((Keep.refl NoB wr).alloc _) (λx=>x)).keep ((Keep.refl (OneB wr.heap.size) _).setRow (.inl rfl) _) (λe=>by simp only[OneB]at e;omega),(K.alloc _).setRow (.inr (by omega)) _⟩ ?_
     rw[<-hBT]
     clear RW1 RH K hBT wr j1 Hi8 Hs8
     have LM:W32 (sched (bs s)):=W32.sched1 _ (bs_lt s) _
     have lm:(sched (bs s)).length=64:=sched1_len _ _
     generalize hm:sched (bs s)=m at LM lm
     have Hm:=Lib.hid hm
     clear hm
     intro w1 hw1
     go_loopw [107] (λi wr=>∃j:Nat,j<=64∧i= .int .i64 j∧Row wr BT .u32 240 (stepsV m h j)∧Row wr w.heap.size .u32 284 m∧Row wr H .u32 240 h∧Keep NoB w wr) (λi _=>64-(intOf i).toNat)
     case atStart=>exact⟨0,by omega,rfl,hw1⟩
     case round=>
      clear hw1 w1
      obtain⟨j,hj,rfl,RV,RW,RH,K⟩:=hrel
      by_cases hlt:j<64
      ·have j1:(j:Int)<64:=by omega
       obtain⟨v,hv⟩:∃v,v=stepsV m h j:=⟨_,rfl⟩
       have LV:W32 v:=by rw[hv];exact W32.steps _ L _
       have lv:v.length=8:=by rw[hv,stepsV_len _ _ hl.out]
       rw[<-hv]at RV
       have Hv:=Lib.hid hv
       clear hv
       obtain⟨x0,x1,x2,x3,x4,x5,x6,x7,rfl⟩:∃x0 x1 x2 x3 x4 x5 x6 x7,v= [x0,x1,x2,x3,x4,x5,x6,x7]:=list8 v lv
       clear lv
       have b0:(x0:Int)<4294967296:=by have:=LV 0;simp at this;omega
       have b1:(x1:Int)<4294967296:=by have:=LV 1;simp at this;omega
       have b2:(x2:Int)<4294967296:=by have:=LV 2;simp at this;omega
       have b3:(x3:Int)<4294967296:=by have:=LV 3;simp at this;omega
       have b4:(x4:Int)<4294967296:=by have:=LV 4;simp at this;omega
       have b5:(x5:Int)<4294967296:=by have:=LV 5;simp at this;omega
       have b6:(x6:Int)<4294967296:=by have:=LV 6;simp at this;omega
       have b7:(x7:Int)<4294967296:=by have:=LV 7;simp at this;omega
       have c0:wr.cell? ⟨BT,0,none⟩=some (.int .u32 (x0:Int)):=RV.cell 0 (by show 0<8;omega)
       have c4:wr.cell? ⟨BT,4,none⟩=some (.int .u32 (x4:Int)):=RV.cell 4 (by show 4<8;omega)
       obtain⟨aE,haE⟩:∃a,a=bigE x4:=⟨_,rfl⟩
       obtain⟨aA,haA⟩:∃a,a=bigA x0:=⟨_,rfl⟩
       have bE:=bigE_bits x4 (by omega)
       have bA:=bigA_bits x0 (by omega)
       rw[<-haE]at bE
       rw[<-haA]at bA
       have AE:=Lib.hid haE
       have AA:=Lib.hid haA
       clear haE haA
       go_wp2_with fail
       go_quiet ((go_at_call 236;exact sumTurn_quiet _ _ (by omega) b4 (by decide) (by decide) _ _))
       go_wp2_with fail
       refine wp_world (λw1=>Row w1 BT .u32 240 [x0,x1,x2,x3,x4,x5,x6,x7]∧Row w1 w.heap.size .u32 284 m∧Row w1 H .u32 240 h∧Keep NoB w w1) ⟨RV.drewN nq,RW.drewN nq,RH.drewN nq,K.drewN nq⟩ ?_
       clear RV RW RH K c0 c4 nq wr
       intro wr hwr
       obtain⟨RV,RW,RH,K⟩:=hwr
       obtain⟨rk,hrk⟩:∃r,r=roundsK.getD j 0:=⟨_,rfl⟩
       obtain⟨wk,hwk⟩:∃r,r=m.getD j 0:=⟨_,rfl⟩
       have cr:=(V.keep K (λx=>x)) j hlt
       have cw:=RW.cell j (by rw[lm];omega)
       rw[<-hrk]at cr
       rw[<-hwk]at cw
       have Hrk:=Lib.hid hrk
       have Hwk:=Lib.hid hwk
       clear hrk hwk
       have c4:wr.cell? ⟨BT,4,none⟩=some (.int .u32 (x4:Int)):=RV.cell 4 (by show 4<8;omega)
       have c5:wr.cell? ⟨BT,5,none⟩=some (.int .u32 (x5:Int)):=RV.cell 5 (by show 5<8;omega)
       have c6:wr.cell? ⟨BT,6,none⟩=some (.int .u32 (x6:Int)):=RV.cell 6 (by show 6<8;omega)
       have c7:wr.cell? ⟨BT,7,none⟩=some (.int .u32 (x7:Int)):=RV.cell 7 (by show 7<8;omega)
       obtain⟨p1,P1,e1⟩:=add32 x7 aE
       obtain⟨q1,Q1,d1,e2⟩:=and32 x4 x5 b4 b5
       obtain⟨q2,Q2,d2,e3⟩:=not32 x4 b4
       obtain⟨q3,Q3,d3,e4⟩:=and32 q2 x6 d2 b6
       obtain⟨q4,Q4,d4,e5⟩:=xor32 q1 q3 d1 d3
       obtain⟨p2,P2,e6⟩:=add32 p1 q4
       obtain⟨p3,P3,e7⟩:=add32 p2 rk
       obtain⟨p4,P4,e8⟩:=add32 p3 wk
       go_quiet (fail)
       clear e1 e2 e3 e4 e5 e6 e7 e8
       go_wp2_with fail
       refine wp_world (λw1=>Row w1 BT .u32 240 [x0,x1,x2,x3,x4,x5,x6,x7]∧Row w1 w.heap.size .u32 284 m∧Row w1 H .u32 240 h∧Keep NoB w w1) ⟨RV.drewN nq,RW.drewN nq,RH.drewN nq,K.drewN nq⟩ ?_
       clear RV RW RH K c4 c5 c6 c7 cr cw nq wr
       intro wr hwr
       obtain⟨RV,RW,RH,K⟩:=hwr
       have c0:wr.cell? ⟨BT,0,none⟩=some (.int .u32 (x0:Int)):=RV.cell 0 (by show 0<8;omega)
       go_quiet ((go_at_call 236;exact sumTurn_quiet _ _ (by omega) b0 (by decide) (by decide) _ _))
       have c1:wr.cell? ⟨BT,1,none⟩=some (.int .u32 (x1:Int)):=RV.cell 1 (by show 1<8;omega)
       have c2:wr.cell? ⟨BT,2,none⟩=some (.int .u32 (x2:Int)):=RV.cell 2 (by show 2<8;omega)
       have c3:wr.cell? ⟨BT,3,none⟩=some (.int .u32 (x3:Int)):=RV.cell 3 (by show 3<8;omega)
       have c4:wr.cell? ⟨BT,4,none⟩=some (.int .u32 (x4:Int)):=RV.cell 4 (by show 4<8;omega)
       have c5:wr.cell? ⟨BT,5,none⟩=some (.int .u32 (x5:Int)):=RV.cell 5 (by show 5<8;omega)
       have c6:wr.cell? ⟨BT,6,none⟩=some (.int .u32 (x6:Int)):=RV.cell 6 (by show 6<8;omega)
       obtain⟨r1,R1,f1,e1⟩:=and32 x0 x1 b0 b1
       obtain⟨r2,R2,f2,e2⟩:=and32 x0 x2 b0 b2
       obtain⟨r3,R3,f3,e3⟩:=xor32 r1 r2 f1 f2
       obtain⟨r4,R4,f4,e4⟩:=and32 x1 x2 b1 b2
       obtain⟨r5,R5,f5,e5⟩:=xor32 r3 r4 f3 f4
       obtain⟨t1,T1,g1,e6⟩:=addm32 aA r5
       obtain⟨t2,T2,g2,e7⟩:=addm32 p4 t1
       obtain⟨t3,T3,g3,e8⟩:=addm32 x3 p4
       have hi8:(Tryz.prog.info? 240).map (·.size)=some (ints .u32 [t2,x0,x1,x2,t3,x4,x5,x6]).size:=by kernel_rfl
       have Hi8:=Lib.hid hi8
       clear hi8
       go_wp2_with (first|(refine wpList_store_whole rfl 240 _ _ rfl BT 240 _ (ints .u32 [t2,x0,x1,x2,t3,x4,x5,x6]) rfl rfl (RV.drewN nq) Hi8.out 8 rfl rfl (ints_one _ _) ?_))
       have hq:q4=chs x4 x5 x6:=by rw[Q4.out,Q1.out,Q3.out,Q2.out];rfl
       have hr:r5=maj x0 x1 x2:=by rw[R5.out,R3.out,R4.out,R1.out,R2.out];rfl
       have hp:p4=(x7+bigE x4+chs x4 x5 x6+roundsK.getD j 0+m.getD j 0) % 4294967296:=by
        rw[P4.out,P3.out,P2.out,P1.out,hq,<-AE.out,<-Hrk.out,<-Hwk.out];omega
       have ht:t1=(bigA x0+maj x0 x1 x2) % 4294967296:=by rw[T1.out,hr,<-AA.out]
       have hst: [t2,x0,x1,x2,t3,x4,x5,x6]=stepsV m h (j+1):=by
        rw[stepsV,times_succ,<-stepsV,<-Hv.out,T2.out,T3.out,hp,ht];rfl
       have hBH:¬OneB BT H:=λe=>by simp only[OneB]at e;omega
       have hBW:¬OneB BT w.heap.size:=λe=>by simp only[OneB]at e;omega
       refine⟨⟨j+1,by omega,by go_num,?_,(RW.drewN nq).keep (Keep.setRow (Keep.refl (OneB BT) _) (.inl rfl) _) hBW,(RH.drewN nq).keep (Keep.setRow (Keep.refl (OneB BT) _) (.inl rfl) _) hBH,(K.drewN nq).setRow (.inr (by omega)) _⟩,by simp[intOf];omega⟩
       rw[<-hst]
       exact heap_setRow (RV.drewN nq)
      ·have j1:decide ((j:Int)<64)=false:=by simp;omega
       have RV1:Row wr BT .u32 240 (stepsV m h 64):=by
        have:j=64:=by omega
        rw[this]at RV
        exact RV
       clear hlt hj RV RW LM lm
       go_wp2_with fail
       obtain⟨v,hv⟩:∃v,v=stepsV m h 64:=⟨_,rfl⟩
       have LV:W32 v:=by rw[hv];exact W32.steps _ L _
       have lv:v.length=8:=by rw[hv,stepsV_len _ _ hl.out]
       rw[<-hv]at RV1
       have Hv:=Lib.hid hv
       have Hlv:=Lib.hid lv
       clear hv lv
       refine wp_world (λw1=>Row w1 BT .u32 240 v∧Row w1 H .u32 240 (addTo v h 0)∧Keep (OneB H) w w1) ⟨RV1,RH,K.ofN⟩ ?_
       clear RV1 RH K wr j1
       intro w1 hw1
       go_loopw [197] (λi wr=>∃q:Nat,q<=8∧i= .int .i64 q∧Row wr BT .u32 240 v∧Row wr H .u32 240 (addTo v h q)∧Keep (OneB H) w wr) (λi _=>8-(intOf i).toNat)
       case atStart=>exact⟨0,by omega,rfl,hw1⟩
       case round=>
        clear hw1 w1
        obtain⟨q,hq,rfl,RV,RH,K⟩:=hrel
        by_cases hlt:q<8
        ·have j1:(q:Int)<8:=by omega
         obtain⟨g,hg⟩:∃g,g=addTo v h q:=⟨_,rfl⟩
         have lg:g.length=8:=by rw[hg,addTo_len,hl.out]
         rw[<-hg]at RH
         have Hg:=Lib.hid hg
         clear hg
         have c1:=RH.cell q (by omega)
         have c2:=RV.cell q (by rw[Hlv.out];omega)
         have f1:=RH.free q
         clear lg
         obtain⟨a1,ha1⟩:∃a,a=g.getD q 0:=⟨_,rfl⟩
         obtain⟨a2,ha2⟩:∃a,a=v.getD q 0:=⟨_,rfl⟩
         rw[<-ha1]at c1
         rw[<-ha2]at c2
         have A1:=Lib.hid ha1
         have A2:=Lib.hid ha2
         clear ha1 ha2
         obtain⟨t1,T1,e1⟩:=add32 a1 a2
         go_wp2_with fail
         refine wp_region_qt_drew 11 (by kernel_rfl) (by kernel_rfl) ?_
         simp only[List.take_succ_cons,List.take_zero,List.drop_succ_cons,List.drop_zero]
         repeat(quiet_step (fail))
         refine wpQuiet_nil ?_
         intro nq
         go_wp2_with fail
         have hst:g.set q t1=addTo v h (q+1):=by
          rw[addTo,times_succ,<-addTo,<-Hg.out,T1.out,A1.out,A2.out]
         refine⟨⟨q+1,by omega,by go_num,(RV.drewN nq).keep (Keep.set1 (Keep.refl _ _) _ _) (λe=>by simp only[OneB]at e;omega),?_,(K.drewN nq).set1 _ _⟩,by simp[intOf];omega⟩
         rw[<-hst]
         exact(RH.drewN nq).store q rfl
        ·have j1:decide ((q:Int)<8)=false:=by simp;omega
         have RH1:Row wr H .u32 240 (compress h (bs s)):=by
          have:q=8:=by omega
          rw[this,Hv.out,<-Hm.out]at RH
          exact RH
         clear hlt hq RH
         go_wp2_with fail
         go_end0
         exact⟨rfl,RH1,K⟩
theorem info_u8:(Tryz.prog.info? 5).map (λi=>(i.zero,i.size,i.bytes))=some (some (.int .u8 0),1,1):=by kernel_rfl
theorem be64To_snoc(n k:Nat):u8s (be64To n k)++ [Value.int .u8 ((n/2^(8*(7-k)) % 256:Nat):Int)]=u8s (be64To n (k+1)):=by
 rw[be64To,u8s_append];rfl
theorem shr_byte(n k:Nat):(n:Int)/2^(8*(7-k)) % 256=((n/2^(8*(7-k)) % 256:Nat):Int):=by
 simp
set_option maxRecDepth 100000 in
set_option maxHeartbeats 4000000 in
theorem num_any(n:Nat)(hn:n<9223372036854775808)(w:World):
  Calls Tryz.prog 112 #[.int .i64 n] w λe w'=>e= .returned (.string (txt (be64 n)))∧Keep NoB w w':=by
 obtain⟨i0,hi0,hz0,hz1,hz2⟩:=info_parts info_u8
 have hn2:(n:Int)<=9223372036854775807:=by omega
 clear hn
 go_enter Tryz.func112,Tryz.ntmps112
 go_wp2
 go_loopw [3,4] (λv i wr=>∃k:Nat,k<=8∧i= .int .i64 (7-(k:Int))∧Keep NoB w wr∧wr.ownsRow w.heap.size 5 1 v (be64To n k).length (u8s (be64To n k))) (λ_ i _=>(intOf i+1).toNat)
 case atStart=>exact⟨0,by omega,rfl,Keep.refl _ _,World.ownsRow_nil _ _ _ _⟩
 case round=>
  obtain⟨k,hk,rfl,K,hown⟩:=hrel
  by_cases hlt:k<8
  ·have j1:(0:Int)<=7-k:=by omega
   obtain⟨q,hq⟩:∃q,q=7-k:=⟨_,rfl⟩
   have hq2:(7:Int)-k=q:=by omega
   rw[hq2]
   have hq3:(0:Int)<=q:=by omega
   have hq4:(q:Int)<=7:=by omega
   have hq5:(8*(q:Int)).toNat=8*q:=by omega
   clear hq2 j1
   have Hq:=Lib.hid hq
   clear hq
   have hlen:(be64To n k).length=k:=be64To_len _ _
   have Hlen:=Lib.hid hlen
   clear hlen
   go_wp2_with (first|(at_builtin;refine wpList_append_own _ rfl _ _ 65 rfl w.heap.size 5 i0 (.int .u8 0) 1 1 Tryz.underlying65 hi0 hz0 hz1 hz2 rfl (by decide) u3 _ _ rfl (hown.alloc _) ⟨wr.heap.size,0,none⟩ 1 1 _ rfl rfl (cells_new _ _ _) (ones1 _ _) (by rw[Hlen.out];unfold maxLen;omega) (by rw[Hlen.out];omega) (by have:=K.size;simp;omega) ?_;intro v' w' hown' hgrow _))
   have e2:u8s (be64To n k)++ [Value.int .u8 ((n:Int)/2^(8*q) % 256)]=u8s (be64To n (k+1)):=by
    rw[Hq.out,shr_byte,be64To_snoc]
   have e3:(be64To n k).length+1=(be64To n (k+1)).length:=by rw[be64To,List.length_append];rfl
   rw[e2,e3]at hown'
   have K2:Keep NoB w w':=(K.alloc _).grown hgrow (λb hb=> .inr (hown.lt b hb).1)
   have hq6:(q:Int)-1=7-((k+1:Nat):Int):=by rw[Hq.out];omega
   clear e2 e3 hgrow hown hq3 hq5
   refine⟨⟨k+1,by omega,by rw[hq6],K2,hown'⟩,by simp[intOf]⟩
  ·obtain rfl:k=8:=by omega
   have hcv:=run_string_own (P:=Tryz.prog) hown Tryz.underlying65 Tryz.underlying5 Tryz.underlying9
   go_wp2_with fail
   go_ret
   exact⟨rfl,K⟩
def padTo(s:List Nat)(k:Nat):List Nat:=s++ [128]++List.replicate k 0
theorem padTo_len(s:List Nat)(k:Nat):(padTo s k).length=s.length+1+k:=by simp[padTo];omega
theorem padTo_snoc(s:List Nat)(k:Nat):u8s (padTo s k)++ [Value.int .u8 0]=u8s (padTo s (k+1)):=by
 have e:padTo s (k+1)=padTo s k++ [0]:=by rw[padTo,padTo,List.replicate_succ',List.append_assoc,List.append_assoc,List.append_assoc]
 rw[e,u8s_append];rfl
theorem be64To_bytes(n k:Nat):Bytes (be64To n k):=by
 induction k with
 | zero=>intro x hx;simp[be64To]at hx
 | succ k ih=>
  rw[be64To]
  refine bytes_append ih ?_
  intro x hx
  obtain rfl:x=_:=List.mem_singleton.1 hx
  exact Nat.mod_lt _ (by omega)
theorem padded_bytes(s:List Nat)(h:Bytes s):Bytes (padded s):=by
 rw[padded]
 refine bytes_append (bytes_append (bytes_append h ?_) ?_) (be64To_bytes _ _)
 ·intro x hx
  obtain rfl:x=128:=List.mem_singleton.1 hx
  omega
 ·intro x hx
  obtain⟨_,rfl⟩:=List.mem_replicate.1 hx
  omega
set_option maxRecDepth 100000 in
set_option maxHeartbeats 8000000 in
theorem sum_any(s:ByteArray)(hs:s.size<=100000)(w:World)(V:RoundsVar w):
  Calls Tryz.prog 113 #[.string s] w λe w'=>e= .returned (.string (txt (sha (bs s))))∧Keep NoB w w':=by
 obtain⟨i0,hi0,hz0,hz1,hz2⟩:=info_parts info_u8
 have hR:5<w.heap.size:=by
  rcases Nat.lt_or_ge 5 w.heap.size with h'|h'
  ·exact h'
  ·have:=V 0 (by omega)
   simp[World.cell?,Array.getElem?_eq_none h']at this
 have hcv:=λw=>Lib.run_convert_string_bytes (P:=Tryz.prog) w 9 65 5 s Tryz.underlying9 Tryz.underlying65 Tryz.underlying5
 have hi8:(Tryz.prog.info? 240).map (·.size)=some (ints .u32 startH).size:=by kernel_rfl
 have Hi8:=Lib.hid hi8
 clear hi8
 go_enter Tryz.func113,Tryz.ntmps113
 have hl0:(bs s).length=s.size:=bs_len s
 have Hl0:=Lib.hid hl0
 clear hl0
 go_wp2_with (first|(refine wpList_store_whole rfl 240 _ _ rfl w.heap.size 240 _ (ints .u32 startH) rfl rfl (heap_alloc_new w _) Hi8.out 8 rfl rfl (ints_one _ _) ?_;refine wl_world (λw1=>Row w1 w.heap.size .u32 240 startH∧Keep NoB w w1∧w.heap.size+1<=w1.heap.size) ⟨heap_setRow (heap_alloc_new w _),((Keep.refl NoB w).alloc _).setRow (.inr (Nat.le_refl _)) _,by simp[World.setRow]⟩ ?_;intro w1 hw1;obtain⟨RH,K,hsz⟩:=hw1)|(at_builtin;refine wpList_append_n _ rfl _ _ 65 rfl (w.heap.size+1) 5 i0 (.int .u8 0) 1 1 Tryz.underlying65 hi0 hz0 hz1 hz2 rfl (by decide) _ s.size (u8s (bs s)) rfl ((OwnsN.ofBytes w1 (w.heap.size+1) 5 s hsz (by omega)).alloc _) ⟨(Lib.bytesWorld w1 5 s).heap.size,0,none⟩ 1 1 [.int .u8 128] rfl rfl (cells_new _ _ _) (ones1 _ _) (by unfold maxLen;omega) (by omega) (by have:=Lib.bytesWorld_size w1 5 s;simp;omega) ?_;intro v1 w2 hown1 hgrow1))
 have K2:Keep NoB w w2:=((K.bytesWorld _ _).alloc _).grown hgrow1 (λb hb=>by
  obtain rfl:w1.heap.size=b:=Option.some.inj hb
  exact .inr (by omega))
 have RH2:Row w2 w.heap.size .u32 240 startH:=(((RH.keep ((Keep.refl NoB w1).bytesWorld _ _) (λx=>x)).alloc _)).grown hgrow1 (λe=>by
  have:w.heap.size=w1.heap.size:=Option.some.inj e
  omega)
 have hown2:OwnsN w2 (w.heap.size+1) 5 1 v1 (padTo (bs s) 0).length (u8s (padTo (bs s) 0)):=by
  rw[padTo_len,Hl0.out,padTo,List.replicate_zero,List.append_nil,u8s_append];exact hown1
 clear hown1 hgrow1 hcv RH K hsz Hi8
 go_loopw [4] (λv wr=>∃k:Nat,k<=padZ s.size∧OwnsN wr (w.heap.size+1) 5 1 v (padTo (bs s) k).length (u8s (padTo (bs s) k))∧Row wr w.heap.size .u32 240 startH∧Keep NoB w wr) (λv _=>match v with| .slice _ n _=>200000-n|_=>0)
 case atStart=>exact⟨0,by omega,hown2,RH2,K2⟩
 case round=>
  clear hown2 RH2 K2 w2
  obtain⟨k,hk,hown,RH,K⟩:=hrel
  have hkz:k<=64:=by have:padZ s.size<64:=Nat.mod_lt _ (by omega);omega
  have hlen:(padTo (bs s) k).length=s.size+1+k:=by rw[padTo_len,Hl0.out]
  have Hlen:=Lib.hid hlen
  obtain⟨g,cap,rfl,hg,hcap⟩:=hown.some (by rw[hlen];omega)
  obtain⟨n,hn⟩:∃n,n=(padTo (bs s) k).length:=⟨_,rfl⟩
  rw[<-hn]at hown hcap
  rw[<-hn]
  have hn1:n=s.size+1+k:=by rw[hn,hlen]
  have Hn:=Lib.hid hn
  clear hlen hn
  by_cases hlt:k<padZ s.size
  ·have j1:((n:Int) % 64 !=56)=true:=by
    unfold padZ at hlt
    simp only[bne_iff_ne,ne_eq]
    omega
   have hn2:n<=100100:=by omega
   have Hn1:=Lib.hid hn1
   clear hn1
   go_wp2_with (first|(at_builtin;refine wpList_append_n _ rfl _ _ 65 rfl (w.heap.size+1) 5 i0 (.int .u8 0) 1 1 Tryz.underlying65 hi0 hz0 hz1 hz2 rfl (by decide) _ n _ rfl (hown.alloc _) ⟨wr.heap.size,0,none⟩ 1 1 [.int .u8 0] rfl rfl (cells_new _ _ _) (ones1 _ _) (by unfold maxLen;omega) (by omega) (by have:=RH.lt;simp;omega) ?_;intro v1 w2 hown1 hgrow1))
   have K2:Keep NoB w w2:=(K.alloc _).grown hgrow1 (λb hb=>by
    obtain rfl:g=b:=Option.some.inj hb
    exact .inr (by omega))
   have RH2:Row w2 w.heap.size .u32 240 startH:=(RH.alloc _).grown hgrow1 (λe=>by
    have:w.heap.size=g:=Option.some.inj e
    omega)
   have hown2:OwnsN w2 (w.heap.size+1) 5 1 v1 (padTo (bs s) (k+1)).length (u8s (padTo (bs s) (k+1))):=by
    rw[<-padTo_snoc,padTo_len,Hl0.out,show s.size+1+(k+1)=n+1 by rw[Hn1.out];omega];exact hown1
   clear hgrow1 hown
   obtain⟨g2,cap2,rfl,_,_⟩:=hown1.some (by omega)
   clear hown1
   refine⟨⟨k+1,by omega,hown2,RH2,K2⟩,?_⟩
   show 200000-(n+1)<200000-n
   omega
  ·have j1:((n:Int) % 64 !=56)=false:=by
    have e:k=padZ s.size:=by omega
    unfold padZ at e
    simp only[bne_eq_false_iff_eq]
    omega
   have hn2:n<=100100:=by omega
   have hkz2:k=padZ s.size:=by omega
   obtain⟨N8,hN8⟩:∃N,N=8*s.size:=⟨_,rfl⟩
   have e8:(s.size:Int)*8=N8:=by omega
   have b8:(N8:Int)<=800000:=by omega
   have HN8:=Lib.hid hN8
   have Hkz2:=Lib.hid hkz2
   have Hn1:=Lib.hid hn1
   clear hn1 hN8 hkz2 hlt hk hkz
   obtain⟨l1,hl1⟩:∃l,l=padTo (bs s) k:=⟨_,rfl⟩
   rw[<-hl1]at hown
   have Hl1:=Lib.hid hl1
   clear hl1
   go_wp2_with fail
   refine wp_world (λw1=>Row w1 w.heap.size .u32 240 startH∧Keep NoB w w1∧OwnsN w1 (w.heap.size+1) 5 1 (.slice (some ⟨g,0,none⟩) n cap) (n+0) (u8s (l1++be64To N8 0))) ⟨RH,K,by rw[be64To,List.append_nil];exact hown⟩ ?_
   clear RH K hown
   intro w3 hw3
   go_loopw [4,6] (λv i wr=>∃k:Nat,k<=8∧i= .int .i64 (7-(k:Int))∧Row wr w.heap.size .u32 240 startH∧Keep NoB w wr∧OwnsN wr (w.heap.size+1) 5 1 v (n+k) (u8s (l1++be64To N8 k))) (λ_ i _=>(intOf i+1).toNat)
   case atStart=>exact⟨0,by omega,rfl,hw3⟩
   case round=>
    clear hw3 w3
    obtain⟨k2,hk2,rfl,RH,K,hown⟩:=hrel
    by_cases hlt:k2<8
    ·obtain⟨g1,cap1,rfl,hg1,hcap1⟩:=hown.some (by rw[Hn1.out];omega)
     obtain⟨q,hq⟩:∃q,q=7-k2:=⟨_,rfl⟩
     have hq2:(7:Int)-k2=q:=by omega
     rw[hq2]
     have hq3:(0:Int)<=q:=by omega
     have hq4:(q:Int)<=7:=by omega
     have hq5:(8*(q:Int)).toNat=8*q:=by omega
     clear hq2
     have Hq:=Lib.hid hq
     clear hq
     go_wp2_with (first|(at_builtin;refine wpList_append_n _ rfl _ _ 65 rfl (w.heap.size+1) 5 i0 (.int .u8 0) 1 1 Tryz.underlying65 hi0 hz0 hz1 hz2 rfl (by decide) _ (n+k2) _ rfl (hown.alloc _) ⟨wr.heap.size,0,none⟩ 1 1 _ rfl rfl (cells_new _ _ _) (ones1 _ _) (by unfold maxLen;omega) (by omega) (by have:=RH.lt;simp;omega) ?_;intro v1 w2 hown1 hgrow1))
     have K2:Keep NoB w w2:=(K.alloc _).grown hgrow1 (λb hb=>by
      obtain rfl:g1=b:=Option.some.inj hb
      exact .inr (by omega))
     have RH2:Row w2 w.heap.size .u32 240 startH:=(RH.alloc _).grown hgrow1 (λe=>by
      have:w.heap.size=g1:=Option.some.inj e
      omega)
     have hown2:OwnsN w2 (w.heap.size+1) 5 1 v1 (n+(k2+1)) (u8s (l1++be64To N8 (k2+1))):=by
      rw[Hq.out,shr_byte]at hown1
      rw[u8s_append,<-be64To_snoc,<-List.append_assoc,<-u8s_append]
      exact hown1
     have hq6:(q:Int)-1=7-((k2+1:Nat):Int):=by rw[Hq.out];omega
     clear hgrow1 hown hown1 hq3 hq5
     exact⟨⟨k2+1,by omega,by rw[hq6],RH2,K2,hown2⟩,by simp[intOf]⟩
    ·have hp:u8s (l1++be64To N8 8)=u8s (padded (bs s)):=by
      rw[Hl1.out,Hkz2.out,HN8.out,padTo,padded,be64,Hl0.out]
     have hpl:(padded (bs s)).length=n+8:=by rw[padded_len,Hl0.out,Hn1.out,Hkz2.out];omega
     have hk8:k2=8:=by omega
     have hk9:(7:Int)-k2= -1:=by omega
     rw[hk8]at hown
     rw[hk9]
     clear hk9
     obtain⟨p,hpp⟩:∃p,p=padded (bs s):=⟨_,rfl⟩
     have hp64:p.length % 64=0:=by rw[hpp];exact padded_mod _
     have hpb:Bytes p:=by rw[hpp];exact padded_bytes _ (bs_bytes s)
     rw[hp,<-hpp]at hown
     rw[<-hpp]at hpl
     have Hpp:=Lib.hid hpp
     clear hp hpp hk8 hlt hk2
     obtain⟨g1,cap1,rfl,hg1,hcap1⟩:=hown.some (by omega)
     obtain⟨m,hm⟩:∃m,m=p.length/64:=⟨_,rfl⟩
     have hm64:p.length=64*m:=by omega
     have hnm:n+8=64*m:=by omega
     rw[hnm]at hown hcap1
     rw[hnm]
     rw[<-hm64]at hown
     have RP:=BRow.ofN hown
     rw[hm64]at hown
     have Hm:=Lib.hid hm
     have Hm64:=Lib.hid hm64
     have Hnm:=Lib.hid hnm
     have hm2:m<=2000:=by omega
     clear hm hm64 hnm hpl hown hp64
     go_wp2_with fail
     refine wp_world (λw1=>BRow w1 g1 5 p∧Row w1 w.heap.size .u32 240 (blocksTo p 0)∧Keep NoB w w1) ⟨RP,RH,K⟩ ?_
     clear RH K RP
     intro w3 hw3
     go_loopw [7] (λi wr=>∃k:Nat,k<=m∧i= .int .i64 (64*(k:Int))∧BRow wr g1 5 p∧Row wr w.heap.size .u32 240 (blocksTo p k)∧Keep NoB w wr) (λi _=>(64*m-(intOf i).toNat))
     case atStart=>exact⟨0,by omega,rfl,hw3⟩
     case round=>
      clear hw3 w3
      obtain⟨k3,hk3,rfl,RP,RH,K⟩:=hrel
      by_cases hlt:k3<m
      ·have hs1:=run_string_part (P:=Tryz.prog) (off:=64*k3) (k:=64) (cap:=cap1-64*k3) RP (by rw[Hm64.out];omega) Tryz.underlying65 Tryz.underlying5 Tryz.underlying9
       obtain⟨c,hc⟩:∃c,c=64*k3:=⟨_,rfl⟩
       have hc2:64*(k3:Int)=c:=by omega
       have hc3:c+64<=64*m:=by omega
       have hc4:(c:Int)+64<=64*(m:Int):=by omega
       have hc5:(c:Int)<64*(m:Int):=by omega
       rw[hc2]
       rw[<-hc]at hs1
       obtain⟨T,hT⟩:∃T,T=txt ((p.drop c).take 64):=⟨_,rfl⟩
       rw[<-hT]at hs1
       have HT:=Lib.hid hT
       have Hc:=Lib.hid hc
       have Hc2:=Lib.hid hc2
       clear hT hc hc2
       go_wp2_with fail
       have hTs:Hid (T.size=64):=by
        show T.size=64
        rw[HT.out,txt_size,List.length_take,List.length_drop,Hm64.out];omega
       have hbT:bs T=(p.drop (64*k3)).take 64:=by
        rw[HT.out,bs_txt (bytes_take (bytes_drop hpb _) _),Hc.out]
       refine(sumBlock_any w.heap.size (blocksTo p k3) T hTs (Lib.hid (blocksTo_len p k3)) (W32.blocks p k3) wr RH (V.keep K (λx=>x)) (by omega)).mono ?_
       rintro e w4 ⟨rfl,RH4,K4⟩
       have RP4:=RP.keep K4 (λe=>by simp only[OneB]at e;omega)
       have K5:Keep NoB w w4:=K.trans K4 (λi hi e=>by simp only[OneB]at e;omega)
       have RH5:Row w4 w.heap.size .u32 240 (blocksTo p (k3+1)):=by
        rw[hbT]at RH4
        exact RH4
       clear RP RH RH4 K K4 hbT hs1
       go_wp2_with fail
       have hc6:(c:Int)+64=64*((k3+1:Nat):Int):=by rw[Hc.out];omega
       exact⟨⟨k3+1,by omega,by rw[hc6],RP4,RH5,K5⟩,by simp[intOf];omega⟩
      ·have hk:k3=m:=by omega
       rw[hk]at RH
       rw[hk]
       rw[Hm.out,Hpp.out]at RH
       obtain⟨h,hh⟩:∃h,h=blocksTo (padded (bs s)) ((padded (bs s)).length/64):=⟨_,rfl⟩
       have hl8:h.length=8:=by rw[hh,blocksTo_len]
       have W:W32 h:=by rw[hh];exact W32.blocks _ _
       rw[<-hh]at RH
       have Hh:=Lib.hid hh
       have Hl8:=Lib.hid hl8
       have hi8:(Tryz.prog.info? 240).map (·.size)=some (ints .u32 h).size:=by rw[ints_size,hl8];kernel_rfl
       have Hi8:=Lib.hid hi8
       clear hh hl8 hi8 hlt hk hk3
       go_wp2_with (first|(refine wpList_load_row rfl 240 _ rfl w.heap.size rfl 240 (ints .u32 h) (0,0) _ RH Tryz.underlying240 rfl Hi8.out ?_))
       clear RP Hi8
       refine wp_world (λw1=>Keep NoB w w1) K ?_
       clear K RH
       intro w5 K5
       go_loopw [8,54] (λv i wr=>∃k:Nat,k<=8∧i= .int .i64 k∧Keep NoB w wr∧wr.ownsRow w.heap.size 5 1 v (outWords h k).length (u8s (outWords h k))) (λ_ i _=>8-(intOf i).toNat)
       case atStart=>exact⟨0,by omega,rfl,K5,World.ownsRow_nil _ _ _ _⟩
       case round=>
        clear K5 w5
        obtain⟨k4,hk4,rfl,K,hown⟩:=hrel
        by_cases hlt:k4<8
        ·have j1:(k4:Int)<8:=by omega
         have hix:=run_index_ints (P:=Tryz.prog) (kd:= .u32) Tryz.underlying240 Tryz.underlying195 rfl (by kernel_rfl) h k4 Hl8.out hlt
         obtain⟨x,hx⟩:∃x,x=h.getD k4 0:=⟨_,rfl⟩
         have bx:(x:Int)<4294967296:=by have:=W k4;rw[hx];omega
         rw[<-hx]at hix
         have Hx:=Lib.hid hx
         clear hx
         have hlen:(outWords h k4).length=4*k4:=outWords_len _ _
         have Hlen:=Lib.hid hlen
         clear hlen
         go_wp2_with (first|(at_builtin;refine wpList_append_own _ rfl _ _ 65 rfl w.heap.size 5 i0 (.int .u8 0) 1 1 Tryz.underlying65 hi0 hz0 hz1 hz2 rfl (by decide) _ _ _ rfl (hown.alloc _) ⟨wr.heap.size,0,none⟩ 4 4 _ rfl rfl (cells_new _ _ _) (ones4 _ _ _ _ _) (by rw[Hlen.out];unfold maxLen;omega) (by rw[Hlen.out];omega) (by have:=K.size;simp;omega) ?_;intro v' w' hown' hgrow _))
         have e2:u8s (outWords h k4)++ [Value.int .u8 ((x:Int)/16777216),Value.int .u8 ((x:Int)/65536 % 256),Value.int .u8 ((x:Int)/256 % 256),Value.int .u8 ((x:Int) % 256)]=u8s (outWords h (k4+1)):=by
          rw[outWords,outWords,times_succ,<-outWords,u8s_append,<-Hx.out,show(x:Int)/16777216=((x/16777216 % 256:Nat):Int)by omega];rfl
         have e3:(outWords h k4).length+4=(outWords h (k4+1)).length:=by rw[Hlen.out,outWords_len];omega
         rw[e2,e3]at hown'
         have K2:Keep NoB w w':=(K.alloc _).grown hgrow (λb hb=> .inr (hown.lt b hb).1)
         clear e2 e3 hgrow hown
         exact⟨⟨k4+1,by omega,by go_num,K2,hown'⟩,by simp[intOf];omega⟩
        ·have hk:k4=8:=by omega
         rw[hk]at hown
         have hcv:=run_string_own (P:=Tryz.prog) hown Tryz.underlying65 Tryz.underlying5 Tryz.underlying9
         have j1:decide ((k4:Int)<8)=false:=by simp;omega
         have hsha:outWords h 8=sha (bs s):=by rw[Hh.out,sha]
         rw[hsha]at hcv
         clear hk hlt hk4 hsha
         clear hown
         go_wp2_with fail
         go_ret
         exact⟨rfl,K⟩
end Go.Proofs.YtnmhgehpddipdaaGreatDoor
namespace Go.Cof
open Go.RowKit
theorem markText_take(kind:Nat)(l:List (List Nat))(k:Nat)(hk:k<l.length):markText kind (l.take (k+1))=markText kind (l.take k)++be64 (l.getD k []).length++l.getD k []:=by
 have e:l.take (k+1)=l.take k++ [l.getD k []]:=by
  rw[List.take_succ_eq_append_getElem hk,List.getD_eq_getElem?_getD,List.getElem?_eq_getElem hk];rfl
 rw[e,markText,markText,List.foldl_append];rfl
theorem markText_len_le(kind:Nat)(l:List (List Nat))(k:Nat):(markText kind (l.take k)).length<=(markText kind l).length:=by
 by_cases hk:k<l.length
 ·have h1:=markText_len_le kind l (k+1)
  rw[markText_take kind l k hk,List.length_append,List.length_append]at h1
  omega
 ·rw[List.take_of_length_le (by omega)];exact Nat.le_refl _
 termination_by l.length-k
theorem outWords_bytes(h:List Nat)(k:Nat):Bytes (outWords h k):=by
 induction k with
 | zero=>intro x hx;simp[outWords,times]at hx
 | succ k ih=>
  rw[outWords,times_succ,<-outWords]
  refine bytes_append ih ?_
  intro x hx
  simp only[word4be,List.mem_cons,List.not_mem_nil,or_false]at hx
  rcases hx with rfl|rfl|rfl|rfl<;>exact Nat.mod_lt _ (by omega)
theorem sha_bytes(s:List Nat):Bytes (sha s):=outWords_bytes _ _
end Go.Cof
namespace Go.Proofs.YtnmhgehpddipdaaGreatDoor
open Go.RowKit Go.Cof
set_option maxRecDepth 100000 in
set_option maxHeartbeats 4000000 in
theorem mark_any(kind:Nat)(hkd:kind<256)(v:Value)(l:List ByteArray)(w:World)(V:RoundsVar w)(S:Strs w v l)(hb:(markText kind (l.map bs)).length<=100000)(hl:l.length<=100000):
  Calls Tryz.prog 59 #[.int .u8 kind,v] w λe w'=>e= .returned (.string (txt (Cof.mark kind (l.map bs))))∧Keep NoB w w':=by
 obtain⟨p,c,rfl⟩:=S.len
 have hso:=λw=>run_string_one (P:=Tryz.prog) w (E:=5) Tryz.underlying65 Tryz.underlying5 Tryz.underlying9 (kind:Int) kind rfl
 have Hb:=Lib.hid hb
 clear hb
 obtain⟨n,hn⟩:∃n,n=l.length:=⟨_,rfl⟩
 rw[<-hn]at S hl
 rw[<-hn]
 have Hn:=Lib.hid hn
 clear hn
 go_enter Tryz.func59,Tryz.ntmps59
 go_wp2_with fail
 clear hso
 refine wp_world (λw1=>Keep NoB w w1) ((Keep.refl NoB w).alloc _) ?_
 intro w1 hw1
 go_loopw [5,13] (λs i wr=>∃(k:Nat) (A:ByteArray),k<=n∧i= .int .i64 k∧s= .string A∧Hid (bs A=markText kind ((l.map bs).take k))∧Keep NoB w wr) (λ_ i _=>n-(intOf i).toNat)
 case atStart=>exact⟨0,_,by omega,rfl,rfl,by show bs (txt [kind])= [kind];exact bs_txt (λx hx=>by obtain rfl:x=kind:=List.mem_singleton.1 hx;exact hkd),hw1⟩
 case round=>
  clear hw1 w1
  obtain⟨k,A,hk,rfl,rfl,hA,K⟩:=hrel
  have hAs:A.size<=100000:=by
   have:=markText_len_le kind (l.map bs) k
   rw[<-hA.out,bs_len]at this
   have:=Hb.out
   omega
  by_cases hlt:k<n
  ·have j1:(k:Int)<n:=by omega
   have S1:=S.keep K (λ_ _ x=>x)
   obtain⟨B,off,rfl,hnl,hB,hc⟩:=S1.at (by have:=Hn.out;omega)
   have hck:=hc k (by have:=Hn.out;omega)
   clear hc S1 hnl
   obtain⟨q,hq⟩:∃q,q=l.getD k ⟨#[]⟩:=⟨_,rfl⟩
   rw[<-hq]at hck
   have hqe:(l.map bs).getD k []=bs q:=by
    rw[hq,List.getD_eq_getElem?_getD,List.getElem?_map,List.getD_eq_getElem?_getD]
    cases l[k]? <;>rfl
   have hstep:=markText_take kind (l.map bs) k (by rw[List.length_map];have:=Hn.out;omega)
   rw[hqe,<-hA.out,bs_len]at hstep
   have hlen2:=markText_len_le kind (l.map bs) (k+1)
   rw[hstep,List.length_append,List.length_append,bs_len,bs_len,be64,be64To_len]at hlen2
   have hqs:q.size<=100000:=by have:=Hb.out;omega
   have Hq:=Lib.hid hq
   have Hst:=Lib.hid hstep
   clear hq hqe hstep hlen2
   go_wp2_with fail
   refine(num_any q.size (by omega) _).mono ?_
   rintro e w2 ⟨rfl,K2⟩
   have hbe:(txt (be64 q.size)).size=8:=by rw[txt_size,be64,be64To_len]
   have hcat1:¬(9223372036854775807<(txt (be64 q.size)).size+q.size):=by rw[hbe];omega
   have hcat2:¬(9223372036854775807<A.size+(txt (be64 q.size)++q).size):=by rw[ByteArray.size_append,hbe];omega
   have HA2:Hid (bs (A++(txt (be64 q.size)++q))=markText kind ((l.map bs).take (k+1))):=by
    show bs _=_
    rw[Hst.out,bs_append,bs_append,bs_txt (show Bytes (be64 q.size)from be64To_bytes _ _),List.append_assoc]
   clear hbe
   go_wp2_with fail
   clear hcat1 hcat2 hck
   exact⟨⟨k+1,_,by omega,by go_num,rfl,HA2,K.thenN K2⟩,by simp[intOf];omega⟩
  ·have hk2:k=n:=by omega
   have j1:decide (k<n)=false:=by simp;omega
   have hA2:bs A=markText kind (l.map bs):=by
    rw[hA.out,hk2,Hn.out,List.take_of_length_le (by rw[List.length_map];exact Nat.le_refl _)]
   have HA2:=Lib.hid hA2
   clear hlt hk hk2 hA2
   go_wp2_with fail
   refine(sum_any A hAs wr (V.keep K (λx=>x))).mono ?_
   rw[HA2.out]
   rintro e w2 ⟨rfl,K2⟩
   obtain⟨T,hT⟩:∃T,T=txt (sha (markText kind (l.map bs))):=⟨_,rfl⟩
   have hTs:(16:Int)<=T.size:=by rw[hT,txt_size,sha_len];omega
   have hTe:T.extract 0 16=txt (Cof.mark kind (l.map bs)):=by
    apply bs_inj
    rw[bs_extract,hT,bs_txt (sha_bytes _),List.drop_zero,Cof.mark,bs_txt (bytes_take (sha_bytes _) _)]
   rw[<-hT]
   have HT:=Lib.hid hT
   have HTe:=Lib.hid hTe
   clear hT hTe
   go_wp2_with fail
   go_ret
   exact⟨congrArg (λt=>Ending.returned (.string t)) HTe.out,K.thenN K2⟩
end Go.Proofs.YtnmhgehpddipdaaGreatDoor
namespace Go.Cof
open Go.RowKit
structure Two(T:TypeId)(w wr:World)(v u:Value)(a b:List Nat):Prop where
 left:OwnsN wr w.heap.size T 1 v a.length (cellsOf .u64 a)
 right:OwnsN wr w.heap.size T 1 u b.length (cellsOf .u64 b)
 apart:∀c,v.ownBlock=some c->u.ownBlock≠some c
 keep:Keep NoB w wr
theorem Two.swap{T:TypeId}{w wr:World}{v u:Value}{a b:List Nat}(h:Two T w wr v u a b):Two T w wr u v b a:=
 ⟨h.right,h.left,λc h1 h2=>h.apart c h2 h1,h.keep⟩
theorem Two.grow{T:TypeId}{w wr w':World}{v v' u:Value}{a a' b:List Nat}{o:Obj}(h:Two T w wr v u a b)(hg:(wr.alloc o).grownBy w' v.ownBlock)(ho:OwnsN w' w.heap.size T 1 v' a'.length (cellsOf .u64 a'))
  (hw:v'.ownBlock=v.ownBlock∨∀c,v'.ownBlock=some c->(wr.alloc o).heap.size<=c):Two T w w' v' u a' b:=by
 have K1:Keep (λc=>v.ownBlock=some c) wr w':=((Keep.refl _ wr).alloc o).grown hg (λc hc=> .inl hc)
 refine⟨ho,h.right.keep K1 (λc hc hs=>h.apart c hs hc),λc hc hu=> ?_,(h.keep.alloc o).grown hg (λc hc=> .inr (h.left.lt c hc).1)⟩
 rcases hw with hw|hw
 ·exact h.apart c (hw▸hc) hu
 ·have h1:=hw c hc
  have h2:=(h.right.lt c hu).2
  simp at h1
  omega
end Go.Cof
namespace Go.Proofs.YtnmhgehpddipdaaGreatDoor
open Go.RowKit Go.Cof
end Go.Proofs.YtnmhgehpddipdaaGreatDoor
namespace Go.Cof
open Go.RowKit
def u64n(i:Int):Nat:=(i % 18446744073709551616).toNat
theorem u64n_cast(i:Int):i % 18446744073709551616=(u64n i:Int):=by unfold u64n;omega
theorem u64n_nat(n:Nat)(h:n<18446744073709551616):u64n n=n:=by unfold u64n;omega
end Go.Cof
namespace Go.Proofs.YtnmhgehpddipdaaGreatDoor
open Go.RowKit Go.Cof
set_option maxRecDepth 100000 in
set_option maxHeartbeats 4000000 in
theorem num_int(i:Int)(w:World):
  Calls Tryz.prog 112 #[.int .i64 i] w λe w'=>e= .returned (.string (txt (be64 (u64n i))))∧Keep NoB w w':=by
 obtain⟨i0,hi0,hz0,hz1,hz2⟩:=info_parts info_u8
 have hu:IntKind.u64.wrap i=(u64n i:Int):=by rw[IntKind.wrap_u64];exact u64n_cast i
 obtain⟨n,hn⟩:∃n,n=u64n i:=⟨_,rfl⟩
 rw[<-hn]
 rw[<-hn]at hu
 clear hn
 go_enter Tryz.func112,Tryz.ntmps112
 go_wp2
 go_loopw [3,4] (λv i wr=>∃k:Nat,k<=8∧i= .int .i64 (7-(k:Int))∧Keep NoB w wr∧wr.ownsRow w.heap.size 5 1 v (be64To n k).length (u8s (be64To n k))) (λ_ i _=>(intOf i+1).toNat)
 case atStart=>exact⟨0,by omega,rfl,Keep.refl _ _,World.ownsRow_nil _ _ _ _⟩
 case round=>
  obtain⟨k,hk,rfl,K,hown⟩:=hrel
  by_cases hlt:k<8
  ·have j1:(0:Int)<=7-k:=by omega
   obtain⟨q,hq⟩:∃q,q=7-k:=⟨_,rfl⟩
   have hq2:(7:Int)-k=q:=by omega
   rw[hq2]
   have hq3:(0:Int)<=q:=by omega
   have hq4:(q:Int)<=7:=by omega
   have hq5:(8*(q:Int)).toNat=8*q:=by omega
   clear hq2 j1
   have Hq:=Lib.hid hq
   clear hq
   have hlen:(be64To n k).length=k:=be64To_len _ _
   have Hlen:=Lib.hid hlen
   clear hlen
   go_wp2_with (first|(at_builtin;refine wpList_append_own _ rfl _ _ 65 rfl w.heap.size 5 i0 (.int .u8 0) 1 1 Tryz.underlying65 hi0 hz0 hz1 hz2 rfl (by decide) u3 _ _ rfl (hown.alloc _) ⟨wr.heap.size,0,none⟩ 1 1 _ rfl rfl (cells_new _ _ _) (ones1 _ _) (by rw[Hlen.out];unfold maxLen;omega) (by rw[Hlen.out];omega) (by have:=K.size;simp;omega) ?_;intro v' w' hown' hgrow _))
   have e2:u8s (be64To n k)++ [Value.int .u8 ((n:Int)/2^(8*q) % 256)]=u8s (be64To n (k+1)):=by
    rw[Hq.out,shr_byte,be64To_snoc]
   have e3:(be64To n k).length+1=(be64To n (k+1)).length:=by rw[be64To,List.length_append];rfl
   rw[e2,e3]at hown'
   have K2:Keep NoB w w':=(K.alloc _).grown hgrow (λb hb=> .inr (hown.lt b hb).1)
   have hq6:(q:Int)-1=7-((k+1:Nat):Int):=by rw[Hq.out];omega
   clear e2 e3 hgrow hown hq3 hq5
   refine⟨⟨k+1,by omega,by rw[hq6],K2,hown'⟩,by simp[intOf]⟩
  ·obtain rfl:k=8:=by omega
   have hcv:=run_string_own (P:=Tryz.prog) hown Tryz.underlying65 Tryz.underlying5 Tryz.underlying9
   go_wp2_with fail
   go_ret
   exact⟨rfl,K⟩
end Go.Proofs.YtnmhgehpddipdaaGreatDoor
namespace Go.Cof
open Go.RowKit
def strCells(l:List ByteArray):List Value:=l.map Value.string
def upto{α:Type}(f:Nat->α)(k:Nat):List α:=(List.range k).map f
theorem upto_succ{α:Type}(f:Nat->α)(k:Nat):upto f (k+1)=upto f k++ [f k]:=by simp[upto,List.range_succ]
theorem upto_length{α:Type}(f:Nat->α)(k:Nat):(upto f k).length=k:=by simp[upto]
theorem OwnsN.at{w:World}{base:Nat}{E:TypeId}{v:Value}{n:Nat}{xs:List Value}(h:OwnsN w base E 1 v n xs)(hn:0<n):∃g cap,v= .slice (Option.some ⟨g,0,none⟩) n cap∧g<w.heap.size∧(∀i u,xs[i]? =Option.some u->w.cell? ⟨g,i,none⟩=Option.some u)∧∀i,i<n->w.frozen? ⟨g,i,none⟩=false:=by
 rcases h.2 with⟨_,h0⟩|⟨g,cap,cur,fz,hv,hb,hg,hf,hc,hm,hs,ht⟩
 ·omega
 ·refine⟨g,cap,hv,lt_of_heap hg,λi u hu=> ?_,λi hi=> ?_⟩
  ·have:=h.cells (g:=g) (by rw[hv];rfl) i u hu
   have hadd:(⟨g,0,none⟩:Addr).add i=⟨g,0+i,none⟩:=by unfold Addr.add;split<;>simp_all
   rwa [hadd,Nat.zero_add]at this
  ·have:=hf i (by rw[hs];omega)
   obtain⟨lo,hi'⟩:=fz
   simpa [World.frozen?,hg]using this
end Go.Cof
namespace Go.Proofs.YtnmhgehpddipdaaGreatDoor
open Go.RowKit Go.Cof
theorem info_string:(Tryz.prog.info? 9).map (λi=>(i.zero,i.size,i.bytes))=some (some (.string ⟨#[]⟩),1,16):=by kernel_rfl
theorem strs_ofN{w:World}{base:Nat}{E:TypeId}{v:Value}{l:List ByteArray}(h:OwnsN w base E 1 v l.length (strCells l)):Strs w v l:=by
 by_cases h0:0<l.length
 ·obtain⟨g,cap,rfl,hg,hc,_⟩:=h.at h0
  refine .inr ⟨g,0,cap,rfl,hg,λi hi=> ?_⟩
  rw[Nat.zero_add]
  exact hc i _ (by rw[strCells,List.getElem?_map,List.getD_eq_getElem?_getD,List.getElem?_eq_getElem hi];rfl)
 ·have hnil:l= []:=List.eq_nil_of_length_eq_zero (by omega)
  subst hnil
  rcases h.2 with⟨hv,_⟩|⟨g,cap,cur,fz,hv,_⟩
  ·exact .inl ⟨rfl,_,_,hv⟩
  ·exact .inl ⟨rfl,_,_,hv⟩
set_option maxRecDepth 100000 in
set_option maxHeartbeats 4000000 in
theorem indexFunc_any(g:FuncId)(p:ByteArray->Bool)(hp:∀s w,Calls Tryz.prog g #[.string s] w λe w'=>e= .returned (.bool (p s))∧w'=w)(eg:∀args w,(callFunc g args).run Tryz.prog w= .ok (.enter g args) w)(v:Value)(l:List ByteArray)(w:World)(S:Strs w v l)(hl:l.length<=1000000):
  Calls Tryz.prog 277 #[v,.func (.func g) #[] #[]] w λe w'=>(∃i:Int,e= .returned (.int .i64 i)∧decide (0<=i)=l.any p)∧w'=w:=by
 obtain⟨a,c,rfl⟩:=S.len
 obtain⟨n,hn⟩:∃n,n=l.length:=⟨_,rfl⟩
 rw[<-hn]at S hl
 rw[<-hn]
 have Hn:=Lib.hid hn
 clear hn
 go_enter Tryz.func277,Tryz.ntmps277
 go_wp2_with fail
 go_loop [8] (λi=>∃k:Nat,k<=n∧i= .int .i64 k∧(l.take k).any p=false) (λi=>n-(intOf i).toNat)
 case atStart=>exact⟨0,by omega,rfl,rfl⟩
 case round=>
  obtain⟨k,hk,rfl,hpre⟩:=hrel
  by_cases hlt:k<n
  ·have j1:decide (k<n)=true:=by simp;omega
   obtain⟨b,off,rfl,hnl,hb,hcell⟩:=S.at (by have:=Hn.out;omega)
   have hck:=hcell k (by have:=Hn.out;omega)
   obtain⟨s,hs⟩:∃s,s=l.getD k ⟨#[]⟩:=⟨_,rfl⟩
   rw[<-hs]at hck
   have hks:(l.take (k+1)).any p=p s:=by
    rw[List.take_succ_eq_append_getElem (by have:=Hn.out;omega),List.any_append,hpre,hs,List.getD_eq_getElem?_getD,List.getElem?_eq_getElem (by have:=Hn.out;omega)]
    simp
   have Hks:=Lib.hid hks
   have Hpre:=Lib.hid hpre
   have hj:(k:Int)<n:=by omega
   clear hcell hs hks hpre hnl
   go_wp2_with fail
   refine(hp s w).mono ?_
   rintro e w' ⟨rfl,hw⟩
   subst w'
   cases hps:p s with
   | true=>
    rw[hps]at Hks
    clear hps
    go_wp2_with fail
    go_ret
    refine⟨⟨(k:Int),rfl,?_⟩,rfl⟩
    have h1:=Hks.out
    rw[List.any_eq_true]at h1
    obtain⟨y,hy,hpy⟩:=h1
    have h2:l.any p=true:=List.any_eq_true.2 ⟨y,List.mem_of_mem_take hy,hpy⟩
    rw[h2]
    simp
   | false=>
    rw[hps]at Hks
    clear hps
    go_wp2_with fail
    exact⟨⟨k+1,by omega,by go_num,Hks.out⟩,by simp[intOf];omega⟩
  ·obtain rfl:k=n:=by omega
   have hall:l.any p=false:=by rw[<-hpre,List.take_of_length_le (by rw[<-Hn.out];exact Nat.le_refl _)]
   have j1:decide (k<k)=false:=by simp
   have Hall:=Lib.hid hall
   clear hall hpre
   go_wp2_with fail
   go_ret
   exact⟨⟨-1,rfl,by rw[Hall.out];rfl⟩,rfl⟩
set_option maxRecDepth 100000 in
theorem containsFunc_any(g:FuncId)(p:ByteArray->Bool)(hp:∀s w,Calls Tryz.prog g #[.string s] w λe w'=>e= .returned (.bool (p s))∧w'=w)(eg:∀args w,(callFunc g args).run Tryz.prog w= .ok (.enter g args) w)(v:Value)(l:List ByteArray)(w:World)(S:Strs w v l)(hl:l.length<=1000000):
  Calls Tryz.prog 246 #[v,.func (.func g) #[] #[]] w λe w'=>e= .returned (.bool (l.any p))∧w'=w:=by
 have hi:=indexFunc_any g p hp eg v l w S hl
 obtain⟨a,c,rfl⟩:=S.len
 generalize l.any p=b at hi⊢
 clear hp eg
 go_enter Tryz.func246,Tryz.ntmps246
 go_wp2_with fail
 refine hi.mono ?_
 clear hi
 rintro e w' ⟨⟨i,rfl,hd⟩,hw⟩
 subst w'
 go_wp2_with fail
 go_ret
 first|exact⟨congrArg (λb=>Ending.returned (.bool b)) hd,rfl⟩|exact⟨rfl,rfl⟩
end Go.Proofs.YtnmhgehpddipdaaGreatDoor
namespace Go.Proofs.YtnmhgehpddipdaaGreatDoor
open Go.RowKit Go.Cof
theorem ofInt_u32(a:Nat)(ha:a<4294967296):(BitVec.ofInt 32 (a:Int)).toNat=a:=by
 rw[BitVec.ofInt_natCast,BitVec.toNat_ofNat];exact Nat.mod_eq_of_lt (by omega)
theorem u32_or(a b:Nat)(ha:a<4294967296)(hb:b<4294967296):bits .or .u32 (a:Int) (b:Int)=((a|||b:Nat):Int):=by
 have hx:a|||b<2^32:=Nat.or_lt_two_pow (by omega) (by omega)
 show IntKind.u32.wrap ((BitVec.ofInt 32 (a:Int)|||BitVec.ofInt 32 (b:Int)).toNat:Int)=_
 rw[BitVec.toNat_or,ofInt_u32 a ha,ofInt_u32 b hb,IntKind.wrap_u32]
 omega
theorem u32_xor(a b:Nat)(ha:a<4294967296)(hb:b<4294967296):bits .xor .u32 (a:Int) (b:Int)=((a^^^b:Nat):Int):=by
 have hx:a^^^b<2^32:=Nat.xor_lt_two_pow (by omega) (by omega)
 show IntKind.u32.wrap ((BitVec.ofInt 32 (a:Int)^^^BitVec.ofInt 32 (b:Int)).toNat:Int)=_
 rw[BitVec.toNat_xor,ofInt_u32 a ha,ofInt_u32 b hb,IntKind.wrap_u32]
 omega
theorem xor_lt(a b:Nat)(ha:a<4294967296)(hb:b<4294967296):a^^^b<4294967296:=by
 have hx:a^^^b<2^32:=Nat.xor_lt_two_pow (by omega) (by omega)
 omega
theorem u32_rotl(x n:Nat)(hx:x<4294967296):bits .or .u32 ((x:Int)*2^n % 4294967296) ((x:Int)/2^(32-n))=((rotl x n:Nat):Int):=by
 have e1:((x:Int)*2^n % 4294967296)=((x*2^n % 4294967296:Nat):Int):=by simp
 have e2:((x:Int)/2^(32-n))=((x/2^(32-n):Nat):Int):=by simp
 rw[e1,e2]
 exact u32_or _ _ (Nat.mod_lt _ (by omega)) (Nat.lt_of_le_of_lt (Nat.div_le_self _ _) hx)
theorem rotl_lt(x n:Nat)(hx:x<4294967296):rotl x n<4294967296:=by
 unfold rotl
 have:=Nat.or_lt_two_pow (n:=32) (x:=x*2^n % 4294967296) (y:=x/2^(32-n)) (Nat.mod_lt _ (by omega)) (Nat.lt_of_le_of_lt (Nat.div_le_self _ _) hx)
 exact this
theorem ret_u32{a b:Int}(h:a=b):Ending.returned (.int .u32 a)= .returned (.int .u32 b):=by rw[h]
theorem turn_any(x:Int)(X n:Nat)(hx:X<4294967296)(he:x=X)(hn:n<=32)(w:World):
  Calls Tryz.prog 274 #[.int .u32 x,.int .i64 n] w λe w'=>e= .returned (.int .u32 (rotl X n))∧∃k,w'=w.drewN k:=by
 subst he
 go_enter Tryz.func274,Tryz.ntmps274
 go_wp2
 go_quiet (fail)
 go_wp2
 go_ret
 exact⟨ret_u32 (u32_rotl X n hx),⟨_,rfl⟩⟩
structure W16(l:List Nat):Prop where
 len:l.length=16
 lt:∀i,l.getD i 0<4294967296
theorem set_lt{l:List Nat}(h:∀i,l.getD i 0<4294967296)(i v:Nat)(hv:v<4294967296)(k:Nat):(l.set i v).getD k 0<4294967296:=by
 have:=h k
 simp only[List.getD_eq_getElem?_getD,List.getElem?_set]at*
 split
 ·split<;>simp<;>omega
 ·exact this
theorem W16.set{l:List Nat}(h:W16 l)(i v:Nat)(hv:v<4294967296):W16 (l.set i v):=⟨by simp[h.len],set_lt h.lt i v hv⟩
theorem W16.add{l:List Nat}(h:W16 l)(i j:Nat):W16 (addAt l i j):=h.set _ _ (Nat.mod_lt _ (by omega))
theorem W16.rot{l:List Nat}(h:W16 l)(i j n:Nat):W16 (rotAt l i j n):=h.set _ _ (rotl_lt _ _ (xor_lt _ _ (h.lt i) (h.lt j)))
theorem add_step{l:List Nat}(i j:Nat):((l[i]?.getD 0:Nat)+(l[j]?.getD 0:Nat):Int) % 4294967296=(((l.getD i 0+l.getD j 0) % 4294967296:Nat):Int):=by
 simp
theorem xor_step{l:List Nat}(h:W16 l)(i j:Nat):bits .xor .u32 ((l[i]?.getD 0:Nat):Int) ((l[j]?.getD 0:Nat):Int)=((l.getD i 0^^^l.getD j 0:Nat):Int):=by
 have:=u32_xor (l.getD i 0) (l.getD j 0) (h.lt i) (h.lt j)
 simpa using this
set_option maxRecDepth 100000 in
set_option maxHeartbeats 4000000 in
theorem quarter_any(B:Nat)(T:TypeId)(a b c d:Nat)(l:List Nat)(w:World)(ha:a<16)(hb:b<16)(hc:c<16)(hd:d<16)(R:Row w B .u32 T l)(L:W16 l):
  Calls Tryz.prog 238 #[.pointer (some ⟨B,0,none⟩),.int .i64 a,.int .i64 b,.int .i64 c,.int .i64 d] w λe w'=>e= .returned (.tuple #[])∧Row w' B .u32 T (qr l a b c d)∧Keep (OneB B) w w':=by
 have ja:(a:Int)<16:=by omega
 have jb:(b:Int)<16:=by omega
 have jc:(c:Int)<16:=by omega
 have jd:(d:Int)<16:=by omega
 have K:Keep (OneB B) w w:=Keep.refl _ _
 go_enter Tryz.func238,Tryz.ntmps238
 go_wp2
 have c1:=R.cell a (by rw[L.len];omega)
 have c2:=R.cell b (by rw[L.len];omega)
 have f1:=R.free a
 refine wp_region_qt_drew 13 (by kernel_rfl) (by kernel_rfl) ?_
 simp only[List.take_succ_cons,List.take_zero,List.drop_succ_cons,List.drop_zero]
 repeat(quiet_step (fail))
 refine wpQuiet_nil ?_
 intro nq
 go_wp2
 refine wp_world (λw1=>Row w1 B .u32 T (addAt l a b)∧Keep (OneB B) w w1) ⟨(R.drewN nq).store a (add_step a b),(K.drewN nq).set1 _ _⟩ ?_
 clear R K c1 c2 f1
 intro w1 hw1
 obtain⟨R,K⟩:=hw1
 have L:=L.add a b
 have c1:=R.cell d (by rw[L.len];omega)
 have c2:=R.cell a (by rw[L.len];omega)
 have f1:=R.free d
 refine wp_region_qt_drew 16 (by kernel_rfl) (by kernel_rfl) ?_
 simp only[List.take_succ_cons,List.take_zero,List.drop_succ_cons,List.drop_zero]
 repeat(quiet_step ((go_at_call 274;exact Calls.quiet_of (turn_any _ _ 16 (xor_lt _ _ (L.lt d) (L.lt a)) (xor_step L d a) (by omega) _))))
 refine wpQuiet_nil ?_
 intro nq
 go_wp2
 refine wp_world (λw1=>Row w1 B .u32 T (rotAt ((addAt l a b)) d a 16)∧Keep (OneB B) w w1) ⟨(R.drewN nq).store d rfl,(K.drewN nq).set1 _ _⟩ ?_
 clear R K c1 c2 f1
 intro w1 hw1
 obtain⟨R,K⟩:=hw1
 have L:=L.rot d a 16
 have c1:=R.cell c (by rw[L.len];omega)
 have c2:=R.cell d (by rw[L.len];omega)
 have f1:=R.free c
 refine wp_region_qt_drew 13 (by kernel_rfl) (by kernel_rfl) ?_
 simp only[List.take_succ_cons,List.take_zero,List.drop_succ_cons,List.drop_zero]
 repeat(quiet_step (fail))
 refine wpQuiet_nil ?_
 intro nq
 go_wp2
 refine wp_world (λw1=>Row w1 B .u32 T (addAt (rotAt (addAt l a b) d a 16) c d)∧Keep (OneB B) w w1) ⟨(R.drewN nq).store c (add_step c d),(K.drewN nq).set1 _ _⟩ ?_
 clear R K c1 c2 f1
 intro w1 hw1
 obtain⟨R,K⟩:=hw1
 have L:=L.add c d
 have c1:=R.cell b (by rw[L.len];omega)
 have c2:=R.cell c (by rw[L.len];omega)
 have f1:=R.free b
 refine wp_region_qt_drew 16 (by kernel_rfl) (by kernel_rfl) ?_
 simp only[List.take_succ_cons,List.take_zero,List.drop_succ_cons,List.drop_zero]
 repeat(quiet_step ((go_at_call 274;exact Calls.quiet_of (turn_any _ _ 12 (xor_lt _ _ (L.lt b) (L.lt c)) (xor_step L b c) (by omega) _))))
 refine wpQuiet_nil ?_
 intro nq
 go_wp2
 refine wp_world (λw1=>Row w1 B .u32 T (rotAt ((addAt (rotAt (addAt l a b) d a 16) c d)) b c 12)∧Keep (OneB B) w w1) ⟨(R.drewN nq).store b rfl,(K.drewN nq).set1 _ _⟩ ?_
 clear R K c1 c2 f1
 intro w1 hw1
 obtain⟨R,K⟩:=hw1
 have L:=L.rot b c 12
 have c1:=R.cell a (by rw[L.len];omega)
 have c2:=R.cell b (by rw[L.len];omega)
 have f1:=R.free a
 refine wp_region_qt_drew 13 (by kernel_rfl) (by kernel_rfl) ?_
 simp only[List.take_succ_cons,List.take_zero,List.drop_succ_cons,List.drop_zero]
 repeat(quiet_step (fail))
 refine wpQuiet_nil ?_
 intro nq
 go_wp2
 refine wp_world (λw1=>Row w1 B .u32 T (addAt (rotAt (addAt (rotAt (addAt l a b) d a 16) c d) b c 12) a b)∧Keep (OneB B) w w1) ⟨(R.drewN nq).store a (add_step a b),(K.drewN nq).set1 _ _⟩ ?_
 clear R K c1 c2 f1
 intro w1 hw1
 obtain⟨R,K⟩:=hw1
 have L:=L.add a b
 have c1:=R.cell d (by rw[L.len];omega)
 have c2:=R.cell a (by rw[L.len];omega)
 have f1:=R.free d
 refine wp_region_qt_drew 16 (by kernel_rfl) (by kernel_rfl) ?_
 simp only[List.take_succ_cons,List.take_zero,List.drop_succ_cons,List.drop_zero]
 repeat(quiet_step ((go_at_call 274;exact Calls.quiet_of (turn_any _ _ 8 (xor_lt _ _ (L.lt d) (L.lt a)) (xor_step L d a) (by omega) _))))
 refine wpQuiet_nil ?_
 intro nq
 go_wp2
 refine wp_world (λw1=>Row w1 B .u32 T (rotAt ((addAt (rotAt (addAt (rotAt (addAt l a b) d a 16) c d) b c 12) a b)) d a 8)∧Keep (OneB B) w w1) ⟨(R.drewN nq).store d rfl,(K.drewN nq).set1 _ _⟩ ?_
 clear R K c1 c2 f1
 intro w1 hw1
 obtain⟨R,K⟩:=hw1
 have L:=L.rot d a 8
 have c1:=R.cell c (by rw[L.len];omega)
 have c2:=R.cell d (by rw[L.len];omega)
 have f1:=R.free c
 refine wp_region_qt_drew 13 (by kernel_rfl) (by kernel_rfl) ?_
 simp only[List.take_succ_cons,List.take_zero,List.drop_succ_cons,List.drop_zero]
 repeat(quiet_step (fail))
 refine wpQuiet_nil ?_
 intro nq
 go_wp2
 refine wp_world (λw1=>Row w1 B .u32 T (addAt (rotAt (addAt (rotAt (addAt (rotAt (addAt l a b) d a 16) c d) b c 12) a b) d a 8) c d)∧Keep (OneB B) w w1) ⟨(R.drewN nq).store c (add_step c d),(K.drewN nq).set1 _ _⟩ ?_
 clear R K c1 c2 f1
 intro w1 hw1
 obtain⟨R,K⟩:=hw1
 have L:=L.add c d
 have c1:=R.cell b (by rw[L.len];omega)
 have c2:=R.cell c (by rw[L.len];omega)
 have f1:=R.free b
 refine wp_region_qt_drew 16 (by kernel_rfl) (by kernel_rfl) ?_
 simp only[List.take_succ_cons,List.take_zero,List.drop_succ_cons,List.drop_zero]
 repeat(quiet_step ((go_at_call 274;exact Calls.quiet_of (turn_any _ _ 7 (xor_lt _ _ (L.lt b) (L.lt c)) (xor_step L b c) (by omega) _))))
 refine wpQuiet_nil ?_
 intro nq
 go_wp2
 go_end0
 exact⟨rfl,(R.drewN nq).store b rfl,(K.drewN nq).set1 _ _⟩
theorem quarter_at(B:Nat)(T:TypeId)(a b c d:Nat)(ia ib ic id:Int)(l:List Nat)(w:World)(ha:a<16)(hb:b<16)(hc:c<16)(hd:d<16)(ea:ia=a)(eb:ib=b)(ec:ic=c)(ed:id=d)(R:Row w B .u32 T l)(L:W16 l):
  Calls Tryz.prog 238 #[.pointer (some ⟨B,0,none⟩),.int .i64 ia,.int .i64 ib,.int .i64 ic,.int .i64 id] w λe w'=>e= .returned (.tuple #[])∧Row w' B .u32 T (qr l a b c d)∧Keep (OneB B) w w':=by
 subst ea eb ec ed
 exact quarter_any B T a b c d l w ha hb hc hd R L
theorem or4(a b c d:Nat)(ha:a<256)(hb:b<256)(hc:c<256)(hd:d<256):((a|||b*256)|||c*65536)|||d*16777216=a+256*b+65536*c+16777216*d:=by
 have e1:a|||b*256=a+256*b:=by
  have:=Nat.two_pow_add_eq_or_of_lt (i:=8) (b:=a) (by omega) b
  rw[Nat.or_comm,Nat.mul_comm b 256]
  simpa [Nat.add_comm]using this.symm
 have e2:(a+256*b)|||c*65536=a+256*b+65536*c:=by
  have:=Nat.two_pow_add_eq_or_of_lt (i:=16) (b:=a+256*b) (by omega) c
  rw[Nat.or_comm,Nat.mul_comm c 65536]
  simpa [Nat.add_comm]using this.symm
 have e3:(a+256*b+65536*c)|||d*16777216=a+256*b+65536*c+16777216*d:=by
  have:=Nat.two_pow_add_eq_or_of_lt (i:=24) (b:=a+256*b+65536*c) (by omega) d
  rw[Nat.or_comm,Nat.mul_comm d 16777216]
  simpa [Nat.add_comm]using this.symm
 rw[e1,e2,e3]
theorem word_any(s:ByteArray)(hs:4<=s.size)(w:World):
  Calls Tryz.prog 237 #[.string s] w λe w'=>e= .returned (.int .u32 (le32 (bs s) 0:Nat))∧∃k,w'=w.drewN k:=by
 have h0:0<s.size:=by omega
 have h1:(1:Int)<s.size:=by omega
 have h2:(2:Int)<s.size:=by omega
 have h3:(3:Int)<s.size:=by omega
 go_enter Tryz.func237,Tryz.ntmps237
 go_wp2
 go_quiet (fail)
 go_wp2
 go_ret
 refine⟨?_,⟨_,rfl⟩⟩
 have b0:=bs_getD s 0 (by omega)
 have b1:=bs_getD s 1 (by omega)
 have b2:=bs_getD s 2 (by omega)
 have b3:=bs_getD s 3 (by omega)
 have c0:=bs_lt s 0
 have c1:=bs_lt s 1
 have c2:=bs_lt s 2
 have c3:=bs_lt s 3
 refine ret_u32 ?_
 have fin:∀a b c d:Nat,a<256->b<256->c<256->d<256->bits BinOp.or IntKind.u32 (bits BinOp.or IntKind.u32 (bits BinOp.or IntKind.u32 ((a:Int) % 4294967296) ((b:Int) % 4294967296*256 % 4294967296)) ((c:Int) % 4294967296*65536 % 4294967296)) ((d:Int) % 4294967296*16777216 % 4294967296)=((a+256*b+65536*c+16777216*d:Nat):Int):=by
  intro a b c d ha hb hc hd
  have e0:(a:Int) % 4294967296=(a:Nat):=by omega
  have e1:(b:Int) % 4294967296*256 % 4294967296=((b*256:Nat):Int):=by omega
  have e2:(c:Int) % 4294967296*65536 % 4294967296=((c*65536:Nat):Int):=by omega
  have e3:(d:Int) % 4294967296*16777216 % 4294967296=((d*16777216:Nat):Int):=by omega
  have p1:a|||b*256<4294967296:=by
   have:=Nat.or_lt_two_pow (n:=32) (x:=a) (y:=b*256) (by omega) (by omega);omega
  have p2:(a|||b*256)|||c*65536<4294967296:=by
   have:=Nat.or_lt_two_pow (n:=32) (x:=a|||b*256) (y:=c*65536) (by omega) (by omega);omega
  rw[e0,e1,e2,e3,u32_or _ _ (by omega) (by omega),u32_or _ _ p1 (by omega),u32_or _ _ p2 (by omega),or4 a b c d ha hb hc hd]
 rw[b0]at c0;rw[b1]at c1;rw[b2]at c2;rw[b3]at c3
 have:=fin _ _ _ _ c0 c1 c2 c3
 unfold le32
 rw[b0,b1,b2,b3]
 exact this
theorem keyed_len(key:List Nat)(k:Nat):(keyed key k).length=16:=by
 unfold keyed;induction k with
 | zero=>rfl
 | succ k ih=>simp[times,ih]
theorem nonced_len(l:List Nat)(nonce:List Nat)(k:Nat):(nonced l nonce k).length=l.length:=by
 unfold nonced;induction k with
 | zero=>rfl
 | succ k ih=>simp[times,ih]
theorem le32_lt(l:List Nat)(h:∀i,l.getD i 0<256)(i:Nat):le32 l i<4294967296:=by
 unfold le32
 have:=h i;have:=h (i+1);have:=h (i+2);have:=h (i+3)
 omega
theorem W16.keyed(key:List Nat)(h:∀i,key.getD i 0<256)(k:Nat):W16 (keyed key k):=by
 unfold Go.Cof.keyed
 induction k with
 | zero=>
  refine⟨rfl,λi=> ?_⟩
  simp only[times]
  by_cases hi:i<16
  ·have:∀j:Fin 16,start0.getD j.val 0<4294967296:=by decide
   exact this ⟨i,hi⟩
  ·rw[List.getD_eq_getElem?_getD,List.getElem?_eq_none (by simp[start0];omega)];simp
 | succ k ih=>exact ih.set _ _ (le32_lt _ h _)
theorem W16.nonced{l:List Nat}(L:W16 l)(nonce:List Nat)(h:∀i,nonce.getD i 0<256)(k:Nat):W16 (nonced l nonce k):=by
 unfold Go.Cof.nonced
 induction k with
 | zero=>exact L
 | succ k ih=>exact ih.set _ _ (le32_lt _ h _)
theorem W16.startOf(key:List Nat)(hk:∀i,key.getD i 0<256)(n:Nat)(nonce:List Nat)(hn:∀i,nonce.getD i 0<256):W16 (Go.Cof.start key n nonce):=
 W16.nonced ((W16.keyed key hk 8).set 12 _ (Nat.mod_lt _ (by omega))) nonce hn 3
theorem W16.qr{l:List Nat}(L:W16 l)(a b c d:Nat):W16 (qr l a b c d):=by
 unfold Go.Cof.qr
 exact((((((((L.add _ _).rot _ _ _).add _ _).rot _ _ _).add _ _).rot _ _ _).add _ _).rot _ _ _)
theorem W16.times{f:Nat->List Nat->List Nat}(hf:∀i l,W16 l->W16 (f i l))(n:Nat){l:List Nat}(L:W16 l):W16 (times f n l):=by
 induction n with
 | zero=>exact L
 | succ n ih=>exact hf n _ ih
theorem W16.col{l:List Nat}(L:W16 l)(i:Nat):W16 (col i l):=L.qr _ _ _ _
theorem W16.dia{l:List Nat}(L:W16 l)(i:Nat):W16 (dia i l):=L.qr _ _ _ _
theorem W16.dbl{l:List Nat}(L:W16 l)(i:Nat):W16 (dbl i l):=W16.times (λi _ h=>h.dia i) 4 (W16.times (λi _ h=>h.col i) 4 L)
theorem le32_extract(s:ByteArray)(i:Nat)(h:i+4<=s.size):le32 (bs (s.extract i s.size)) 0=le32 (bs s) i:=by
 have e:∀j,j<4->(bs (s.extract i s.size)).getD j 0=(bs s).getD (i+j) 0:=by
  intro j hj
  rw[bs_extract]
  simp only[List.getD_eq_getElem?_getD,List.getElem?_take,List.getElem?_drop]
  rw[if_pos (by omega)]
 unfold le32
 have:=e 0 (by omega);have:=e 1 (by omega);have:=e 2 (by omega);have:=e 3 (by omega)
 simp_all
theorem keyed_succ(key:List Nat)(k:Nat):keyed key (k+1)=(keyed key k).set (4+k) (le32 key (4*k)):=rfl
theorem nonced_succ(l nonce:List Nat)(k:Nat):nonced l nonce (k+1)=(nonced l nonce k).set (13+k) (le32 nonce (4*k)):=rfl
theorem size_from(s:ByteArray)(i:Nat):(s.extract i s.size).size=s.size-i:=by simp
theorem outTo_succ(t s:List Nat)(k:Nat):outTo t s (k+1)=outTo t s k++word4 ((t.getD k 0+s.getD k 0) % 4294967296):=rfl
theorem outTo_len(t s:List Nat)(k:Nat):(outTo t s k).length=4*k:=by
 induction k with
 | zero=>rfl
 | succ k ih=>rw[outTo_succ,List.length_append,ih];simp[word4];omega
theorem info5:(Tryz.prog.info? 5).map (λi=>(i.zero,i.size,i.bytes))=some (some (.int .u8 0),1,1):=by kernel_rfl
theorem size34:(Tryz.prog.info? 195).map (·.size)=some 1:=by kernel_rfl
theorem word4_u8(x:Nat)(hx:x<4294967296):u8s (word4 x)= [.int .u8 ((x:Int) % 256),.int .u8 ((x:Int)/256 % 256),.int .u8 ((x:Int)/65536 % 256),.int .u8 ((x:Int)/16777216)]:=by
 have e0:((x % 256:Nat):Int)=(x:Int) % 256:=by omega
 have e1:((x/256 % 256:Nat):Int)=(x:Int)/256 % 256:=by omega
 have e2:((x/65536 % 256:Nat):Int)=(x:Int)/65536 % 256:=by omega
 have e3:((x/16777216 % 256:Nat):Int)=(x:Int)/16777216:=by omega
 simp only[u8s,word4,List.map_cons,List.map_nil,e0,e1,e2,e3]
set_option maxRecDepth 100000 in
set_option maxHeartbeats 8000000 in
theorem block_any(key nonce:ByteArray)(n:Nat)(hk0:Hid (key.size=32))(hn0:Hid (nonce.size=12))(h1:n<4294967296)(w:World):
  Calls Tryz.prog 182 #[.string key,.int .i64 n,.string nonce] w λe w'=>e= .returned (.tuple #[.string (txt (block (bs key) n (bs nonce))),.nilIface])∧Keep NoB w w':=by
 have b1:((key.size:Int) !=32)=false:=by rw[hk0.out];rfl
 have b2:((nonce.size:Int) !=12)=false:=by rw[hn0.out];rfl
 have b3:decide ((n:Int)<0)=false:=by simp
 have b4:decide (4294967296<=(n:Int))=false:=by simp;omega
 have LK:∀k,W16 (keyed (bs key) k):=λk=>W16.keyed _ (bs_lt key) k
 have HLK:=Lib.hid LK
 clear LK
 go_enter Tryz.func182,Tryz.ntmps182
 go_wp2
 refine wp_world (λw1=>Row w1 w.heap.size .u32 286 (keyed (bs key) 0)∧Keep NoB w w1) ⟨heap_alloc_new w _,(Keep.refl _ _).alloc _⟩ ?_
 intro w1 hw1
 go_loopw [35] (λi wr=>∃k:Nat,k<=8∧i= .int .i64 k∧Row wr w.heap.size .u32 286 (keyed (bs key) k)∧Keep NoB w wr) (λi _=>8-(intOf i).toNat)
 case atStart=>exact⟨0,by omega,rfl,hw1.1,hw1.2⟩
 case round=>
  clear hw1 w1
  obtain⟨k,hk,rfl,R,K⟩:=hrel
  by_cases hlt:k<8
  ·have j1:(k:Int)<8:=by omega
   have j2:(4:Int)+k<16:=by omega
   have j3:(4:Int)*k<=key.size:=by rw[hk0.out];omega
   have c1:=R.cell (4+k) (by rw[keyed_len];omega)
   have f1:=R.free (4+k)
   go_wp2_with fail
   refine(word_any _ (by rw[size_from,hk0.out];omega) _).mono ?_
   rintro e w2 ⟨rfl,m,rfl⟩
   go_wp2
   go_roundw
   case rel=>first|exact⟨k+1,by omega,by go_num,by rw[keyed_succ];exact(R.drewN m).store (4+k) (by rw[le32_extract key _ (by rw[hk0.out];omega)]),(K.drewN m).setCell (.inr (Nat.le_refl _)) _⟩|((repeat apply Exists.intro);exact⟨⟨k+1,by omega,by go_num,by rw[keyed_succ];exact(R.drewN m).store (4+k) (by rw[le32_extract key _ (by rw[hk0.out];omega)]),(K.drewN m).setCell (.inr (Nat.le_refl _)) _⟩,rfl⟩)
   case measure=>simp[intOf];omega
  ·obtain rfl:k=8:=by omega
   clear hlt hk
   have f1:=R.free 12
   have c1:=R.cell 12 (by rw[keyed_len];omega)
   go_wp2
   clear f1 c1
   refine wp_world (λw1=>Row w1 w.heap.size .u32 286 (nonced ((keyed (bs key) 8).set 12 (n % 4294967296)) (bs nonce) 0)∧Keep NoB w w1) ⟨R.store 12 (by omega),K.setCell (.inr (Nat.le_refl _)) _⟩ ?_
   clear R K wr
   intro w1 hw1
   obtain⟨l12,hl12⟩:∃l,l=(keyed (bs key) 8).set 12 (n % 4294967296):=⟨_,rfl⟩
   have L12:W16 l12:=by rw[hl12];exact(HLK.out 8).set 12 _ (Nat.mod_lt _ (by omega))
   rw[<-hl12]at hw1
   have Hl12:=Lib.hid hl12
   clear hl12
   go_loopw [50] (λi wr=>∃k:Nat,k<=3∧i= .int .i64 k∧Row wr w.heap.size .u32 286 (nonced l12 (bs nonce) k)∧Keep NoB w wr) (λi _=>3-(intOf i).toNat)
   case atStart=>exact⟨0,by omega,rfl,hw1.1,hw1.2⟩
   case round=>
    clear hw1 w1
    obtain⟨k,hk,rfl,R,K⟩:=hrel
    by_cases hlt:k<3
    ·have j1:(k:Int)<3:=by omega
     have j2:(13:Int)+k<16:=by omega
     have j3:(4:Int)*k<=nonce.size:=by rw[hn0.out];omega
     have c1:=R.cell (13+k) (by rw[nonced_len,L12.len];omega)
     have f1:=R.free (13+k)
     go_wp2_with fail
     refine(word_any _ (by rw[size_from,hn0.out];omega) _).mono ?_
     rintro e w2 ⟨rfl,m,rfl⟩
     go_wp2
     go_roundw
     case rel=>first|exact⟨k+1,by omega,by go_num,by rw[nonced_succ];exact(R.drewN m).store (13+k) (by rw[le32_extract nonce _ (by rw[hn0.out];omega)]),(K.drewN m).setCell (.inr (Nat.le_refl _)) _⟩|((repeat apply Exists.intro);exact⟨⟨k+1,by omega,by go_num,by rw[nonced_succ];exact(R.drewN m).store (13+k) (by rw[le32_extract nonce _ (by rw[hn0.out];omega)]),(K.drewN m).setCell (.inr (Nat.le_refl _)) _⟩,rfl⟩)
     case measure=>simp[intOf];omega
    ·obtain rfl:k=3:=by omega
     clear hlt hk
     refine wp_world (λw1=>Row w1 w.heap.size .u32 286 (Go.Cof.start (bs key) n (bs nonce))∧Keep NoB w w1) ⟨by rw[Hl12.out]at R;exact R,K⟩ ?_
     have LS:W16 (Go.Cof.start (bs key) n (bs nonce)):=W16.startOf _ (bs_lt key) _ _ (bs_lt nonce)
     generalize Hs:Go.Cof.start (bs key) n (bs nonce)=s at LS
     have Hs':=Lib.hid Hs
     clear Hs R K wr Hl12 L12
     intro w1 hw1
     obtain⟨R,K⟩:=hw1
     have hi35:(Tryz.prog.info? 286).map (·.size)=some (ints .u32 s).size:=by rw[ints_size,LS.len];kernel_rfl
     have Hi35:=Lib.hid hi35
     clear hi35
     have Hs16:Hid ((ints .u32 s).size=16):=by show(ints .u32 s).size=16;rw[ints_size,LS.len]
     go_wp2_with (first|(refine wpList_load_row rfl 286 _ rfl w.heap.size rfl 286 (ints .u32 s) (0,0) _ R Tryz.underlying286 rfl Hi35.out ?_)|(refine wpList_store_whole rfl 286 _ _ rfl w1.heap.size 286 _ (ints .u32 s) rfl rfl (heap_alloc_new w1 _) Hi35.out 16 ?_ Hs16.out (ints_one _ _) ?_;exact rfl))
     have hlt1:w.heap.size<w1.heap.size:=R.lt
     obtain⟨BT,hBT⟩:∃b,b=w1.heap.size:=⟨_,rfl⟩
     rw[<-hBT]at hlt1
     have HBT:=Lib.hid hBT
     refine wp_world (λw2=>Row w2 BT .u32 286 s∧Row w2 w.heap.size .u32 286 s∧Keep NoB w w2) ⟨by rw[hBT];exact heap_setRow (heap_alloc_new w1 _),(R.keep ((Keep.refl NoB w1).alloc _) (λx=>x)).keep ((Keep.refl (OneB w1.heap.size) _).setRow (.inl rfl) _) (λe=>by simp only[OneB]at e;omega),(K.alloc _).setRow (.inr (by omega)) _⟩ ?_
     rw[<-hBT]
     clear R K hBT
     intro w2 hw2
     obtain⟨RT,RS,K⟩:=hw2
     go_loopw [63] (λi wr=>∃k:Nat,k<=10∧i= .int .i64 k∧Row wr BT .u32 286 (times dbl k s)∧Row wr w.heap.size .u32 286 s∧Keep NoB w wr) (λi _=>10-(intOf i).toNat)
     case atStart=>exact⟨0,by omega,rfl,RT,RS,K⟩
     case round=>
      clear RT RS K w2
      obtain⟨k,hk,rfl,RT,RS,K⟩:=hrel
      have LT:W16 (times dbl k s):=W16.times (λi _ h=>h.dbl i) k LS
      by_cases hlt:k<10
      ·have j1:(k:Int)<10:=by omega
       obtain⟨t0,ht0⟩:∃t,t=times dbl k s:=⟨_,rfl⟩
       rw[<-ht0]at RT LT
       have Ht0:=Lib.hid ht0
       clear ht0
       go_wp2
       refine wp_world (λw2=>Row w2 BT .u32 286 t0∧Row w2 w.heap.size .u32 286 s∧Keep NoB w w2) ⟨RT,RS,K⟩ ?_
       clear RT RS K wr
       intro w2 hw2
       obtain⟨RT,RS,K⟩:=hw2
       go_loopw [65] (λi wr=>∃j:Nat,j<=4∧i= .int .i64 j∧Row wr BT .u32 286 (times col j t0)∧Row wr w.heap.size .u32 286 s∧Keep NoB w wr) (λi _=>4-(intOf i).toNat)
       case atStart=>exact⟨0,by omega,rfl,RT,RS,K⟩
       case round=>
        clear RT RS K w2
        obtain⟨j,hj,rfl,RT,RS,K⟩:=hrel
        have LJ:W16 (times col j t0):=W16.times (λi _ h=>h.col i) j LT
        by_cases hlt:j<4
        ·have j1:(j:Int)<4:=by omega
         go_wp2_with fail
         refine(quarter_at BT 286 j (4+j) (8+j) (12+j) _ _ _ _ _ wr (by omega) (by omega) (by omega) (by omega) rfl (by omega) (by omega) (by omega) RT LJ).mono ?_
         rintro e w2 ⟨rfl,RT',K'⟩
         have RS':=RS.keep K' (λe=>by simp only[Cof.OneB]at e;omega)
         have K2:=K.trans K' (λi hi e=>by simp only[Cof.OneB]at e;omega)
         clear RT RS K K'
         go_wp2
         go_roundw
         case rel=>first|exact⟨j+1,by omega,by go_num,RT',RS',K2⟩|((repeat apply Exists.intro);exact⟨⟨j+1,by omega,by go_num,RT',RS',K2⟩,rfl⟩)
         case measure=>simp[intOf];omega
        ·obtain rfl:j=4:=by omega
         clear hlt hj
         obtain⟨t1,ht1⟩:∃t,t=times col 4 t0:=⟨_,rfl⟩
         rw[<-ht1]at RT LJ
         have Ht1:=Lib.hid ht1
         clear ht1
         go_wp2
         refine wp_world (λw2=>Row w2 BT .u32 286 t1∧Row w2 w.heap.size .u32 286 s∧Keep NoB w w2) ⟨RT,RS,K⟩ ?_
         clear RT RS K wr
         intro w2 hw2
         obtain⟨RT,RS,K⟩:=hw2
         go_loopw [77] (λi wr=>∃j:Nat,j<=4∧i= .int .i64 j∧Row wr BT .u32 286 (times dia j t1)∧Row wr w.heap.size .u32 286 s∧Keep NoB w wr) (λi _=>4-(intOf i).toNat)
         case atStart=>exact⟨0,by omega,rfl,RT,RS,K⟩
         case round=>
          clear RT RS K w2
          obtain⟨j,hj,rfl,RT,RS,K⟩:=hrel
          have LD:W16 (times dia j t1):=W16.times (λi _ h=>h.dia i) j LJ
          by_cases hlt:j<4
          ·have j1:(j:Int)<4:=by omega
           go_wp2_with fail
           refine(quarter_at BT 286 j (4+(j+1) % 4) (8+(j+2) % 4) (12+(j+3) % 4) _ _ _ _ _ wr (by omega) (by omega) (by omega) (by omega) rfl (by omega) (by omega) (by omega) RT LD).mono ?_
           rintro e w2 ⟨rfl,RT',K'⟩
           have RS':=RS.keep K' (λe=>by simp only[Cof.OneB]at e;omega)
           have K2:=K.trans K' (λi hi e=>by simp only[Cof.OneB]at e;omega)
           clear RT RS K K'
           go_wp2
           go_roundw
           case rel=>first|exact⟨j+1,by omega,by go_num,RT',RS',K2⟩|((repeat apply Exists.intro);exact⟨⟨j+1,by omega,by go_num,RT',RS',K2⟩,rfl⟩)
           case measure=>simp[intOf];omega
          ·obtain rfl:j=4:=by omega
           clear hlt hj
           go_wp2
           have RT':Row wr BT .u32 286 (times dbl (k+1) s):=by rw[times_succ,<-Ht0.out];unfold dbl;rw[<-Ht1.out];exact RT
           go_roundw
           case rel=>first|exact⟨k+1,by omega,by go_num,RT',RS,K⟩|((repeat apply Exists.intro);exact⟨⟨k+1,by omega,by go_num,RT',RS,K⟩,rfl⟩)
           case measure=>simp[intOf];omega
      ·obtain rfl:k=10:=by omega
       clear hlt hk
       obtain⟨t,ht⟩:∃t,t=times dbl 10 s:=⟨_,rfl⟩
       rw[<-ht]at RT LT
       have Ht:=Lib.hid ht
       clear ht
       have hi35:(Tryz.prog.info? 286).map (·.size)=some (ints .u32 t).size:=by rw[ints_size,LT.len];kernel_rfl
       have Ht35:=Lib.hid hi35
       clear hi35
       go_wp2_with (first|(refine wpList_load_row rfl 286 _ rfl BT rfl 286 (ints .u32 t) (0,0) _ RT Tryz.underlying286 rfl Ht35.out ?_))
       clear Ht35
       obtain⟨i0,hi0,hz0,hz1,hz2⟩:=info_parts info5
       refine wp_world (λw2=>Row w2 BT .u32 286 t∧Row w2 w.heap.size .u32 286 s∧Keep NoB w w2) ⟨RT,RS,K⟩ ?_
       clear RT RS K wr
       intro w2 hw2
       obtain⟨RT,RS,K⟩:=hw2
       have hBT2:=RT.lt
       go_loopw [14,97] (λv i wr=>∃k:Nat,k<=16∧i= .int .i64 k∧Row wr w.heap.size .u32 286 s∧Keep NoB w wr∧wr.ownsRow (BT+1) 5 1 v (outTo t s k).length (u8s (outTo t s k))∧BT+1<=wr.heap.size) (λ_ i _=>16-(intOf i).toNat)
       case atStart=>exact⟨0,by omega,rfl,RS,K,World.ownsRow_nil _ _ _ _,by omega⟩
       case round=>
        clear RT RS K hBT2 w2
        obtain⟨k,hk,rfl,RS,K,hown,hsz⟩:=hrel
        by_cases hlt:k<16
        ·have j1:(k:Int)<16:=by omega
         have c1:=RS.cell k (by rw[LS.len];omega)
         have hix:=λwx=>run_index_ints (P:=Tryz.prog) (kd:= .u32) Tryz.underlying286 Tryz.underlying195 rfl size34 t k LT.len hlt wx
         have hlen:(outTo t s k).length=4*k:=outTo_len t s k
         have Hlen:=Lib.hid hlen
         clear hlen
         go_wp2_with (first|(at_builtin;refine wpList_append_own _ rfl _ _ 65 rfl (BT+1) 5 i0 (.int .u8 0) 1 1 Tryz.underlying65 hi0 hz0 hz1 hz2 rfl (by decide) u14 _ _ rfl (hown.alloc _) ⟨wr.heap.size,0,none⟩ 4 4 _ rfl rfl (cells_new _ _ _) (ones4 _ _ _ _ _) (by rw[Hlen.out];unfold maxLen;omega) (by rw[Hlen.out];omega) (by simp;omega) ?_;intro v' w' hown' hgrow _))
         have hx4:(t.getD k 0+s.getD k 0) % 4294967296<4294967296:=Nat.mod_lt _ (by omega)
         have hw4:=word4_u8 _ hx4
         have ex:(((t.getD k 0+s.getD k 0) % 4294967296:Nat):Int)=((t.getD k 0:Int)+(s.getD k 0:Int)) % 4294967296:=by omega
         have ey:((t.getD k 0:Int)+(s.getD k 0:Int)) % 4294967296 % 256=((t.getD k 0:Int)+(s.getD k 0:Int)) % 256:=by omega
         rw[ex,ey]at hw4
         simp only[List.getD_eq_getElem?_getD]at hw4
         rw[<-hw4,<-u8s_append]at hown'
         have hl4:(outTo t s k).length+4=(outTo t s (k+1)).length:=by rw[outTo_succ,List.length_append];rfl
         rw[hl4]at hown'
         have hown2:w'.ownsRow (BT+1) 5 1 v' (outTo t s (k+1)).length (u8s (outTo t s (k+1))):=by
          rw[outTo_succ]
          simp only[List.getD_eq_getElem?_getD]
          exact hown'
         have hne:∀b,u14.ownBlock=some b->BT+1<=b:=λb hb=>(hown.lt b hb).1
         have K2:Keep NoB w w':=(K.alloc _).grown hgrow (λb hb=> .inr (by have:=hne b hb;omega))
         have RS2:Row w' w.heap.size .u32 286 s:=(RS.alloc _).grown hgrow (λe=>by have:=hne _ e.symm;omega)
         have hsz2:BT+1<=w'.heap.size:=by have:=hgrow.size;simp at this;omega
         have hrel2:∃k_1:Nat,k_1<=16∧Value.int IntKind.i64 (↑k+1)=Value.int IntKind.i64 ↑k_1∧Row w' w.heap.size IntKind.u32 286 s∧Keep NoB w w'∧w'.ownsRow (BT+1) 5 1 v' (outTo t s k_1).length (u8s (outTo t s k_1))∧BT+1<=w'.heap.size:=
          ⟨k+1,by omega,by go_num,RS2,K2,hown2,hsz2⟩
         clear hown' hgrow hw4 ex ey hown2 RS2 K2 hx4 hl4 hix c1
         go_roundw
         case rel=>exact hrel2
         case measure=>simp[intOf];omega
        ·obtain rfl:k=16:=by omega
         have hcv:=run_string_own (P:=Tryz.prog) hown Tryz.underlying65 Tryz.underlying5 Tryz.underlying9
         have hfin:outTo t s 16=block (bs key) n (bs nonce):=by rw[Ht.out,<-Hs'.out];rfl
         rw[hfin]at hcv
         have Hcv:=Lib.hid hfin
         clear hfin
         go_wp2
         go_ret2
         exact⟨rfl,K⟩
theorem block_at(key nonce:ByteArray)(i:Int)(n:Nat)(hi:i=n)(hk:key.size=32)(hn:nonce.size=12)(h1:n<4294967296)(w:World):
  Calls Tryz.prog 182 #[.string key,.int .i64 i,.string nonce] w λe w'=>e= .returned (.tuple #[.string (txt (block (bs key) n (bs nonce))),.nilIface])∧Keep NoB w w':=by
 subst hi
 exact block_any key nonce n hk hn h1 w
theorem block_len(key:List Nat)(n:Nat)(nonce:List Nat):(block key n nonce).length=64:=outTo_len _ _ 16
theorem xorTo_ge(key nonce s:List Nat)(k:Nat)(h:s.length<=k):xorTo key nonce s k=xor key nonce s:=by
 induction k with
 | zero=>
  have:s= []:=List.eq_nil_of_length_eq_zero (by omega)
  subst this;rfl
 | succ k ih=>
  by_cases hk:s.length<=k
  ·have e:xorTo key nonce s (k+1)=xorStep key nonce k (xorTo key nonce s k):=rfl
   rw[e,xorStep,List.set_eq_of_length_le (by rw[xorTo_len];exact hk),ih hk]
  ·have:k+1=s.length:=by omega
   rw[this];rfl
theorem xor_u8(a b:Nat)(ha:a<256)(hb:b<256):bits .xor .u8 (a:Int) (b:Int)=((a^^^b:Nat):Int):=by
 have h8:∀c:Nat,c<256->(BitVec.ofInt 8 (c:Int)).toNat=c:=λc hc=>by
  rw[BitVec.ofInt_natCast,BitVec.toNat_ofNat];exact Nat.mod_eq_of_lt (by omega)
 have hx:a^^^b<2^8:=Nat.xor_lt_two_pow (by omega) (by omega)
 show IntKind.u8.wrap ((BitVec.ofInt 8 (a:Int)^^^BitVec.ofInt 8 (b:Int)).toNat:Int)=_
 rw[BitVec.toNat_xor,h8 a ha,h8 b hb,IntKind.wrap_u8]
 omega
theorem word4_bytes(x:Nat):Bytes (word4 x):=by
 intro y hy
 simp only[word4,List.mem_cons,List.not_mem_nil,or_false]at hy
 rcases hy with rfl|rfl|rfl|rfl<;>exact Nat.mod_lt _ (by omega)
theorem outTo_bytes(t s:List Nat)(k:Nat):Bytes (outTo t s k):=by
 induction k with
 | zero=>intro x hx;simp[outTo,times]at hx
 | succ k ih=>
  rw[outTo_succ]
  intro x hx
  rcases List.mem_append.1 hx with h|h
  ·exact ih x h
  ·exact word4_bytes _ x h
theorem block_bytes(key:List Nat)(n:Nat)(nonce:List Nat):Bytes (block key n nonce):=outTo_bytes _ _ 16
theorem padAt_lt(key nonce:List Nat)(i:Nat):padAt key nonce i<256:=bytes_getD (block_bytes _ _ _) _
theorem xorTo_lt(key nonce s:List Nat)(hs:Bytes s)(k i:Nat):(xorTo key nonce s k).getD i 0<256:=by
 rw[xorTo_getD]
 split
 ·have h1:=bytes_getD hs i
  have h2:=padAt_lt key nonce i
  have:=Nat.xor_lt_two_pow (n:=8) (x:=s.getD i 0) (y:=padAt key nonce i) (by omega) (by omega)
  omega
 ·exact bytes_getD hs i
theorem block_is(key nonce:ByteArray)(i:Int)(n:Nat)(hi:i=n)(hk:key.size=32)(hn:nonce.size=12)(h1:n<4294967296)(w:World):
  Calls Tryz.prog 182 #[.string key,.int .i64 i,.string nonce] w λe w'=>∃T,e= .returned (.tuple #[.string T,.nilIface])∧Hid (bs T=block (bs key) n (bs nonce))∧Keep NoB w w':=
 (block_at key nonce i n hi hk hn h1 w).mono λ_ _ ⟨he,hK⟩=>⟨_,he,bs_txt (block_bytes _ _ _),hK⟩
set_option maxRecDepth 100000 in
set_option maxHeartbeats 4000000 in
theorem xor_pos(key nonce s:ByteArray)(hk0:key.size=32)(hn0:nonce.size=12)(hpos:0<s.size)(hs:s.size<=1000000)(w:World):
  Calls Tryz.prog 200 #[.string key,.string nonce,.string s] w λe w'=>e= .returned (.tuple #[.string (txt (xor (bs key) (bs nonce) (bs s))),.nilIface])∧Keep NoB w w':=by
 have Hk:=Lib.hid hk0
 have Hn:=Lib.hid hn0
 clear hk0 hn0
 have hcv:=Lib.run_convert_string_bytes (P:=Tryz.prog) w 9 65 5 s Tryz.underlying9 Tryz.underlying65 Tryz.underlying5
 go_enter Tryz.func200,Tryz.ntmps200
 go_wp2_with fail
 obtain⟨cap,hcap⟩:∃c,c=grownCap w s.size 0 5:=⟨_,rfl⟩
 rw[<-hcap]
 refine wp_world (λw1=>Keep NoB w w1∧BRow w1 w.heap.size 5 (xorTo (bs key) (bs nonce) (bs s) 0)) ⟨(Keep.refl _ _).bytesWorld _ _,BRow.ofBytes w _ s⟩ ?_
 clear hcv hcap
 intro w1 hw1
 obtain⟨K,R⟩:=hw1
 go_loopw [9] (λi wr=>∃m:Nat,64*m<s.size+64∧i= .int .i64 (64*(m:Int))∧BRow wr w.heap.size 5 (xorTo (bs key) (bs nonce) (bs s) (64*m))∧Keep NoB w wr) (λi _=>s.size+64-(intOf i).toNat)
 case atStart=>exact⟨0,by omega,rfl,R,K⟩
 case round=>
  clear R K w1
  obtain⟨m,hm,rfl,R,K⟩:=hrel
  have hmb:(64*m:Nat)<=2000000:=by omega
  by_cases hgo:64*m<s.size
  ·have hd:64*(m:Int)<(s.size:Int):=by omega
   go_wp2_with fail
   refine(block_is key nonce _ (1+m) (by omega) Hk.out Hn.out (by omega) _).mono ?_
   rintro e w2 ⟨T,rfl,HT,K2⟩
   have R2:=R.keep K2 (λx=>x)
   have K3:=K.thenN K2
   have HTs:Hid (T.size=64):=by
    have:=congrArg List.length HT.out
    rw[bs_len,block_len]at this
    exact this
   clear R K K2
   go_wp2_with fail
   refine wp_world (λw1=>BRow w1 w.heap.size 5 (xorTo (bs key) (bs nonce) (bs s) (64*m))∧Keep NoB w w1) ⟨R2,K3⟩ ?_
   clear R2 K3 w2 wr
   intro w1 hw1
   obtain⟨R,K⟩:=hw1
   go_loopw [12] (λkv wr=>∃j:Nat,64*m<=j∧j<=64*m+64∧j<=s.size∧kv= .int .i64 j∧BRow wr w.heap.size 5 (xorTo (bs key) (bs nonce) (bs s) j)∧Keep NoB w wr) (λkv _=>64*m+64-(intOf kv).toNat)
   case atStart=>exact⟨64*m,by omega,by omega,by omega,by go_num,R,K⟩
   case round=>
    clear R K w1
    obtain⟨j,hj1,hj2,hj3,rfl,R,K⟩:=hrel
    by_cases hin:j<s.size∧j<64*m+64
    ·obtain⟨hjs,hj64⟩:=hin
     have d1:(j:Int)<s.size:=by omega
     have d2:(j:Int)<64*(m:Int)+64:=by omega
     obtain⟨q,hq⟩:∃q,j=64*m+q:=⟨j-64*m,by omega⟩
     have Hq:=Lib.hid hq
     clear hq
     have d3:IntKind.i64.wrap ((j:Int)-64*(m:Int))=(q:Int):=by rw[IntWalk.i64_in _ (by omega)];have:=Hq.out;omega
     have d4:q<T.size:=by rw[HTs.out];have:=Hq.out;omega
     have c1:=R.cell j (by rw[xorTo_len,bs_len];omega)
     have f1:=R.free j (by rw[xorTo_len,bs_len];omega)
     go_wp2_with fail
     refine wp_region_qt_drew 11 (by kernel_rfl) (by kernel_rfl) ?_
     simp only[List.take_succ_cons,List.take_zero,List.drop_succ_cons,List.drop_zero]
     repeat(quiet_step (fail))
     refine wpQuiet_nil ?_
     intro nq
     go_wp2
     have hT:T[q].toNat=padAt (bs key) (bs nonce) j:=by
      rw[<-bs_getD T q d4,HT.out]
      unfold padAt
      have e:=Hq.out
      rw[show j/64=m by omega,show j % 64=q by omega]
     have hx:bits .xor .u8 (((xorTo (bs key) (bs nonce) (bs s) j).getD j 0:Nat):Int) (T[q].toNat:Int)=(((xorTo (bs key) (bs nonce) (bs s) j).getD j 0^^^padAt (bs key) (bs nonce) j:Nat):Int):=by
      rw[hT];exact xor_u8 _ _ (xorTo_lt _ _ _ (bs_bytes s) _ _) (padAt_lt _ _ _)
     simp only[List.getD_eq_getElem?_getD]at hx
     have R':BRow ((wr.drewN nq).setCell ⟨w.heap.size,j,none⟩ (.int .u8 (bits .xor .u8 (((xorTo (bs key) (bs nonce) (bs s) j)[j]?.getD 0:Nat):Int) (T[q].toNat:Int)))) w.heap.size 5 (xorTo (bs key) (bs nonce) (bs s) (j+1)):=
      (R.drewN nq).store j (by rw[xorTo_len,bs_len];omega) hx
     have K':Keep NoB w ((wr.drewN nq).setCell ⟨w.heap.size,j,none⟩ (.int .u8 (bits .xor .u8 (((xorTo (bs key) (bs nonce) (bs s) j)[j]?.getD 0:Nat):Int) (T[q].toNat:Int)))):=(K.drewN nq).setCell (p:=⟨w.heap.size,j,none⟩) (.inr (Nat.le_refl _)) _
     clear hx hT
     go_roundw
     case rel=>first|exact⟨j+1,by omega,by omega,by omega,by go_num,R',K'⟩|((repeat apply Exists.intro);exact⟨⟨j+1,by omega,by omega,by omega,by go_num,R',K'⟩,rfl⟩)
     case measure=>simp[intOf];omega
    ·have d1:((j:Int)<s.size∧64*(m:Int)+64<=(j:Int))∨((s.size:Int)<=(j:Int)):=by omega
     clear hin
     have R':BRow wr w.heap.size 5 (xorTo (bs key) (bs nonce) (bs s) (64*(m+1))):=by
      by_cases h:j=64*(m+1)
      ·rw[<-h];exact R
      ·have e:j=s.size:=by omega
       rw[xorTo_ge _ _ _ _ (by rw[bs_len];omega)]
       rw[xorTo_ge _ _ _ _ (by rw[bs_len];omega)]at R
       exact R
     clear R
     rcases d1 with⟨d1,d2⟩|d1
     all_goals
      go_wp2
      go_roundw
      case rel=>first|exact⟨m+1,by omega,by go_num,R',K⟩|((repeat apply Exists.intro);exact⟨⟨m+1,by omega,by go_num,R',K⟩,rfl⟩)
      case measure=>simp[intOf];omega
  ·have hd:(s.size:Int)<=64*(m:Int):=by omega
   have hm0:(64*(m:Int)==0)=false:=by simp;omega
   have hm1:((m:Int)==0)=false:=by simp;omega
   rw[xorTo_ge _ _ _ _ (by rw[bs_len];omega)]at R
   have hcv:=run_string_row (P:=Tryz.prog) (cap:=cap) R Tryz.underlying65 Tryz.underlying5 Tryz.underlying9
   rw[xor_len,bs_len]at hcv
   go_wp2
   go_ret2
   exact⟨rfl,K⟩
set_option maxRecDepth 100000 in
set_option maxHeartbeats 4000000 in
theorem xor_empty(key nonce:ByteArray)(hk0:key.size=32)(hn0:nonce.size=12)(w:World):
  Calls Tryz.prog 200 #[.string key,.string nonce,.string ByteArray.empty] w λe w'=>e= .returned (.tuple #[.string (txt []),.nilIface])∧Keep NoB w w':=by
 have Hk:=Lib.hid hk0
 have Hn:=Lib.hid hn0
 clear hk0 hn0
 have hcv:=Lib.run_convert_string_bytes (P:=Tryz.prog) w 9 65 5 ByteArray.empty Tryz.underlying9 Tryz.underlying65 Tryz.underlying5
 go_enter Tryz.func200,Tryz.ntmps200
 go_wp2_with fail
 obtain⟨cap,hcap⟩:∃c,c=grownCap w 0 0 5:=⟨_,rfl⟩
 rw[<-hcap]
 refine wp_world (λw1=>Keep NoB w w1∧BRow w1 w.heap.size 5 (bs ByteArray.empty)) ⟨(Keep.refl _ _).bytesWorld _ _,BRow.ofBytes w _ _⟩ ?_
 clear hcv hcap
 intro w1 hw1
 obtain⟨K,R⟩:=hw1
 refine wp_loop_rounds 2 ?_
 rw[rounds_succ]
 go_wp2_with fail
 refine(block_is key nonce _ 1 (by rfl) Hk.out Hn.out (by omega) _).mono ?_
 rintro e w2 ⟨T,rfl,HT,K2⟩
 have R2:=R.keep K2 (λx=>x)
 have K3:=K.thenN K2
 clear R K K2
 go_wp2_with fail
 refine wp_loop_rounds 1 ?_
 rw[rounds_succ]
 go_wp2_with fail
 rw[rounds_succ]
 have hcv:=run_string_row (P:=Tryz.prog) (cap:=cap) R2 Tryz.underlying65 Tryz.underlying5 Tryz.underlying9
 have e0:(bs ByteArray.empty).length=0:=rfl
 rw[e0]at hcv
 go_wp2
 go_ret2
 exact⟨rfl,K3⟩
theorem xor_any(key nonce s:ByteArray)(hk0:key.size=32)(hn0:nonce.size=12)(hs:s.size<=1000000)(w:World):
  Calls Tryz.prog 200 #[.string key,.string nonce,.string s] w λe w'=>e= .returned (.tuple #[.string (txt (xor (bs key) (bs nonce) (bs s))),.nilIface])∧Keep NoB w w':=by
 by_cases h:0<s.size
 ·exact xor_pos key nonce s hk0 hn0 h hs w
 ·have hz:bs s= []:=List.eq_nil_of_length_eq_zero (by rw[bs_len];omega)
  have e:s=ByteArray.empty:=bs_inj (by rw[hz];rfl)
  subst e
  rw[hz]
  exact xor_empty key nonce hk0 hn0 w
end Go.Proofs.YtnmhgehpddipdaaGreatDoor
namespace Go.Cof
open Go.RowKit
def mk2(a b:ByteArray):ByteArray:=txt (Cof.mark 117 [bs a,bs b])
theorem mk2_size(a b:ByteArray):(mk2 a b).size=16:=by
 rw[mk2,txt_size,Cof.mark,List.length_take,sha_len]
 omega
theorem two_len(a b:ByteArray)(ha:a.size<=1000)(hb:b.size<=1000):(markText 117 ([a,b].map bs)).length<=100000:=by
 simp[markText,be64,be64To_len,bs_len]
 omega
theorem mk2_eq(a b:ByteArray):txt (Cof.mark 117 ([a,b].map bs))=mk2 a b:=rfl
def upL(l:List ByteArray):List ByteArray:=(List.range (l.length/2)).map λj=>mk2 (l.getD (2*j) ⟨#[]⟩) (l.getD (2*j+1) ⟨#[]⟩)
theorem upL_len(l:List ByteArray):(upL l).length=l.length/2:=by simp[upL]
theorem upL_all(l:List ByteArray):∀s∈upL l,s.size=16:=by
 intro s hs
 obtain⟨j,_,rfl⟩:=List.mem_map.1 hs
 exact mk2_size _ _
def ups:Nat->List ByteArray->List ByteArray
 | 0,l=>l
 | i+1,l=>upL (ups i l)
theorem ups_len(l:List ByteArray)(i:Nat):(ups i l).length=l.length/2^i:=by
 induction i with
 | zero=>simp[ups]
 | succ i ih=>rw[ups,upL_len,ih,Nat.div_div_eq_div_mul,Nat.pow_succ]
theorem ups_all(l:List ByteArray)(h:∀s∈l,s.size=16)(i:Nat):∀s∈ups i l,s.size=16:=by
 cases i with
 | zero=>exact h
 | succ i=>exact upL_all _
def rightB(l:List ByteArray)(n:Nat):Bool:=decide (l.length=n)&&l.all λs=>decide (s.size=16)
theorem rightB_true{l:List ByteArray}{n:Nat} :rightB l n=true↔l.length=n∧∀s∈l,s.size=16:=by simp[rightB]
def rootV(l:List ByteArray):ByteArray:=if rightB l 32 then(ups 5 l).getD 0 ⟨#[]⟩else⟨#[]⟩
def rootE(l:List ByteArray):Int:=if rightB l 32 then 0 else 1
theorem strCells_append(a b:List ByteArray):strCells (a++b)=strCells a++strCells b:=by simp[strCells]
section
variable {P:Program}{w:World}
end
end Go.Cof
namespace Go.Cof
open Go.RowKit
def nilL:Value:= .slice none 0 0
def ListsB(v:Value)(vs:List Value)(L:List (List ByteArray))(b:Nat):Prop:=v.ownBlock=some b∨∃i,i<L.length∧(vs.getD i nilL).ownBlock=some b
end Go.Cof
namespace Go.Proofs.YtnmhgehpddipdaaGreatDoor
open Go.RowKit Go.Cof
set_option maxRecDepth 100000
end Go.Proofs.YtnmhgehpddipdaaGreatDoor
namespace Go.Cof
open Go.RowKit Go.Proofs.YtnmhgehpddipdaaGreatDoor
structure Rows2(w:World)(base:Nat)(E:TypeId)(v:Value)(vs:List Value)(L:List (List ByteArray)):Prop where
 own:OwnsN w base E 1 v L.length vs
 strs:∀i,i<L.length->Strs w (vs.getD i nilL) (L.getD i [])
 lt:∀i b,i<L.length->(vs.getD i nilL).ownBlock=some b->base<=b∧b<w.heap.size∧v.ownBlock≠some b
section
variable {w w':World}{base:Nat}{E:TypeId}{v:Value}{vs:List Value}{L:List (List ByteArray)}
end
end Go.Cof
