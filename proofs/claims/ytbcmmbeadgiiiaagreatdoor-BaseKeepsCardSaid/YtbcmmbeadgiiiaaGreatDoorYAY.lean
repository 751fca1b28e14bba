import Derived.Test.YtbcmmbeadgiiiaaGreatDoorYAF
import Derived.Test.YtbcmmbeadgiiiaaGreatDoorYAM
import Derived.Test.YtbcmmbeadgiiiaaGreatDoorYAW
import Derived.Test.YtbcmmbeadgiiiaaGreatDoorYAX
set_option linter.all false
namespace Go.Proofs.YtbcmmbeadgiiiaaGreatDoor
open Go.RowKit Tryz
set_option maxRecDepth 100000
set_option maxHeartbeats 16000000
variable{st st0:DK}{rf:Int}{W:List (Nat×af)}{l:List (af×af)}{sn:List Int}{B C D EB I K MB X k:Nat}{S:Nat->Prop}{p:Nat×af}{mo:Option Nat}{key:af}{w:ax}{v wv:ay}{V:qI}{x:uX}{d:vN}
def zbb(s:af)(w:ax):ae 81 #[.string s] w λe w'=>e= .returned (.bool (decide (s.size=16)))∧w'=w:=by go_enter func81,ntmps81;go_wp2;go_ret;refine⟨dB (λb=>Ending.returned (.bool b)) ?_,rfl⟩;rw[iQ];simp;omega
def zdu(v:ay)(l:List af)(w:ax)(T:Strs w v l)(hl:l.length<=1000000)(m:Nat)(hm:m<=1000):
  ae 124 #[v,.int .i64 m] w λe w'=>e= .returned (.bool (Jr l m))∧w'=w:=by
 obtain⟨a,c,rfl⟩:=T.len;obtain⟨n,hn⟩:=aj l.length;rw[<-hn]at T hl⊢;have Hn:=ag hn;clear hn;go_enter func124,ntmps124;go_wp2_with fail
 go_loopw [9] (λi wr=>∃k:Nat,k<=n∧i= .int .i64 k∧(∀j,j<k->(l.getD j ⟨#[]⟩).size=16)∧wr=w) (λi _=>n-(intOf i).toNat)
 case atStart=>exact⟨0,by omega,rfl,λj hj=>by omega,rfl⟩
 case round=>
  obtain⟨k,hk,rfl,G7,rfl⟩:=hrel;by_cases rE:k<n
  ·have j1:(k:Int)<n:=by omega
   obtain⟨b,o,rfl,-,_,hc⟩:=T.at (by have:=Hn.o;omega);have hx:=hc k (by have:=Hn.o;omega);clear hc;obtain⟨s,hs⟩:=aj (l.getD k ⟨#[]⟩);rw[<-hs]at hx;have Hs:=ag hs;clear hs;by_cases uF:s.size=16
   ·have NZ:∀j,j<k+1->(l.getD j ⟨#[]⟩).size=16:=by
     intro j hj;rcases Nat.lt_succ_iff_lt_or_eq.1 hj with h|rfl
     ·exact G7 j h
     ·rw[<-Hs.o];exact uF
    go_wp2_with (go_at_call 81;refine(zbb s _).m ?_;rw[bF uF];rintro e w2 ⟨rfl,rfl⟩);exact⟨⟨k+1,by omega,by go_num,NZ,trivial⟩,by simp[intOf];omega⟩
   go_wp2_with (go_at_call 81;refine(zbb s _).m ?_;rw[cO uF];rintro e w2 ⟨rfl,rfl⟩);go_ret;refine⟨dB (λb=>Ending.returned (.bool b)) ?_,rfl⟩
   symm
   rw[Bool.eq_false_iff];intro h;apply uF;rw[Hs.o,aG,aK (by have:=Hn.o;omega)];exact(y8.1 h).2 _ (fO _)
  obtain rfl:k=n:=by omega
  have vz:∀s∈l,s.size=16:=by
   intro s hs;obtain⟨j,hj,rfl⟩:=iG hs;have:=G7 j (by have:=Hn.o;omega)
   rwa [aG,aK hj]at this
  have hb:Jr l m=decide ((k:Int)=m):=by rw[iQ,y8,<-Hn.o];simp only[aW];exact⟨λh=>by omega,λh=>⟨by omega,vz⟩⟩
  have Hb:=ag hb;clear G7 vz hb;go_wp2_with fail;go_ret;refine⟨dB (λb=>Ending.returned (.bool b)) ?_,rfl⟩;rw[Hb.o,iQ];simp
def zpo(RB:Nat)(v:ay)(l:List af)(w:ax)(RR:D7 w RB)(T:Strs w v l)(hl:l.length=32)(vz:∀s∈l,s.size=16):
  ae 125 #[.pointer (some ⟨RB,0,none⟩),v] w λe w'=>∃v',e= .returned v'∧Strs w' v' (yO l 31)∧ak w w':=by
 obtain⟨a,c,rfl⟩:=T.len;obtain⟨i0,zM,Ba,D9,D6⟩:=iC BP;have zeh:=ag vz;rw[hl]at T⊢;have Hl:=ag hl;have T0:=T.qm ((ah qw w).alloc (.cells #[] 9)) (λ_ _ x=>x);have H32:=ag (show 32=0+l.length by rw[Hl.o]);clear hl vz;go_enter func125,ntmps125;go_wp2_with (refine YH rfl (.tmp 7) (.tmp 8) 88 rfl w.heap.size 9 i0 gu zM Ba D9 D6 w.heap.size 0 0 [] l rfl (qF.lit w w.heap.size 9 1 #[] 0 (aS _) (fP _) rfl) _ rfl T0 32 H32.o (by omega) (by simp) ?_;intro g2 QT w2 Vs MJ Si);have K2:ak w w2:=((ah qw w).alloc (.cells #[] 9)).t MJ (λi hi hx=>absurd (show i=w.heap.size from hx) (by omega));rw[fZ]at Vs;clear MJ Si T0 H32
 go_loopw [5,6] (λv i wr=>∃t:Nat,t<=31∧i= .int .i64 (2*t:Nat)∧qF wr w.heap.size 9 1 v (32+t) (strCells (yO l t))∧ak w wr) (λ_ i _=>62-(intOf i).toNat)
 case atStart=>exact⟨0,by omega,rfl,Vs,K2⟩
 case round=>
  clear Vs K2 w2;obtain⟨t,ht,rfl,own,K⟩:=hrel;have hlen:(yO l t).length=32+t:=by rw[KO,Hl.o]
  obtain⟨g,cap,rfl,hgw,Ci⟩:=own.some (by omega);by_cases h31:t<31
  ·obtain⟨_,_,hv,hgl,hc,_⟩:=own.at (by omega);cases hv;obtain⟨x0,hx0⟩:=aj ((yO l t).getD (2*t) ⟨#[]⟩);obtain⟨x1,Qd⟩:=aj ((yO l t).getD (2*t+1) ⟨#[]⟩);have c0:=hc (2*t) (.string x0) (by rw[hx0,strCells,aX,aG,aK (by omega)];rfl);have c1:=hc (2*t+1) (.string x1) (by rw[Qd,strCells,aX,aG,aK (by omega)];rfl);have a16:∀i,i<32+t->((yO l t).getD i ⟨#[]⟩).size=16:=λi hi=>by
    rw[aG,aK (by omega)];exact zmh l zeh.o t _ (fO _)
   have Vg:x0.size=16:=by rw[hx0];exact a16 _ (by omega)
   have Ro:x1.size=16:=by rw[Qd];exact a16 _ (by omega)
   have NZ:yO l t++ [mk2 x0 x1]=yO l (t+1):=by rw[hx0,Qd];rfl
   have hml:=zkA x0 x1 (by omega) (by omega);obtain⟨N,hN⟩:=aj (32+t);obtain⟨i,hi⟩:=aj (2*t);rw[<-hN]at own⊢;rw[<-hi]at c0 c1⊢;have zgl:=ag NZ;have HN:=ag hN;have Hi:=ag hi;have hiN:(i:Int)+1<N:=by omega
   have hiN0:(i:Int)<N:=by omega
   have hN63:(N:Int)<63:=by omega
   clear hx0 Qd hc a16 NZ hN hi hlen;have wr1:IntKind.i64.wrap ((i:Int)+1)=(i:Int)+1:=aY _ (by omega);have t1:((i:Int)+1).toNat=i+1:=by omega
   have p1:(0:Int)<=(i:Int)+1:=by omega
   go_wp2_with fail;refine yG 11 [0,1,2,3,4,6,7,8,9] (by kernel_rfl) (by kernel_rfl) (λc a d v w h=>by cases d<;>exact h) ?_;rw[show H8 11 [0,1,2,3,4,6,7,8,9]= [5,10]from rfl];simp only[qC,aF,aH,aI,dA,dF]
   repeat(refine xy (λK hK=> ?_);go_simp;refine hK _ ?_;clear hK K)
   refine yf ?_
   repeat(quiet_step (fail))
   refine dP ?_;intro nq;have hS:=λw2:ax=>Strs.lit (w:=w2) (E:=9) [x0,x1];have HS:=ag hS;have Hm:=ag hml;clear hS hml;go_wp2_with (first
    | (go_at_call 117;refine(y9 RB 117 (by omega) _ [x0,x1] _ (RR.qm ((K.drewN nq).alloc _) (λx=>x)) (HS.o _) Hm.o (by simp)).m ?_;rw[zi4];rintro e w4 ⟨rfl,K4'⟩;have K4:ak wr w4:=(((ah qw wr).drewN nq).alloc _).qo K4')
    | (refine rY _ rfl (.tmp 22) (.tmp 35) 88 rfl w.heap.size 9 i0 (.string ⟨#[]⟩) 1 16 gu zM Ba D9 D6 rfl (by decide) _ N (strCells (yO l t)) rfl ((own.qm K4 (λ_ _ x=>x)).alloc _) ⟨w4.heap.size,0,none⟩ 1 1 [.string (mk2 x0 x1)] rfl rfl (rJ _ _ _) (by intro u hu;obtain rfl:=bJ.1 hu;rfl) (by unfold maxLen;omega) (by omega) (by have:=K.size;have:=K4.size;simp;omega) ?_;intro v5 w5 xq zH zG))
   have EH:qF w5 w.heap.size 9 1 v5 (32+(t+1)) (strCells (yO l (t+1))):=by rw[<-zgl.o,AB,<-kT,<-HN.o];exact xq
   have K5:ak w w5:=((K.qo K4).alloc _).grown zH (λk hk=> .inr (by obtain rfl:g=k:=aU hk;exact hgw));clear xq zG zH;go_wp2_with fail;exact⟨⟨t+1,by omega,by have:=Hi.o;go_num,EH,K5⟩,by have:=Hi.o;simp[intOf];omega⟩
  obtain rfl:t=31:=by omega
  go_wp2_with fail;go_ret;exact⟨_,rfl,J6 (by rw[hlen];exact own),K⟩
def XP(RB:Nat)(v:ay)(l:List af)(w:ax)(RR:D7 w RB)(T:Strs w v l)(hl:l.length<=1000000):
  ae 66 #[.pointer (some ⟨RB,0,none⟩),v] w λe w'=>e= .returned (.tuple #[.string (vS l),.int .i64 (NW l)])∧ak w w':=by
 by_cases hr:Jr l 32=true
 ·obtain⟨h32,vz⟩:=y8.1 hr;have TR:=zpo RB v l w RR T h32 vz;have EU:=zdu v l w T hl 32 (by omega);rw[hr]at EU;rw[vS,NW,bu hr,bu hr];have NU:=zrv l h32 5 (by omega) 0 (by decide);rw[<-NU];have hlen:(yO l 31).length=63:=by rw[KO,h32]
  have yM:=ag hlen;clear NU vz h32 hlen hr RR;go_enter func66,ntmps66;go_wp2_with (first|(go_at_call 124;refine EU.m ?_;rintro e w2 ⟨rfl,rfl⟩)|(go_at_call 125;refine TR.m ?_;rintro e w3 ⟨v3,rfl,T3,K3⟩;obtain⟨p3,c3,rfl⟩:=T3.len;obtain⟨b3,o3,rfl,-,_,hc3⟩:=T3.at (by rw[yM.o];omega);have h62:=hc3 62 (by rw[yM.o];omega);have yh:(62:Int)<((yO l 31).length:Nat):=by rw[yM.o];decide));exact eF (v:= .tuple #[.string ((yO l 31).getD 62 ⟨#[]⟩),.int .i64 0]) (by simp[results,results66,go_sem]) rfl ⟨rfl,K3⟩
 ·have EU:=zdu v l w T hl 32 (by omega);rw[Bool.eq_false_iff.2 hr]at EU;rw[vS,NW,aV hr,aV hr];clear hr RR;go_enter func66,ntmps66;go_wp2_with (go_at_call 124;refine EU.m ?_;rintro e w2 ⟨rfl,rfl⟩);exact eF (v:= .tuple #[.string ⟨#[]⟩,.int .i64 1]) (by simp[results,results66,go_sem]) rfl ⟨rfl,ah _ _⟩
def zjx(s:af)(w:ax):ae 276 #[.string s] w λe w'=>e= .returned (.bool (decide (s.size≠16)))∧w'=w:=by go_enter func276,ntmps276;go_wp2;go_ret;refine⟨dB (λb=>Ending.returned (.bool b)) ?_,rfl⟩;rw[iQ];simp;omega
def zml(v:ay)(l:List af)(w:ax)(T:Strs w v l)(hl:l.length<=1000000)(m:Nat)(hm:m<=1000):
  ae 221 #[v,.int .i64 m] w λe w'=>e= .returned (.bool (Jr l m))∧w'=w:=by
 have hc:=W9 276 _ zjx (enters_of func276 (by kernel_rfl) rfl) v l w T hl;have hr:Jr l m=(decide (l.length=m)&& !l.any λs=>decide (s.size≠16)):=by rw[iQ,y8];simp
 rw[hr];generalize (l.any λs=>decide (s.size≠16))=b at hc⊢;obtain⟨p,c,rfl⟩:=T.len;by_cases hlm:l.length=m
 ·rw[bF hlm,jG];have j1:((l.length:Nat):Int)=m:=by omega
  subst hlm;clear hr T;go_enter func221,ntmps221;go_wp2_with (go_at_call 275;refine hc.m ?_;rintro e w2 ⟨rfl,Gp⟩;subst w2);go_ret
  first|exact⟨rfl,rfl⟩|exact⟨dB (λb=>Ending.returned (.bool b)) (by simp),rfl⟩
 ·rw[cO hlm,iH];have j1:¬((l.length:Nat):Int)=m:=by omega
  clear hr T hc;go_enter func221,ntmps221;go_wp2_with fail;go_ret;exact⟨rfl,rfl⟩
def UE(p:Option Addr)(len cap:Nat)(l:List af)(w:ax)(V:rF w)(T:Strs w (.slice p len cap) l)(Ci:len<=cap)(hl:l.length<=1000000):
  ae 157 #[.slice p len cap] w λe w'=>e= .returned (.tuple #[.string (vS l),qY (NW l)])∧ak w w':=by
 have EU:=zml _ l w T hl 32 (by omega);by_cases hr:Jr l 32=true
 ·obtain⟨h32,vz⟩:=y8.1 hr;rw[hr]at EU;rw[vS,NW,bu hr,bu hr];have hlen:len=32:=by
   obtain⟨p',c',hv⟩:=T.len;cases hv;exact h32
  subst hlen;have zeh:=ag vz;have Hl:=ag h32;clear hr vz h32 hl;go_enter func157,ntmps157;go_wp2_with (go_at_call 221;refine EU.m ?_;rintro e w2 ⟨rfl,Gp⟩;subst w2);clear EU
  go_loopw [0] (λv wr=>∃(i n:Nat) (q:Option Addr) (c:Nat),i<=5∧n=2^(5-i)∧n<=c∧v= .slice q n c∧Strs wr v (ups i l)∧ak w wr) (λv _=>match v with| .slice _ n _=>n|_=>0)
  case atStart=>exact⟨0,32,p,cap,by omega,by decide,Ci,rfl,T,ah _ _⟩
  case round=>
   obtain⟨i,n,q,c,hi,hn,hnc,rfl,T2,K⟩:=hrel;have hul:(ups i l).length=n:=by obtain⟨p',c',hv⟩:=T2.len;cases hv;rfl
   by_cases h5:i<5
   ·obtain⟨m,hm⟩:=aj (2^(5-(i+1)));have F8:n=2*m:=by rw[hn,hm,show 5-i=(5-(i+1))+1 by omega,mF,jA]
    have zlg:0<m:=by rw[hm];exact Nat.pow_pos (by omega)
    have hn32:n<=32:=by
     rw[hn]
     have:i=0∨i=1∨i=2∨i=3∨i=4:=by omega
     rcases this with rfl|rfl|rfl|rfl|rfl<;>decide
    have hup:=zuF q n c (ups i l) wr (V.qm K (λx=>x)) T2 hnc m zlg (by rw[hul];exact F8) (by rw[hul];omega) (zq4 l zeh.o i);have j1:(1:Int)<n:=by omega
    have Hm:=ag hm;have Hnm:=ag F8;clear hm F8 hn hul;go_wp2_with (go_at_call 222;refine hup.m ?_;rintro e w3 ⟨g3,c3,rfl,hc3,hg3,T3,K3⟩);exact⟨⟨i+1,m,_,c3,by omega,Hm.o,hc3,rfl,T3,K.qo K3⟩,by have:=Hnm.o;show m<n;omega⟩
   obtain rfl:i=5:=by omega
   obtain rfl:n=1:=by simpa using hn
   obtain⟨b2,o2,rfl,-,_,Oo⟩:=T2.at (by omega);have h0:=Oo 0 (by omega);rw[iY]at h0;obtain⟨x,hx⟩:=aj ((ups 5 l).getD 0 ⟨#[]⟩);rw[<-hx]at h0;have Hx:=ag hx;clear Oo hul hn hx;go_wp2_with fail;rw[<-Hx.o];exact eF (v:= .tuple #[.string x,.nilIface]) (by simp[results,results157,go_sem]) rfl ⟨rfl,K⟩
 ·rw[Bool.eq_false_iff.2 hr]at EU;rw[vS,NW,aV hr,aV hr];clear hr T V Ci hl;go_enter func157,ntmps157;go_wp2_with (go_at_call 221;refine EU.m ?_;rintro e w2 ⟨rfl,Gp⟩;subst w2);exact eF (v:= .tuple #[.string ⟨#[]⟩,qY 1]) (by simp[results,results157,go_sem,qY]) rfl ⟨rfl,ah _ _⟩
def Qv{α:Type}(A B C:List α)(n i:Nat)(hA:A.length=n)(h:i<B.length):(A++B++C)[n+i]? =B[i]? :=by
 rw[bC,bT (by omega),dL (by omega)]
 congr 1
 omega
def zkE{α:Type}(A B C:List α)(n i:Nat)(v:α)(hA:A.length=n)(h:i<B.length):(A++B++C).set (n+i) v=A++B.set i v++C:=by
 rw[bC,iE _ _ (by omega),List.set_append_left _ _ (by omega),bC]
 congr 3
 omega
def qM(D C:Nat)(V:qI):List ay:= [Value.pointer (some ⟨D,0,none⟩),.pointer (some ⟨C,0,none⟩),.string V.secret]++qG V.now++V.texts.map Value.string++V.marks.map Value.string++ [Value.bool V.dead]
structure tq(V:qI):Prop where
 qx:V.now.qx.length=32
 texts:V.texts.length=32
 marks:V.marks.length=32
section
variable {D C:Nat}{V:qI}
def rW(h:x.qx.length=32):(qG x).length=35:=uk x h
def IA(h:tq V):(qM D C V).length=103:=by simp only[qM,aN,aP,rW h.qx,h.texts,h.marks,bf,cZ]
def zlK(h:tq V)(i:Nat)(hi:i<35):(qM D C V)[3+i]? =(qG V.now)[i]? :=by rw[qM,bC,bC,Qv _ _ _ 3 i rfl (by rw[rW h.qx];exact hi)]
def zaG(h:tq V)(i:Nat)(hi:i<32):(qM D C V)[38+i]? =some (.string (V.texts.getD i ⟨#[]⟩)):=by rw[qM,bC,Qv _ _ _ 38 i (by simp only[aN,rW h.qx,bf,cZ]) (by rw[aP,h.texts];exact hi),aX,aK (by rw[h.texts];exact hi)];simp[aG,h.texts,hi]
def zaH(h:tq V)(i:Nat)(hi:i<32):(qM D C V)[70+i]? =some (.string (V.marks.getD i ⟨#[]⟩)):=by rw[qM,Qv _ _ _ 70 i (by simp only[aN,aP,rW h.qx,h.texts,bf,cZ]) (by rw[aP,h.marks];exact hi),aX,aK (by rw[h.marks];exact hi)];simp[aG,h.marks,hi]
def zjc(h:tq V):(qM D C V)[102]? =some (.bool V.dead):=by rw[qM,bT (by simp only[aN,aP,rW h.qx,h.texts,h.marks,bf,cZ];omega)];simp only[aN,aP,rW h.qx,h.texts,h.marks,bf,cZ];rfl
def Ag(V:qI)(i:Nat)(s:af):qI:= { V with texts:=V.texts.set i s }
def Bi(V:qI)(i:Nat)(s:af):qI:= { V with marks:=V.marks.set i s }
def zh(V:qI)(x:uX):qI:= { V with now:=x }
def FT(V:qI)(l:List af):qI:= { V with marks:=l }
def tq.text(h:tq V)(i:Nat)(s:af):tq (Ag V i s):=⟨h.qx,by simp[Ag,h.texts],h.marks⟩
def tq.mark(h:tq V)(i:Nat)(s:af):tq (Bi V i s):=⟨h.qx,h.texts,by simp[Bi,h.marks]⟩
def tq.now(h:tq V)(hx:x.qx.length=32):tq (zh V x):=⟨hx,h.texts,h.marks⟩
def tq.allMarks(h:tq V){l:List af}(hl:l.length=32):tq (FT V l):=⟨h.qx,h.texts,hl⟩
def tq.die(h:tq V):tq (VC V):=⟨h.qx,h.texts,h.marks⟩
def zci(h:tq V)(i:Nat)(hi:i<32)(s:af):(qM D C V).set (38+i) (.string s)=qM D C (Ag V i s):=by rw[qM,bC,zkE _ _ _ 38 i _ (by simp only[aN,rW h.qx,bf,cZ]) (by rw[aP,h.texts];exact hi),<-kR,<-bC];rfl
def zcj(h:tq V)(i:Nat)(hi:i<32)(s:af):(qM D C V).set (70+i) (.string s)=qM D C (Bi V i s):=by rw[qM,zkE _ _ _ 70 i _ (by simp only[aN,aP,rW h.qx,h.texts,bf,cZ]) (by rw[aP,h.marks];exact hi),<-kR];rfl
def zck(h:tq V):(qM D C V).set 102 (.bool true)=qM D C (VC V):=by rw[qM,iE _ _ (by simp only[aN,aP,rW h.qx,h.texts,h.marks,bf,cZ];omega)];simp only[aN,aP,rW h.qx,h.texts,h.marks,bf,cZ];rfl
def zeM(h:tq V)(hx:x.qx.length=32):vU (qM D C V).toArray 3 (qG x).toArray=(qM D C (zh V x)).toArray:=by
 rw[vU,bZ,rW hx]
 congr 1
 show List.take 3 (qM D C V)++qG x++List.drop 38 (qM D C V)=_;have e:qM D C V=([Value.pointer (some ⟨D,0,none⟩),.pointer (some ⟨C,0,none⟩),.string V.secret]++qG V.now)++(V.texts.map Value.string++V.marks.map Value.string++ [Value.bool V.dead]):=by simp only[qM,bC]
 have hd:List.drop 38 (qM D C V)=V.texts.map Value.string++V.marks.map Value.string++ [Value.bool V.dead]:=by rw[e];exact jl (by simp only[aN,rW h.qx,bf,cZ])
 have ht:List.take 3 (qM D C V)= [Value.pointer (some ⟨D,0,none⟩),.pointer (some ⟨C,0,none⟩),.string V.secret]:=rfl;rw[hd,ht];simp only[qM,zh,bC]
def zbA(h:tq V){l:List af}(hl:l.length=32):vU (qM D C V).toArray 70 (l.map Value.string).toArray=(qM D C (FT V l)).toArray:=by
 rw[vU,bZ,aP,hl]
 congr 1
 show List.take 70 (qM D C V)++l.map Value.string++List.drop 102 (qM D C V)=_;have e:qM D C V=([Value.pointer (some ⟨D,0,none⟩),.pointer (some ⟨C,0,none⟩),.string V.secret]++qG V.now++V.texts.map Value.string++V.marks.map Value.string)++ [Value.bool V.dead]:=by simp only[qM,bC]
 have e2:qM D C V=([Value.pointer (some ⟨D,0,none⟩),.pointer (some ⟨C,0,none⟩),.string V.secret]++qG V.now++V.texts.map Value.string)++(V.marks.map Value.string++ [Value.bool V.dead]):=by simp only[qM,bC]
 have hd:List.drop 102 (qM D C V)= [Value.bool V.dead]:=by rw[e];exact jl (by simp only[aN,aP,rW h.qx,h.texts,h.marks,bf,cZ])
 have ht:List.take 70 (qM D C V)= [Value.pointer (some ⟨D,0,none⟩),.pointer (some ⟨C,0,none⟩),.string V.secret]++qG V.now++V.texts.map Value.string:=by rw[e2];exact gZ (by simp only[aN,aP,rW h.qx,h.texts,bf,cZ])
 rw[hd,ht];simp only[qM,FT,bC]
def Ub(l:List af):(l.map Value.string).toArray.all (·.oneCell')=true:=by rw[lU];intro v hv;obtain⟨s,_,rfl⟩:=bY.1 (by simpa using hv);rfl
end
structure qU(w:ax)(B D C:Nat)(V:qI):Prop where
 row:w.heap[B]? =some (.cells (qM D C V).toArray 164 (0,0))
 lens:tq V
section
variable {w w':ax}{B D C:Nat}{V:qI}
def qU.lt(h:qU w B D C V):B<w.heap.size:=lt_of_heap h.row
def qU.qm(h:qU w B D C V)(hk:Keep S w w')(hn:¬S B):qU w' B D C V:=⟨hk.heap h.row hn,h.lens⟩
def qU.cell(h:qU w B D C V)(i:Nat)(hv:(qM D C V)[i]? =some v):w.cell? ⟨B,i,none⟩=some v:=by rw[aO _ _ i _ _ (0,0) h.row];simpa using hv
def qU.dev(h:qU w B D C V):w.cell? ⟨B,0,none⟩=some (.pointer (some ⟨D,0,none⟩)):=h.cell 0 rfl
def qU.Ea(h:qU w B D C V):w.cell? ⟨B,1,none⟩=some (.pointer (some ⟨C,0,none⟩)):=h.cell 1 rfl
def qU.secret(h:qU w B D C V):w.cell? ⟨B,2,none⟩=some (.string V.secret):=h.cell 2 rfl
def qU.count(h:qU w B D C V):w.cell? ⟨B,3,none⟩=some (.int .i64 V.now.count):=h.cell 3 rfl
def qU.qB(h:qU w B D C V):w.cell? ⟨B,4,none⟩=some (.int .i64 V.now.qB):=h.cell 4 rfl
def qU.text(h:qU w B D C V)(i:Nat)(hi:i<32):w.cell? ⟨B,38+i,none⟩=some (.string (V.texts.getD i ⟨#[]⟩)):=h.cell _ (zaG h.lens i hi)
def qU.mark(h:qU w B D C V)(i:Nat)(hi:i<32):w.cell? ⟨B,70+i,none⟩=some (.string (V.marks.getD i ⟨#[]⟩)):=h.cell _ (zaH h.lens i hi)
def qU.dead(h:qU w B D C V):w.cell? ⟨B,102,none⟩=some (.bool V.dead):=h.cell _ (zjc h.lens)
def qU.free(h:qU w B D C V)(i:Nat):w.frozen? ⟨B,i,none⟩=false:=bU h.row i
theorem qU.Ag(h:qU w B D C V)(i:Nat)(hi:i<32)(s:af):qU (w.setCell ⟨B,38+i,none⟩ (.string s)) B D C (Ag V i s):=by refine⟨?_,h.lens.text i s⟩;rw[qK h.row,fJ,zci h.lens i hi]
theorem qU.Bi(h:qU w B D C V)(i:Nat)(hi:i<32)(s:af):qU (w.setCell ⟨B,70+i,none⟩ (.string s)) B D C (Bi V i s):=by refine⟨?_,h.lens.mark i s⟩;rw[qK h.row,fJ,zcj h.lens i hi]
def qU.zrr(h:qU w B D C V):qU (w.setCell ⟨B,102,none⟩ (.bool true)) B D C (VC V):=by refine⟨?_,h.lens.die⟩;rw[qK h.row,fJ,zck h.lens]
theorem qU.zh(h:qU w B D C V)(hx:x.qx.length=32):qU (w.setRow B (vU (qM D C V).toArray 3 (qG x).toArray)) B D C (zh V x):=by refine⟨?_,h.lens.now hx⟩;rw[qO h.row,zeM h.lens hx]
theorem qU.FT(h:qU w B D C V){l:List af}(hl:l.length=32):qU (w.setRow B (vU (qM D C V).toArray 70 (l.map Value.string).toArray)) B D C (FT V l):=by refine⟨?_,h.lens.allMarks hl⟩;rw[qO h.row,zbA h.lens hl]
end
def zkU(secret:af)(qB:Int)(hs:secret.size<=1000)(w:ax)(V:rF w):
  ae 153 #[.string secret,.int .i64 qB] w λe w'=>e= .returned (.string (CQ secret qB))∧ak w w':=by
 obtain⟨A,hA⟩:=aj (uu (sS (vG qB)));have bA:bs A=sS (vG qB):=by rw[hA,rM (uj _)]
 have hl:(rG 107 ([secret,A].map bs)).length<=100000:=by simp only[bH,dh,bA,rG,dY,iw,aN,bf,cZ,xU,ry];omega
 obtain⟨M,hM⟩:=aj (uu (mark 107 [bs secret,sS (vG qB)]));have bM:bs M=mark 107 [bs secret,sS (vG qB)]:=by rw[hM,rM (uN _ _)]
 have hr:uu (mark 107 ([secret,A].map bs))=M:=by rw[hM];simp only[bH,dh,bA]
 have hk:uu (sha (bs M))=CQ secret qB:=by rw[bM];rfl
 have hMs:M.size<=100000:=by rw[hM,rH,Dh];omega
 have HA:=ag hA;have Hr:=ag hr;have Hk:=ag hk;have Hl:=ag hl;clear hA hM bA bM hr hl hk;go_enter func153,ntmps153;go_wp2_with fail;refine(I5 qB _).m ?_;rw[<-HA.o];rintro e w1 ⟨rfl,K1⟩;go_wp2_with fail;refine(Ep 107 (by decide) _ [secret,A] _ (V.qm (K1.alloc _) (λx=>x)) (Strs.lit (w:=w1) [secret,A]) Hl.o (by simp)).m ?_;rw[Hr.o];rintro e w3 ⟨rfl,K3⟩;have K3':=(K1.alloc (.cells #[.string secret,.string A] 9)).qo K3;go_wp2_with fail;refine(Y3 M hMs _ (V.qm K3' (λx=>x))).m ?_;rw[Hk.o];rintro e w4 ⟨rfl,K4⟩;go_wp2_with fail;go_ret;exact⟨rfl,K3'.qo K4⟩
def P5(i:Nat)(side:Bool)(hi:i<32)(w:ax):
  ae 154 #[.int .i64 i,.bool side] w λe w'=>e= .returned (.int .i64 ((vI i side:Nat):Int))∧w'=w:=by
 have e1:((vI i side:Nat):Int)=if side then 3+2*(i:Int)else 2+2*(i:Int):=by cases side<;>simp[vI]<;>omega
 rw[e1];clear e1;cases side with
 | true=>
  go_enter func154,ntmps154;go_wp2_with fail;go_ret;exact⟨rfl,rfl⟩
 | false=>
  go_enter func154,ntmps154;go_wp2_with fail;go_ret;exact⟨rfl,rfl⟩
def zeN(h:qU w B D C V)(i:Nat)(hi:i<32):
  ae 41 #[.pointer (some ⟨B,0,none⟩),.int .i64 i] w λe w'=>e= .returned (.tuple #[.string (V.texts.getD i ⟨#[]⟩),.nilIface])∧w'=w:=by
 have c:=h.text i hi;have rE:=h.lt;have e0:decide ((i:Int)<0)=false:=by simp
 have e1:decide ((32:Int)<=i)=false:=by simp;omega
 have e2:(i:Int)<32:=by omega
 obtain⟨T,hT⟩:=aj (V.texts.getD i ⟨#[]⟩);rw[<-hT]at c⊢;clear hT h;go_enter func41,ntmps41;go_wp2_with fail
 go_ret2
 exact⟨rfl,rfl⟩
def zbC(h:qU w B D C V):
  ae 70 #[.pointer (some ⟨B,0,none⟩)] w λe w'=>e= .returned (.int .i64 V.now.count)∧w'=w:=by
 have c:=h.count;have rE:=h.lt;obtain⟨T,hT⟩:=aj V.now.count;rw[<-hT]at c⊢;clear hT h;go_enter func70,ntmps70;go_wp2_with fail;go_ret;exact⟨rfl,rfl⟩
abbrev wY(w:ax)(D S:Nat)(wv:ay)(d:vN):Prop:=vW w D S wv d.qy d.wait d.qR
def Cj(secret:af)(B:List af)(count:Int):Bool:=decide (xe (vV secret) (B.getD (count % 2).toNat ⟨#[]⟩)=0∧(vJ (vV secret) (B.getD (count % 2).toNat ⟨#[]⟩)).count=count)
def Aw(secret:af)(B:List af)(count:Int):uX:=vJ (vV secret) (B.getD (count % 2).toNat ⟨#[]⟩)
def zl7(secret:af)(B:List af)(count:Int):DC secret B count=if Cj secret B count=true then some (Aw secret B count)else none:=by
 unfold DC Cj Aw;split
 ·rename_i h;rw[bu (bF h)]
 rename_i h;rw[aV (by rw[cO h];decide)]
def P7(secret:af)(B:List af)(count:Int):(Aw secret B count).qx.length=32:=NL _ _
def PZ{S:Nat}(h:qU w B D C V)(hd:wY w D S wv d)(hb:∀i,i<66->(d.now.getD i ⟨#[]⟩).size<=1000)(hs:V.secret.size<=1000)(c:Nat)(R:rF w):
  ae 90 #[.pointer (some ⟨B,0,none⟩),.int .i64 c] w λe w'=>e= .returned (.tuple #[tH (Aw V.secret d.now c),.bool (Cj V.secret d.now c)])∧ak w w':=by
 obtain⟨q,hq⟩:=aj (c % 2);have NR:q<66:=by omega
 have hqe:((c:Int) % 2).toNat=q:=by omega
 obtain⟨s,IP⟩:=aj (d.now.getD q ⟨#[]⟩);have hss:s.size<=1000:=by rw[IP];exact hb q NR
 have hrd:=λ(W:ax) (K:ak w W)=>zkH (hd.qm K (λ_ _ x=>x)) q NR;have zv3:∀(W:ax),ak w W->ae 149 #[.pointer (some ⟨D,0,none⟩),.int .i64 q] W (au (.tuple #[.string s,.nilIface]) W):=by intro W K;rw[IP];exact hrd W K
 obtain⟨M,hM⟩:=aj (uu (mark 115 [bs V.secret]));have bM:bs M=mark 115 [bs V.secret]:=by rw[hM,rM (uN _ _)]
 have hk:uu (sha (bs M))=vV V.secret:=by rw[bM];rfl
 have hMs:M.size<=100000:=by rw[hM,rH,Dh];omega
 have hml:(rG 115 ([V.secret].map bs)).length<=100000:=by simp only[bH,dh,rG,dY,iw,aN,bf,cZ,xU,ry];omega
 have EU:uu (mark 115 ([V.secret].map bs))=M:=by rw[hM];rfl
 have hSV:Aw V.secret d.now c=vJ (vV V.secret) s:=by rw[Aw,hqe,IP]
 have hSO:Cj V.secret d.now c=decide (xe (vV V.secret) s=0∧(vJ (vV V.secret) s).count=c):=by rw[Cj,hqe,IP]
 rw[hSV,hSO];obtain⟨key,zq⟩:=aj (vV V.secret);have Tu:key.size=32:=by rw[zq];exact zaK _
 rw[<-zq]at hk⊢;obtain⟨PV,YX⟩:=aj (vJ key s);obtain⟨PE,hPE⟩:=aj (xe key s);have LP:PV.qx.length=32:=by rw[YX];exact NL _ _
 have hpa:=λ(W:ax) (K:ak w W)=>zeT key s hss W (R.qm K (λx=>x));rw[<-YX,<-hPE]at hpa⊢;have c0:=h.dev;have c2:=h.secret;have rE:=h.lt;have yh:=xP;have Qh:=Aj;have AP:=Au;obtain⟨cz,JL⟩:=aj ((qG sZ).toArray);obtain⟨cr,Xg⟩:=aj ((qG PV).toArray);have Ce:cr.size=35:=by rw[Xg,bZ,uk PV LP]
 have xu:cr.all (·.oneCell')=true:=by rw[Xg];exact sU _
 have hcc:cr[0]? =some (.int .i64 PV.count):=by rw[Xg];rfl
 have hsv:tH PV= .agg cr:=by rw[Xg];rfl
 have uF:tH sZ= .agg cz:=by rw[JL];rfl
 rw[uF]at yh;rw[<-JL]at AP;rw[hsv]at hpa⊢;have QP:(prog.info? 66).map (·.size)=some cr.size:=by rw[Ce];exact sK
 obtain⟨sec,yR⟩:=aj V.secret;rw[<-yR]at c2 hml hs EU;obtain⟨pc,hpc⟩:=aj PV.count;rw[<-hpc]at hcc⊢;have zlf:(c:Int) % 2=(q:Int):=by omega
 have EJ:=ag yh;have Gf:=ag QP;have Hrd:=ag zv3;have Hk:=ag hk;have Hml:=ag hml;have HM:=ag EU;have Hpa:=ag hpa;have HR:=ag R;clear yh QP zv3 hk hml hpa YX hPE zq bM hrd hM hSV hSO IP hqe hb hd h Xg JL Qh hsv uF LP EU yR hpc hq;go_enter func90,ntmps90;go_wp2_with (first|(refine qN rfl 66 rfl EJ.o ?_;refine qQ (λw9=>w9.heap[w.heap.size]? =some (.cells cz 66 (0,0))∧ak w w9) ⟨aQ w _,(ah qw w).alloc _⟩ ?_;rintro w9 ⟨Qj,K9⟩;have d0:=(K9.cell (p:=⟨B,0,none⟩) rE (λx=>x)).t c0;have d2:=(K9.cell (p:=⟨B,2,none⟩) rE (λx=>x)).t c2));refine(Hrd.o _ K9).m ?_;rintro e w1 ⟨rfl,K1⟩;have Tz:=K1.heap Qj (λx=>x);have K91:=K9.qo K1;have d3:=(K91.cell (p:=⟨B,2,none⟩) rE (λx=>x)).t c2;clear K1 K9 Qj d0 d2 Hrd zlf;go_wp2_with fail;have K92:=K91.alloc (.cells #[.string sec] 9);refine(Ep 115 (by decide) _ [sec] _ (HR.o.qm K92 (λx=>x)) (Strs.lit (w:=w1) [sec]) Hml.o (by simp)).m ?_;rw[HM.o];rintro e w2 ⟨rfl,K2⟩;have K93:=K92.qo K2;go_wp2_with fail;refine(Y3 M hMs _ (HR.o.qm K93 (λx=>x))).m ?_;rw[Hk.o];rintro e w3 ⟨rfl,K3⟩;have K94:=K93.qo K3;go_wp2_with fail;refine(Hpa.o _ K94).m ?_;rintro e w4 ⟨rfl,K4⟩;have K95:=K94.qo K4;have Rx:w4.heap[w.heap.size]? =some (.cells cz 66 (0,0)):=K4.heap (K3.heap (K2.heap (((ah qw w1).alloc _).heap Tz (λx=>x)) (λx=>x)) (λx=>x)) (λx=>x);clear K91 K92 K93 K94 K2 K3 K4 Hk HM Hml Hpa Tz d3;have Bc:w.heap.size≠w4.heap.size:=by have:=lt_of_heap Rx;omega
 have Hne:=ag Bc;clear Bc;by_cases hE:PE=0
 ·have he:qY PE= .nilIface:=by rw[qY,bu hE]
  rw[he];clear he;go_wp2_with (first|(refine qN rfl 66 rfl EJ.o ?_;refine qQ (λw5=>w5.heap[w4.heap.size]? =some (.cells cz 66 (0,0))∧w5.heap[w.heap.size]? =some (.cells cz 66 (0,0))∧ak w w5) ⟨aQ w4 _,((ah qw w4).alloc _).heap Rx (λx=>x),K95.alloc _⟩ ?_;rintro w5 ⟨hY5,Oz,K5⟩)|(refine qL rfl 66 (.tmp 8) (.tmp 32) rfl w4.heap.size 66 cz cr rfl rfl hY5 Gf.o 35 AP Ce xu ?_;refine qQ (λw6=>w6.heap[w4.heap.size]? =some (.cells cr 66 (0,0))∧w6.heap[w.heap.size]? =some (.cells cz 66 (0,0))∧ak w w6) ⟨qO (c':=cr) hY5,(gm _ _ _ _ Hne.o).t Oz,K5.setRow (g:=w4.heap.size) (.inr (K95.size)) cr⟩ ?_;clear hY5 Oz K5;rintro w6 ⟨YV,QX,K6⟩));have y0:∀x:wE (λw9=>w9.heap[w4.heap.size]? =some (.cells cr 66 (0,0))),x.w.cell? ⟨w4.heap.size,0,none⟩=some (.int .i64 pc):=λx=>by rw[aO _ _ _ _ _ (0,0) x.h];exact hcc
  refine BQ (λw9=>w9.heap[w4.heap.size]? =some (.cells cr 66 (0,0))) [0,1,2,3,4,5,6,7,8] [9,10] (by kernel_rfl) (by kernel_rfl) (λc a d v w h=>by cases d<;>exact h) ?_;simp only[qC,aF,aH,aI];refine rO (by rfl) 66 (.tmp 8) rfl w4.heap.size 0 rfl 66 cr (0,0) cr _ (λx=>x.h) (λj v hv=>by rw[eH];exact hv) dM rfl Gf.o ?_
  repeat(refine Dn (λK hK=> ?_);go_simp;first|(refine⟨_,λ_=>rfl,hK _ ?_⟩;clear hK K)|(refine hK _ ?_;clear hK K))
  refine tY ?_;clear y0;simp only[MF,qC,aF,aH,aI];refine⟨YV,?_⟩;go_wp2_with (refine qL rfl 66 (.tmp 4) (.tmp 34) rfl w.heap.size 66 cz cr rfl rfl (show w6.drew.heap[w.heap.size]? =_ from QX) Gf.o 35 AP Ce xu ?_;refine qQ (λw7=>w7.heap[w.heap.size]? =some (.cells cr 66 (0,0))∧w7.heap[w4.heap.size]? =some (.cells cr 66 (0,0))∧ak w w7) ⟨qO (c':=cr) (show w6.drew.heap[w.heap.size]? =_ from QX),(gm _ _ _ _ (Ne.s Hne.o)).t YV,K6.drew.setRow (g:=w.heap.size) (.inr (aS _)) cr⟩ ?_;clear YV QX K6;rintro w7 ⟨hX7,hY7,K7⟩);refine⟨hY7,?_⟩;go_wp2_with fail;refine eF (v:= .tuple #[.agg cr,.bool (pc==(c:Int))]) (tZ rfl _ w7 w.heap.size 66 cr (0,0) _ (.bool (pc==(c:Int))) rfl rfl hX7 dM rfl Gf.o) rfl ⟨?_,K7⟩;have hb:(pc==(c:Int))=decide (PE=0∧pc=(c:Int)):=by
   by_cases h:pc=(c:Int)
   ·rw[bF ⟨hE,h⟩,h];exact fF _
   rw[cO (λh2=>h h2.2)];exact eu.2 h
  rw[hb]
 ·have he:qY PE= .iface 34 (.int .i64 PE):=zbr PE hE;rw[he];clear he;go_wp2_with (first|(refine qN rfl 66 rfl EJ.o ?_;refine qQ (λw5=>w5.heap[w4.heap.size]? =some (.cells cz 66 (0,0))∧w5.heap[w.heap.size]? =some (.cells cz 66 (0,0))∧ak w w5) ⟨aQ w4 _,((ah qw w4).alloc _).heap Rx (λx=>x),K95.alloc _⟩ ?_;rintro w5 ⟨hY5,Oz,K5⟩)|(refine qL rfl 66 (.tmp 8) (.tmp 32) rfl w4.heap.size 66 cz cr rfl rfl hY5 Gf.o 35 AP Ce xu ?_;refine qQ (λw6=>w6.heap[w4.heap.size]? =some (.cells cr 66 (0,0))∧w6.heap[w.heap.size]? =some (.cells cz 66 (0,0))∧ak w w6) ⟨qO (c':=cr) hY5,(gm _ _ _ _ Hne.o).t Oz,K5.setRow (g:=w4.heap.size) (.inr (K95.size)) cr⟩ ?_;clear hY5 Oz K5;rintro w6 ⟨YV,QX,K6⟩));have y0:∀x:wE (λw9=>w9.heap[w4.heap.size]? =some (.cells cr 66 (0,0))),x.w.cell? ⟨w4.heap.size,0,none⟩=some (.int .i64 pc):=λx=>by rw[aO _ _ _ _ _ (0,0) x.h];exact hcc
  refine BQ (λw9=>w9.heap[w4.heap.size]? =some (.cells cr 66 (0,0))) [0,1,2,3,4,5,6,7,8] [9,10] (by kernel_rfl) (by kernel_rfl) (λc a d v w h=>by cases d<;>exact h) ?_;simp only[qC,aF,aH,aI];refine rO (by rfl) 66 (.tmp 8) rfl w4.heap.size 0 rfl 66 cr (0,0) cr _ (λx=>x.h) (λj v hv=>by rw[eH];exact hv) dM rfl Gf.o ?_
  repeat(refine Dn (λK hK=> ?_);go_simp;first|(refine⟨_,λ_=>rfl,hK _ ?_⟩;clear hK K)|(refine hK _ ?_;clear hK K))
  refine tY ?_;clear y0;simp only[MF,qC,aF,aH,aI];refine⟨YV,?_⟩;go_wp2_with (refine qL rfl 66 (.tmp 4) (.tmp 34) rfl w.heap.size 66 cz cr rfl rfl (show w6.drew.heap[w.heap.size]? =_ from QX) Gf.o 35 AP Ce xu ?_;refine qQ (λw7=>w7.heap[w.heap.size]? =some (.cells cr 66 (0,0))∧w7.heap[w4.heap.size]? =some (.cells cr 66 (0,0))∧ak w w7) ⟨qO (c':=cr) (show w6.drew.heap[w.heap.size]? =_ from QX),(gm _ _ _ _ (Ne.s Hne.o)).t YV,K6.drew.setRow (g:=w.heap.size) (.inr (aS _)) cr⟩ ?_;clear YV QX K6;rintro w7 ⟨hX7,hY7,K7⟩);refine⟨hY7,?_⟩;go_wp2_with fail;refine eF (v:= .tuple #[.agg cr,.bool false]) (tZ rfl _ w7 w.heap.size 66 cr (0,0) _ (.bool false) rfl rfl hX7 dM rfl Gf.o) rfl ⟨?_,K7⟩;rw[cO (λh2=>hE h2.1)]
def Uk{α:Type}(A D:List α)(k:Nat)(t:α)(hA:A.length=k)(hk:k<D.length):(A++D.drop k).set k t=A++ [t]++D.drop (k+1):=by rw[iE _ _ (by omega),hA,kz,jB hk,qf,bC];rfl
def DF(V:qI)(l:List (af×af)):qI:= { V with texts:=l.map (·.1)++V.texts.drop l.length,marks:=l.map (·.2)++V.marks.drop l.length }
def zh8(V:qI):DF V []=V:=rfl
def zh9(h:tq V)(hl:l.length<32)(p q:af×af):
  Bi (Ag (Bi (Ag (DF V l) l.length q.1) l.length q.2) l.length p.1) l.length p.2=DF V (l++ [p]):=by
 simp only[Bi,Ag,DF,List.set_set,aN,iF,dK,bH,dh];rw[Uk _ _ _ _ (by simp) (by rw[h.texts];exact hl),Uk _ _ _ _ (by simp) (by rw[h.marks];exact hl)]
def UZ(h:tq V)(hl:l.length<32)(p:af×af):
  Bi (Ag (DF V l) l.length p.1) l.length p.2=DF V (l++ [p]):=by
 simp only[Bi,Ag,DF,aN,iF,dK,bH,dh];rw[Uk _ _ _ _ (by simp) (by rw[h.texts];exact hl),Uk _ _ _ _ (by simp) (by rw[h.marks];exact hl)]
def zbd{secret:af}{B:List af}(h:BL (CQ secret x.qB) B x.qx k=none)(hk:k<32):EP secret B x=none:=by have h1:=UU h 32 hk;unfold EP;rw[h1]
def zbc{secret:af}{B:List af}(h:yI (CQ secret x.qB) B x.qx 32=some l):EP secret B x=if vS (l.map (·.2))=x.root then some (l.map (·.1),l.map (·.2))else none:=by unfold EP;rw[h]
def Ri{B:List af}{qx:List Bool} :∀(n:Nat) (l:List (af×af)),yI key B qx n=some l->∀m∈l.map (·.2),m.size=16:=by intro n l h m hm;obtain⟨p,hp,rfl⟩:=bY.1 hm;obtain⟨i,hi⟩:=iM hp;have hil:i<l.length:=(aT.1 hi).1;have hl:=PM n l h;have h2:=XW n l h i (by omega);rw[hi]at h2;exact zhX h2
def zbe(h:tq V)(hl:l.length=32):DF V l= { V with texts:=l.map (·.1),marks:=l.map (·.2) } :=by simp only[DF,hl];rw[mJ (by rw[h.texts];exact aS _),mJ (by rw[h.marks];exact aS _),dS,dS]
def zgB(s:af):(s.extract 0 8=uu (sS 0))↔(bs s).take 8=sS 0:=by
 constructor
 ·intro h;have:=dB bs h
  rwa [rQ,dF,rM (uj 0)]at this
 intro h;apply xJ;rw[rQ,dF,rM (uj 0)];exact h
def Ue{S:Nat}(h:qU w B D C V)(hd:wY w D S wv d):∀b,xN D S wv b->b≠B:=by
 rintro b hb rfl;have hty:∀ {c c':Array ay} {t t':aB} {f f':Nat×Nat},w.heap[b]? =some (.cells c t f)->w.heap[b]? =some (.cells c' t' f')->t=t':=λh h'=>by rw[h]at h';have:=aU h';simp only[nS]at this;exact this.2.1
 rcases hb with rfl|rfl|hb
 ·obtain⟨c,h2,_⟩:=hd.head;exact absurd (hty h.row h2) (by decide)
 ·obtain⟨c,h2,_⟩:=hd.row;exact absurd (hty h.row h2) (by decide)
 rcases hd.waits.2 with⟨hv,_⟩|⟨g,cap,cur,fz,hv,_,hg,_⟩
 ·rw[hv]at hb;cases hb
 rw[hv]at hb;obtain rfl:g=b:=aU hb;exact absurd (hty h.row hg) (by decide)
def zmj(h:qU w B D C V)(R:rF w):4≠B:=by intro e;have h1:=R 0 (by omega);have h2:=h.dev;rw[<-e]at h2;rw[h2]at h1;cases h1
def zay(w':ax)(B D C:Nat)(V:qI)(r:Option (List af×List af))(x:uX)(e:Ending):Prop:=match r with
 | some p=>e= .returned (.bool true)∧qU w' B D C ⟨V.secret,x,p.1,p.2,V.dead⟩
 | none=>e= .returned (.bool false)∧∃t m,qU w' B D C { V with texts:=t,marks:=m }
def Z7(B X:Nat)(sec:af)(ep:Int)(w:ax):Prop:=w.cell? ⟨B,2,none⟩=some (.string sec)∧w.cell? ⟨X,1,none⟩=some (.int .i64 ep)
def Z5(B X D k:Nat)(b:Bool)(w:ax):Prop:=w.cell? ⟨B,0,none⟩=some (.pointer (some ⟨D,0,none⟩))∧w.cell? ⟨X,2+k,none⟩=some (.bool b)
def Q8{S:Nat}(h:qU w B D C V)(hd:wY w D S wv d)(hb:∀i,i<66->(d.now.getD i ⟨#[]⟩).size=256)(hs:V.secret.size<=1000)(x:uX)(hx:x.qx.length=32)(R:rF w):
  ae 91 #[.pointer (some ⟨B,0,none⟩),tH x] w λe w'=>zay w' B D C V (EP V.secret d.now x) x e∧Keep (qJ B) w w':=by
 obtain⟨cx,Ru⟩:=aj ((qG x).toArray);have hsv:tH x= .agg cx:=by rw[Ru];rfl
 rw[hsv];have Ce:cx.size=35:=by rw[Ru,bZ,uk x hx]
 have Zp:cx[1]? =some (.int .i64 x.qB):=by rw[Ru];rfl
 have zz6:cx[34]? =some (.string x.root):=by rw[Ru,qG,aF,bT (by simp[hx]),aN,aP,hx];rfl
 have zu:∀k,k<32->cx[2+k]? =some (.bool (x.qx.getD k false)):=λk hk=>by rw[Ru];exact yg x k (by omega)
 have Bc:=Ue h hd;have hRN:=zmj h R;have zq:=λ(W:ax) (K:ak w W)=>zkU V.secret x.qB hs W (R.qm K (λx=>x));obtain⟨key,hk⟩:=aj (CQ V.secret x.qB);have Tu:key.size=32:=by rw[hk];exact QK _ _
 rw[<-hk]at zq;have c2:=h.secret;have rE:=h.lt;obtain⟨sec,yR⟩:=aj V.secret;rw[<-yR]at c2 zq;obtain⟨ep,hep⟩:=aj x.qB;rw[<-hep]at zq Zp;have ziU:=ag zq;have Hb:=ag hb;have Hcs:=ag zu;have Hk:=ag hk;have Hd:=ag hd;have HV:=ag h;have HR:=ag R;have Hne:=ag Bc;have HRN:=ag hRN;have Hcx:=ag Ru;clear zq hb zu hk hd h R Bc hRN Ru hsv yR hep hs;go_enter func91,ntmps91;go_wp2_with fail;obtain⟨X,hX⟩:=aj w.heap.size;have Vl:=aQ w (.cells cx 66);have KX:ak w (w.alloc (.cells cx 66)):=(ah _ _).alloc _;obtain⟨w1,vF⟩:=aj (w.alloc (.cells cx 66));rw[<-vF]at Vl KX⊢;rw[<-hX]at Vl⊢;have HX:=ag hX;clear vF hX;have L1:Z7 B X sec ep w1:=⟨(KX.cell (p:=⟨B,2,none⟩) rE (λx=>x)).t c2,by rw[aO _ _ _ _ _ (0,0) Vl];exact Zp⟩
 have l0:∀x:wE (Z7 B X sec ep),x.w.cell? ⟨B,2,none⟩=some (.string sec):=λx=>x.h.1;have l1:∀x:wE (Z7 B X sec ep),x.w.cell? ⟨X,1,none⟩=some (.int .i64 ep):=λx=>x.h.2;refine qX (Z7 B X sec ep) [(true,0),(true,1),(true,2),(true,3),(true,4),(true,5),(false,6),(false,7)] ?_;simp only[uy,qC,aF,aH,aI]
 repeat(refine qp (λK hK=> ?_);go_simp;(first|refine⟨_,λ_=>rfl,hK _ ?_⟩|refine hK _ ?_);clear hK K)
 clear l0 l1;refine⟨L1,?_⟩;go_wp2_with fail;refine(ziU.o _ KX.drew).m ?_;rintro e w2 ⟨rfl,K2⟩;have L2:Z7 B X sec ep w2:=⟨(K2.cell (p:=⟨B,2,none⟩) (by have:=KX.size;show B<w1.heap.size;omega) (λx=>x)).t L1.1,(K2.cell (p:=⟨X,1,none⟩) (lt_of_heap Vl) (λx=>x)).t L1.2⟩
 have YW:=K2.heap (show w1.drew.heap[X]? =_ from Vl) (λx=>x);have FB:=KX.drew.qo K2;go_wp2_with fail;refine⟨L2,?_⟩;clear L1 L2 K2 Vl KX ziU c2 Zp;go_wp2_with fail;obtain⟨f,hf⟩:∃f:Nat->Option (af×af),f=λk=>BL key d.now x.qx k:=⟨_,rfl⟩
 have Hf:=ag hf;clear hf
 go_loopw [20] (λiv wr=>∃(k:Nat) (l:List (af×af)),iv= .int .i64 k∧k<=32∧Hid (yI key d.now x.qx k=some l∧l.length=k)∧Hid (qU wr B D C (DF V l))∧Keep (qJ B) w2 wr) (λiv _=>32-(intOf iv).toNat)
 case atStart=>exact⟨0,[],rfl,by omega,ag ⟨rfl,rfl⟩,ag (by rw[zh8];exact HV.o.qm FB (λx=>x)),ah _ _⟩
 case round=>
  obtain⟨k,l,rfl,hk,hl,hV,K⟩:=hrel;obtain⟨wo,rfl⟩:=aj wr;have KK:Keep (qJ B) w wo:=(FB.yw).then K;have hBX:B≠X:=by rw[HX.o];omega
  have FK:wY wo D S wv d:=(Hd.o.qm KK (λb hb hB=>Hne.o b hb hB))
  have hlen:k<=32:=hk;by_cases uD:k<32
  ·have j1:(k:Int)<32:=by omega
   have j0:(0:Int)<=k:=by omega
   obtain⟨sd,IP⟩:=aj (x.qx.getD k false);obtain⟨s,hss⟩:=aj (d.now.getD (vI k sd) ⟨#[]⟩);have uF:s.size=256:=by rw[hss];exact Hb.o _ (Ff uD sd)
   have LP:=λ(W:ax)=>P5 k sd uD W;have hrd:∀(W:ax),ak wo W->ae 149 #[.pointer (some ⟨D,0,none⟩),.int .i64 ((vI k sd:Nat):Int)] W (au (.tuple #[.string s,.nilIface]) W):=by intro W K;rw[hss];exact zkH (FK.qm K (λ_ _ x=>x)) _ (Ff uD sd)
   have hR:=HR.o.qm KK HRN.o;have hm0:=λ(W:ax) (K:Keep (qJ B) wo W)=>GN k 0 ⟨#[]⟩ (by decide) W (hR.qm K HRN.o);have JM:wo.heap[X]? =some (.cells cx 66 (0,0)):=K.heap YW (λe=>hBX (Eq.s e));have L5:Z5 B X D k sd wo:=⟨hV.o.dev,by
    have:wo.cell? ⟨X,2+k,none⟩=cx[2+k]? :=aO _ _ _ _ _ (0,0) JM
    rw[IP,<-Hcs.o k uD];exact this⟩
   have Hpl:=ag LP;have Hrd:=ag hrd;have Hm0:=ag hm0;have Hsd:=ag IP;have Hss:=ag hss;have Rz:=ag JM;have HBX:=ag hBX;have HKK:=ag KK;have HRo:=ag hR;have Hd2:=ag FK;have zea:B<wo.heap.size:=hV.o.lt;have zfJ:X<wo.heap.size:=lt_of_heap JM;clear LP hrd hm0 IP hss JM hBX KK hR FK;have l0:∀x:wE (Z5 B X D k sd),x.w.cell? ⟨B,0,none⟩=some (.pointer (some ⟨D,0,none⟩)):=λx=>x.h.1;have l1:∀x:wE (Z5 B X D k sd),x.w.cell? ⟨X,2+k,none⟩=some (.bool sd):=λx=>x.h.2;go_wp2_with fail;refine qX (Z5 B X D k sd) [(true,0),(true,1),(true,2),(true,3),(true,4),(true,5),(true,6),(true,7),(true,8),(false,9),(false,10),(true,11),(true,12),(true,13),(true,14),(false,15)] ?_;simp only[uy,qC,aF,aH,aI]
   repeat(refine qp (λK hK=> ?_);go_simp;(first|refine⟨_,λ_=>rfl,hK _ ?_⟩|refine hK _ ?_);clear hK K)
   clear l0 l1;refine⟨L5,?_⟩;go_wp2_with fail;refine(Hpl.o _).m ?_;rintro e w3 ⟨rfl,IM⟩;subst IM;go_wp2_with fail;refine⟨L5,?_⟩;go_wp2_with fail;refine(Hrd.o _ (ah _ _).drew).m ?_;rintro e w4 ⟨rfl,K4⟩;have K4':ak wo w4:=((ah qw wo).drew).qo K4;have L6:Z5 B X D k sd w4:=⟨(K4'.cell (p:=⟨B,0,none⟩) zea (λx=>x)).t L5.1,(K4'.cell (p:=⟨X,2+k,none⟩) zfJ (λx=>x)).t L5.2⟩
   clear L5 K4 Hpl Hrd;go_wp2_with fail
   repeat(refine qp (λK hK=> ?_);go_simp;(first|refine⟨_,λ_=>rfl,hK _ ?_⟩|refine hK _ ?_);clear hK K)
   refine⟨L6,?_⟩;clear L6;go_wp2_with fail;have hV4:qU w4 B D C (DF V l):=hV.o.qm K4' (λx=>x);obtain⟨m0,hm0⟩:=aj (uu (Sl k 0 (bs ⟨#[]⟩)));have EU:=Hm0.o;rw[<-hm0]at EU;have Hmk:=ag EU;have HM0:=ag hm0;clear EU hm0 Hm0;refine qX (λ_=>True) [(true,0),(true,1),(true,2),(true,3),(true,4),(true,6),(true,7),(true,10),(true,11),(false,5),(true,8),(false,9),(true,12),(false,13)] ?_;simp only[uy,qC,aF,aH,aI]
   repeat(refine qp (λK hK=> ?_);go_simp;(first|refine⟨_,λ_=>rfl,hK _ ?_⟩|refine hK _ ?_);clear hK K)
   refine⟨trivial,?_⟩;go_wp2_with fail;refine(Hmk.o _ (K4'.yw.drew)).m ?_;rintro e w5 ⟨rfl,K5⟩;have hV5:qU w5 B D C (DF V l):=hV4.qm ((ah qw w4).drew.qo K5) (λx=>x);have K45:ak w4 w5:=(ah qw w4).drew.qo K5;have ct:=hV5.text k uD;have ft:=hV5.free (38+k);clear K5 hV4;go_wp2_with fail
   repeat(refine qp (λK hK=> ?_);go_simp;(first|refine⟨_,λ_=>rfl,hK _ ?_⟩|refine hK _ ?_);clear hK K)
   refine⟨trivial,?_⟩;go_wp2_with fail;have hV6:=hV5.Ag k uD ⟨#[]⟩;have K6:Keep (qJ B) w4 (w5.setCell ⟨B,38+k,none⟩ (.string ⟨#[]⟩)):=(K45.yw (S:=qJ B)).tK (38+k) _;obtain⟨w6,hw6⟩:=aj (w5.setCell ⟨B,38+k,none⟩ (.string ⟨#[]⟩));rw[<-hw6]at hV6 K6⊢;have cm:=hV6.mark k uD;have fm:=hV6.free (70+k);clear hw6 ct ft hV5 K45
   repeat(refine qp (λK hK=> ?_);go_simp;(first|refine⟨_,λ_=>rfl,hK _ ?_⟩|refine hK _ ?_);clear hK K)
   refine⟨trivial,?_⟩;go_wp2_with fail;have hV7:=hV6.Bi k uD m0;have K7:Keep (qJ B) w4 (w6.setCell ⟨B,70+k,none⟩ (.string m0)):=K6.tK (70+k) _;obtain⟨w7,hw7⟩:=aj (w6.setCell ⟨B,70+k,none⟩ (.string m0));rw[<-hw7]at hV7 K7⊢;clear hw7 cm fm hV6 K6 Hmk;have K47:Keep (qJ B) wo w7:=K4'.yw.then K7;obtain⟨Z,hZ⟩:=aj (uu (sS (vG 0)));have FM:=λW=>I5 0 W;rw[<-hZ]at FM;have h8:(8:Int)<=s.size:=by omega
   obtain⟨Bq,hBq⟩:=aj (zQ (s.extract 0 8) Z);have jq:=hBq.s;unfold zQ at jq;have HBq:=ag hBq;have HZ:=ag hZ;have zef:=ag FM;clear hBq hZ FM;refine qX (λ_=>True) [(true,0),(true,1),(false,2),(false,3)] ?_;simp only[uy,qC,aF,aH,aI]
   repeat(refine qp (λK hK=> ?_);go_simp;(first|refine⟨_,λ_=>rfl,hK _ ?_⟩|refine hK _ ?_);clear hK K)
   refine⟨trivial,?_⟩;go_wp2_with fail;refine(zef.o _).m ?_;rintro e w8 ⟨rfl,K8⟩;have K48:Keep (qJ B) wo w8:=K47.drew.qo K8;have hV8:qU w8 B D C (Bi (Ag (DF V l) k ⟨#[]⟩) k m0):=hV7.qm ((ah qw w7).drew.qo K8) (λx=>x);clear hV7 K47 K8 K7 K4';have hP:BL key d.now x.qx k=Ad key k s:=by rw[Hss.o,Hsd.o];rfl
   have HP:=ag hP;clear hP;cases Bq with
   | true=>
    have Yz:Ad key k s=some (⟨#[]⟩,m0):=by
     have h1:s.extract 0 8=Z:=by
      by_cases h:s.extract 0 8=Z
      ·exact h
      have:=CJ h;rw[<-HBq.o]at this;cases this
     rw[HZ.o]at h1;rw[Ad,bu ((zgB s).1 h1),HM0.o];rfl
    have Hpg:=ag Yz;clear Yz;go_wp2_with fail;refine⟨trivial,?_⟩;go_wp2_with fail;refine⟨⟨k+1,l++ [(⟨#[]⟩,m0)],by go_num,by omega,ag ⟨?_,by rw[aN,hl.o.2];rfl⟩,ag ?_,K.then K48⟩,by simp[intOf];omega⟩
    ·rw[yI,hl.o.1,HP.o,Hpg.o]
    have h:=UZ HV.o.lens (l:=l) (by rw[hl.o.2];exact uD) (⟨#[]⟩,m0);rw[hl.o.2]at h;rw[<-h];exact hV8
   | false=>
    have hn8:¬(bs s).take 8=sS 0:=by
     intro h;have h1:=(zgB s).2 h;have h2:zQ (s.extract 0 8) Z=true:=by rw[HZ.o,show vG 0=0 from rfl,<-h1];exact BO _
     rw[<-HBq.o]at h2;cases h2
    have Hn8:=ag hn8;clear hn8;go_wp2_with fail;refine⟨trivial,?_⟩;by_cases FI:TQ (bs key) k (bs s)
    ·have zlh:=λ(W:ax) (K:Keep (qJ B) wo W)=>zrE key k s Tu (by omega) (by omega) FI W (HRo.o.qm K HRN.o);obtain⟨vr,hvr⟩:=aj (yV (bs s));obtain⟨tx,htx⟩:=aj (uu (yY (bs key) (bs s)));rw[<-hvr,<-htx]at zlh;have NQ:tx.size<=1000:=by
      rw[htx,rH,yY,dJ];omega
     have Yz:Ad key k s=some (tx,uI k vr tx):=by rw[Ad,aV Hn8.o,bu FI,htx,hvr]
     have EU:=λ(W:ax) (K:Keep (qJ B) wo W)=>GN k vr tx NQ W (HRo.o.qm K HRN.o);obtain⟨m1,YB⟩:=aj (uI k vr tx);have zwe:∀(W:ax),Keep (qJ B) wo W->ae 93 #[.int .i64 k,.int .i64 vr,.string tx] W (au (.string m1) W):=by intro W K;rw[YB];exact EU W K
     rw[<-YB]at Yz;have Hpg:=ag Yz;have Hop:=ag zlh;have Hmk:=ag zwe;clear Yz zlh EU zwe YB hvr htx FI;go_wp2_with fail;refine(Hop.o _ K48).m ?_;rintro e w9 ⟨rfl,K9⟩;have K49:=K48.qo K9;have hV9:=hV8.qm K9 (λx=>x);clear K48 K9 hV8 Hop;go_wp2_with fail;refine qX (λ_=>True) [(true,0),(true,1),(true,2),(true,3),(true,4),(true,5),(true,6),(true,7),(true,9),(true,10),(true,13),(true,14),(false,8),(true,11),(false,12),(true,15),(false,16)] ?_;simp only[uy,qC,aF,aH,aI]
     repeat(refine qp (λK hK=> ?_);go_simp;(first|refine⟨_,λ_=>rfl,hK _ ?_⟩|refine hK _ ?_);clear hK K)
     refine⟨trivial,?_⟩;go_wp2_with fail;refine(Hmk.o _ K49.drew).m ?_;rintro e AV ⟨rfl,BC⟩;have zfK:=hV9.qm ((ah qw w9).drew.qo BC) (λx=>x);have K50:=K49.drew.qo BC;have ct:=zfK.text k uD;have ft:=zfK.free (38+k);clear BC hV9 K49 Hmk;go_wp2_with fail
     repeat(refine qp (λK hK=> ?_);go_simp;(first|refine⟨_,λ_=>rfl,hK _ ?_⟩|refine hK _ ?_);clear hK K)
     refine⟨trivial,?_⟩;go_wp2_with fail;have Zw:=zfK.Ag k uD tx;have K11:Keep (qJ B) wo (AV.setCell ⟨B,38+k,none⟩ (.string tx)):=K50.tK (38+k) _;obtain⟨Xb,zvN⟩:=aj (AV.setCell ⟨B,38+k,none⟩ (.string tx));rw[<-zvN]at Zw K11⊢;have cm:=Zw.mark k uD;have fm:=Zw.free (70+k);clear zvN ct ft zfK K50
     repeat(refine qp (λK hK=> ?_);go_simp;(first|refine⟨_,λ_=>rfl,hK _ ?_⟩|refine hK _ ?_);clear hK K)
     refine⟨trivial,?_⟩;go_wp2_with fail;have zAc:=Zw.Bi k uD m1;have zAu:Keep (qJ B) wo (Xb.setCell ⟨B,70+k,none⟩ (.string m1)):=K11.tK (70+k) _;refine⟨⟨k+1,l++ [(tx,m1)],by go_num,by omega,ag ⟨?_,by rw[aN,hl.o.2];rfl⟩,ag ?_,K.then zAu⟩,by simp[intOf];omega⟩
     ·rw[yI,hl.o.1,HP.o,Hpg.o]
     ·have h:=zh9 HV.o.lens (l:=l) (by rw[hl.o.2];exact uD) (tx,m1) (⟨#[]⟩,m0);rw[hl.o.2]at h;rw[<-h];exact zAc
    have zlh:=λ(W:ax) (K:Keep (qJ B) wo W)=>zpB key k s Tu (by omega) (by omega) FI W (HRo.o.qm K HRN.o);have Yz:Ad key k s=none:=by rw[Ad,aV Hn8.o,aV FI]
    have Dv:EP V.secret d.now x=none:=zbd (by rw[<-Hk.o,HP.o,Yz]) uD;have Hno:=ag Dv;have Hop:=ag zlh;clear Yz zlh FI Dv;go_wp2_with fail;refine(Hop.o _ K48).m ?_;rintro e w9 ⟨rfl,K9⟩;go_wp2_with fail;go_ret;refine⟨?_,HKK.o.then (K48.qo K9)⟩;rw[Hno.o];exact⟨rfl,_,_,hV8.qm K9 (λx=>x)⟩
  obtain rfl:k=32:=by omega
  have j1:¬((32:Nat):Int)<32:=by omega
  have hls:l.length=32:=hl.o.2;have hVA:=zbe HV.o.lens hls;have hVo:=hV.o;rw[hVA]at hVo;obtain⟨ts,hts⟩:=aj (l.map (·.1));obtain⟨ms,Jl⟩:=aj (l.map (·.2));have zd7:ms.length=32:=by rw[Jl,aP,hls]
  have zf6:∀m∈ms,m.size=16:=by rw[Jl];exact Ri 32 l hl.o.1
  have TT:EP V.secret d.now x=if vS ms=x.root then some (ts,ms)else none:=by rw[zbc (by rw[<-Hk.o];exact hl.o.1),hts,Jl]
  rw[<-hts,<-Jl]at hVo;have T:Strs wo (.slice (some ⟨B,70,none⟩) 32 32) ms:= .inr ⟨B,70,32,by rw[zd7],hVo.lt,λi hi=>hVo.mark i (by omega)⟩;have Gt:=UE (some ⟨B,70,none⟩) 32 32 ms wo (HR.o.qm KK HRN.o) T (aS _) (by omega);have hE:NW ms=0:=by rw[NW,bu (y8.2 ⟨zd7,zf6⟩)]
  rw[hE]at Gt;obtain⟨rt,hrt⟩:=aj (vS ms);rw[<-hrt]at Gt TT;have ZU:ae 157 #[.slice (some ⟨B,70,none⟩) 32 32] wo (au (.tuple #[.string rt,.nilIface]) wo):=Gt;have JM:wo.heap[X]? =some (.cells cx 66 (0,0)):=K.heap YW (λe=>hBX (Eq.s e));have zc1:=ag ZU;have zgm:=ag TT;have HVo:=ag hVo;have Rz:=ag JM;have HKK:=ag KK;have Hms:=ag zd7;clear Gt ZU TT hrt hE T zf6 hts Jl hVA hls hV JM KK FK zd7 hVo;go_wp2_with fail;refine zc1.o.m ?_;rintro e w3 ⟨rfl,K3⟩;have Rx:=K3.heap Rz.o (λx=>x);have hV4:=HVo.o.qm K3 (λx=>x);have c34:w3.cell? ⟨X,34,none⟩=some (.string x.root):=by rw[aO _ _ _ _ _ (0,0) Rx];exact zz6
  by_cases heq:rt=x.root
  ·have jq:=BO rt;unfold zQ at jq;rw[<-heq]at c34;have Heq:=ag heq;have QP:(prog.info? 66).map (·.size)=some cx.size:=by rw[Ce];exact sK
   have xu:cx.all (·.oneCell')=true:=by rw[Hcx.o];exact sU _
   have hBl:3+cx.size<=(qM D C { V with texts:=ts,marks:=ms }).toArray.size:=by rw[Ce,bZ,IA hV4.lens];omega
   have Gf:=ag QP;have zfQ:=ag xu;have HBl:=ag hBl;clear heq QP xu hBl;go_wp2_with (first|(refine jI rfl 66 (.tmp 3) rfl X rfl 66 cx (0,0) _ Rx dM rfl Gf.o ?_)|(refine uG rfl 66 (.tmp 100) (.tmp 98) rfl B 3 164 (qM D C { V with texts:=ts,marks:=ms }).toArray cx rfl rfl hV4.row Gf.o HBl.o zfQ.o ?_));go_ret;have hV5:=hV4.zh (x:=x) hx;refine⟨?_,(HKK.o.qo K3).setRow (g:=B) (.inl rfl) _⟩;rw[zgm.o,bu Heq.o];refine⟨rfl,?_⟩;rw[<-Hcx.o]at hV5;exact hV5
  have jq:=CJ heq;unfold zQ at jq;have Hno:=ag heq;clear heq;go_wp2_with fail;go_ret;refine⟨?_,HKK.o.qo K3⟩;rw[zgm.o,aV Hno.o];exact⟨rfl,_,_,hV4⟩
def O5(secret:af):qI:=⟨secret,⟨0,1,List.replicate 32 false,⟨#[]⟩⟩,List.replicate 32 ⟨#[]⟩,List.replicate 32 ⟨#[]⟩,false⟩
def zhu(secret:af):tq (O5 secret):=⟨bP,bP,bP⟩
def ZO(secret:af)(t m:List af):qI:= { O5 secret with texts:=t,marks:=m }
def Su(secret:af)(B:List af)(c:Int):xX secret B c=if Cj secret B c=true then(EP secret B (Aw secret B c)).map λp=>⟨secret,Aw secret B c,p.1,p.2,false⟩else none:=by
 unfold xX;rw[zl7];by_cases h:Cj secret B c=true
 ·rw[bu h,bu h]
 rw[aV h,aV h]
def xQ(k:Nat):List (af×af):=(List.range k).map λ(i:Nat)=>((⟨#[]⟩:af),uI (i:Int) 0 ⟨#[]⟩)
def YN(k:Nat):xQ (k+1)=xQ k++ [(⟨#[]⟩,uI k 0 ⟨#[]⟩)]:=by simp[xQ,lH]
def IC(k:Nat):(xQ k).length=k:=by simp[xQ]
def zmK(secret:af)(t m:List af)(h:tq (ZO secret t m)):DF (ZO secret t m) (xQ 32)=yS secret:=by
 rw[zbe h (IC 32)];have e1:(xQ 32).map (·.1)=List.replicate 32 ⟨#[]⟩:=by rw[xQ,iy];apply kV (by simp);intro i h1 h2;rw[List.getElem_map,List.getElem_replicate];rfl
 have e2:(xQ 32).map (·.2)=(List.range 32).map λ(i:Nat)=>uI (i:Int) 0 ⟨#[]⟩:=by rw[xQ,iy];rfl
 rw[e1,e2];rfl
def Yq:prog.built 66 [(1,.int .i64 1)]=some (qG ⟨0,1,List.replicate 32 false,⟨#[]⟩⟩).toArray:=by kernel_rfl
def zir(D C:Nat)(secret:af):prog.built 164 [(0,.pointer (some ⟨D,0,none⟩)),(1,.pointer (some ⟨C,0,none⟩)),(2,.string secret),(3,.agg (qG ⟨0,1,List.replicate 32 false,⟨#[]⟩⟩).toArray)]=some (qM D C (O5 secret)).toArray:=by kernel_rfl
def zqn(w w':ax)(D C:Nat)(n:Nat)(r:Option (qI×Int))(e:Ending):Prop:=match r with
 | some p=>∃B,e= .returned (.tuple #[.pointer (some ⟨B,0,none⟩),.nilIface])∧w.heap.size<=B∧qU w' B D C p.1∧um w' C p.2
 | none=>e= .returned (.tuple #[.pointer none,qY 15])∧um w' C n
def zr9(w wx:ax)(B D C:Nat)(secret:af)(blocks:List af)(n:Nat)(bv:ay):Prop:=
 ∃(b:Bool) (V':qI),bv= .bool b∧qU wx B D C V'∧ak w wx∧(b=true->xX secret blocks ((n+1:Nat):Int)=some V')∧(b=false->xX secret blocks ((n+1:Nat):Int)=none∧∃t m,V'=ZO secret t m)
def zcl{S:Nat}(hd:wY w D S wv d)(hb:∀i,i<66->(d.now.getD i ⟨#[]⟩).size=256)(n:Nat)(hn:n<1000000000)(hc:um w C n)(secret:af)(hs:secret.size=16)(R:rF w):
  ae 40 #[.pointer (some ⟨D,0,none⟩),.pointer (some ⟨C,0,none⟩),.string secret] w λe w'=>zqn w w' D C n (IX secret d.now n) e∧Keep (qJ C) w w':=by
 have JO:(secret.size:Int)=16:=by omega
 have Vw:D<w.heap.size:=by obtain⟨c,h2,_⟩:=hd.head;exact lt_of_heap h2
 have zw6:C<w.heap.size:=lt_of_heap hc;obtain⟨cs,zu⟩:=aj ((qG ⟨0,1,List.replicate 32 false,⟨#[]⟩⟩).toArray);obtain⟨cv,NT⟩:=aj ((qM D C (O5 secret)).toArray);have hbs:=Yq;have hbv:=zir D C secret;rw[<-zu]at hbs hbv;rw[<-NT]at hbv;have Hbs:=ag hbs;have Hbv:=ag hbv;have Hcv:=ag NT;have Hd:=ag hd;have Hb:=ag hb;have Hc:=ag hc;have HR:=ag R;have Hs:=ag hs;clear hbs hbv zu NT hd hb hc R hs;go_enter func40,ntmps40;go_wp2_with (first|(refine qZ rfl 66 #[(1,.const (.int .i64 1))] rfl cs (by simp only[fH,bH,dh,fD];exact Hbs.o) ?_)|(refine qZ rfl 164 #[(0,.tmp 27),(1,.tmp 28),(2,.tmp 29),(3,.tmp 30)] rfl cv (by simp only[fH,bH,dh,fD];refine Eq.t (dB (λl=>prog.built 164 l) ?_) Hbv.o;rfl) ?_));obtain⟨B,hB⟩:=aj w.heap.size;have hV1:qU (w.alloc (.cells cv 164)) B D C (O5 secret):=⟨by rw[hB,<-Hcv.o];exact aQ w _,zhu _⟩
 have K1:ak w (w.alloc (.cells cv 164)):=(ah _ _).alloc _;obtain⟨w1,vF⟩:=aj (w.alloc (.cells cv 164));rw[<-vF]at hV1 K1⊢;rw[<-hB];have HB:=ag hB;clear vF hB;refine(zrS (Hc.o.qm K1 (λx=>x))).m ?_;rintro e w2 ⟨rfl,hw⟩;subst hw;have OC:IntKind.i64.wrap ((n:Int)+1)=((n+1:Nat):Int):=by rw[aY _ (by omega)];omega
 have Dw:(n:Int)+1=((n+1:Nat):Int):=by omega
 have zd4:=PZ hV1 (Hd.o.qm K1 (λ_ _ x=>x)) (λi hi=>by have:=Hb.o i hi;omega) (by show secret.size<=1000;have:=Hs.o;omega) (n+1) (HR.o.qm K1 (λx=>x));obtain⟨ok,zN⟩:=aj (Cj (O5 secret).secret d.now ((n+1:Nat):Int));obtain⟨x1,Qd⟩:=aj (Aw (O5 secret).secret d.now ((n+1:Nat):Int));have Zk:x1.qx.length=32:=by rw[Qd];exact P7 _ _ _
 rw[<-zN,<-Qd,<-Dw]at zd4;obtain⟨c1,Zp⟩:=aj ((qG x1).toArray);have hsv:tH x1= .agg c1:=by rw[Zp];rfl
 have Ce:c1.size=35:=by rw[Zp,bZ,uk x1 Zk]
 have xu:c1.all (·.oneCell')=true:=by rw[Zp];exact sU _
 rw[hsv]at zd4;have yh:=xP;have AP:=Au;obtain⟨cz,JL⟩:=aj ((qG sZ).toArray);have uF:tH sZ= .agg cz:=by rw[JL];rfl
 rw[uF]at yh;rw[<-JL]at AP;have QP:(prog.info? 66).map (·.size)=some c1.size:=by rw[Ce];exact sK
 have EJ:=ag yh;have Gf:=ag QP;have Hsv:=ag hsv;have zfQ:=ag xu;have Hzl:=ag AP;have zxt:=ag zd4;have Xn:=ag zN;have Hx1:=ag Qd;clear OC Dw zd4 zN Qd Zp hsv yh JL uF QP xu AP;go_wp2_with fail;refine zxt.o.m ?_;rintro e w3 ⟨rfl,K3⟩;go_upto_region 6 with(first|(refine qN rfl 66 rfl EJ.o ?_;refine qQ (λw5=>w5.heap[w3.heap.size]? =some (.cells cz 66 (0,0))∧ak w3 w5) ⟨aQ w3 _,(ah qw w3).alloc _⟩ ?_;rintro w5 ⟨hY5,K5⟩)|(refine qL rfl 66 (.tmp 10) (.tmp 40) rfl w3.heap.size 66 cz c1 rfl rfl hY5 Gf.o 35 Hzl.o Ce zfQ.o ?_;refine qQ (λw6=>w6.heap[w3.heap.size]? =some (.cells c1 66 (0,0))∧ak w3 w6) ⟨qO (c':=c1) hY5,K5.setRow (g:=w3.heap.size) (.inr (aS _)) c1⟩ ?_;clear hY5 K5;rintro w6 ⟨YV,K6⟩))
 have K36:=K3.qo K6;have hV6:=hV1.qm K36 (λx=>x);have K06:=K1.qo K36
 go_cut [47] (λbv wx=>zr9 w wx B D C secret d.now n bv)
 case first=>
  cases ok with
  | true=>
   have hld:=Q8 hV6 (Hd.o.qm K06 (λ_ _ x=>x)) Hb.o (by show secret.size<=1000;have:=Hs.o;omega) x1 Zk (HR.o.qm K06 (λx=>x));rw[Hsv.o]at hld;have Hld:=ag hld;clear hld;go_wp2_with (first|(refine Bj (by rfl) 66 (.tmp 10) rfl w3.heap.size rfl 66 c1 (0,0) _ YV dM rfl Gf.o ?_));refine Hld.o.m ?_;rintro e w7 ⟨IP,K7⟩;have zd5:zay w7 B D C (O5 secret) (EP secret d.now x1) x1 e:=IP;have K07:ak w w7:=K06.t K7 (λi hi hs=>by have h1:i=B:=hs;have h2:=HB.o;omega);have LG:=Su secret d.now ((n+1:Nat):Int);rw[bu (show Cj secret d.now ((n+1:Nat):Int)=true from Xn.o.s),show Aw secret d.now ((n+1:Nat):Int)=x1 from Hx1.o.s]at LG;cases hl:EP secret d.now x1 with
   | some p=>
    rw[hl]at zd5 LG;obtain⟨rfl,hV7⟩:=zd5;have Hva:=ag LG;clear hl IP LG;go_wp2_with fail;go_meet
    exact⟨true,_,rfl,hV7,K07,λ_=>Hva.o,λh=>by cases h⟩
   | none=>
    rw[hl]at zd5 LG;obtain⟨rfl,t,m,hV7⟩:=zd5;have Hva:=ag LG;clear hl IP LG;go_wp2_with fail;go_meet
    exact⟨false,_,rfl,hV7,K07,(λh=>by cases h),λ_=>⟨Hva.o,t,m,rfl⟩⟩
  | false=>
   go_wp2_with fail;go_meet
   refine⟨false,_,rfl,hV6,K06,(λh=>by cases h),λ_=>⟨?_,_,_,rfl⟩⟩;rw[Su,aV];intro h2;rw[show Cj secret d.now ((n+1:Nat):Int)=false from Xn.o.s]at h2;cases h2
 case rest=>
  obtain⟨b,V',rfl,hV,K9,ht,hf⟩:=hcut;clear hV6 K36 K06 YV K6 K3 zxt;cases b with
  | true=>
   have LG:=ht rfl;have FI:IX secret d.now n=some (V',((n:Int)+1)):=by unfold IX;rw[show(n:Int)+1=((n+1:Nat):Int)by omega,LG]
   have Hop:=ag FI;have ET:=zdl (Hc.o.qm K9 (λx=>x)) ((n:Int)+1) (by omega);have Hra:=ag ET;clear ht hf LG FI ET;go_wp2_with fail;refine Hra.o.m ?_;rintro e w5 ⟨rfl,hC5,K5⟩;go_wp2_with fail
   go_ret2
   refine⟨?_,K9.yw.then K5⟩;rw[Hop.o];exact⟨B,rfl,by have:=HB.o;omega,hV.qm K5 (λe=>by have h1:B=C:=e;have h2:=HB.o;omega),hC5⟩
  | false=>
   obtain⟨LG,t,m,rfl⟩:=hf rfl;have Hva:=ag LG;clear ht hf LG;by_cases Rt:n=0
   ·have jn:((n:Int)==0)=true:=by rw[Rt];rfl
    have FI:IX secret d.now n=some (yS secret,(n:Int)):=by unfold IX;rw[show(n:Int)+1=((n+1:Nat):Int)by omega,Hva.o,bu (by omega),Rt];rfl
    have Hop:=ag FI;have zoB:∀W,ak w W->um W C n:=λW K=>Hc.o.qm K (λx=>x);have zvw:=ag zoB;have HVc:=ag hV;have zsC:=hV.lens;have zs5:=ag zsC;clear FI zoB hV zsC Rt;go_wp2_with fail
    go_loopw [55] (λiv wr=>∃k:Nat,iv= .int .i64 k∧k<=32∧Hid (qU wr B D C (DF (ZO secret t m) (xQ k)))∧ak w wr) (λiv _=>32-(intOf iv).toNat)
    ·exact⟨0,rfl,by omega,ag HVc.o,K9⟩
    obtain⟨k,rfl,hk,hVr,K⟩:=hrel;obtain⟨wo,rfl⟩:=aj wr;by_cases uD:k<32
    ·have j1:(k:Int)<32:=by omega
     obtain⟨m0,hm0⟩:=aj (uI k 0 ⟨#[]⟩);have EU:∀W,ak wo W->ae 93 #[.int .i64 k,.int .i64 0,.string ⟨#[]⟩] W (au (.string m0) W):=by intro W KW;rw[hm0];exact GN k 0 ⟨#[]⟩ (by decide) W (HR.o.qm (K.qo KW) (λx=>x))
     have Hmk:=ag EU;have HM0:=ag hm0;clear EU hm0;go_wp2_with fail;refine qX (λ_=>True) [(true,0),(true,1),(true,2),(true,3),(true,4),(true,6),(true,7),(true,10),(true,11),(false,5),(true,8),(false,9),(true,12),(false,13)] ?_;simp only[uy,qC,aF,aH,aI]
     repeat(refine qp (λK hK=> ?_);go_simp;(first|refine⟨_,λ_=>rfl,hK _ ?_⟩|refine hK _ ?_);clear hK K)
     refine⟨trivial,?_⟩;go_wp2_with fail;refine(Hmk.o _ ((ah qw wo).drew)).m ?_;rintro e w5 ⟨rfl,K5⟩;have K45:ak wo w5:=(ah qw wo).drew.qo K5;have hV5:=hVr.o.qm K45 (λx=>x);have ct:=hV5.text k uD;have ft:=hV5.free (38+k);clear K5;go_wp2_with fail
     repeat(refine qp (λK hK=> ?_);go_simp;(first|refine⟨_,λ_=>rfl,hK _ ?_⟩|refine hK _ ?_);clear hK K)
     refine⟨trivial,?_⟩;go_wp2_with fail;have hV6:=hV5.Ag k uD ⟨#[]⟩;have K6:Keep (qJ B) wo (w5.setCell ⟨B,38+k,none⟩ (.string ⟨#[]⟩)):=(K45.yw (S:=qJ B)).tK (38+k) _;obtain⟨w6,hw6⟩:=aj (w5.setCell ⟨B,38+k,none⟩ (.string ⟨#[]⟩));rw[<-hw6]at hV6 K6⊢;have cm:=hV6.mark k uD;have fm:=hV6.free (70+k);clear hw6 ct ft hV5 K45
     repeat(refine qp (λK hK=> ?_);go_simp;(first|refine⟨_,λ_=>rfl,hK _ ?_⟩|refine hK _ ?_);clear hK K)
     refine⟨trivial,?_⟩;go_wp2_with fail;have hV7:=hV6.Bi k uD m0;have K7:Keep (qJ B) wo (w6.setCell ⟨B,70+k,none⟩ (.string m0)):=K6.tK (70+k) _;refine⟨⟨k+1,by go_num,by omega,ag ?_,K.t K7 (λi hi hs=>by have h1:i=B:=hs;have h2:=HB.o;omega)⟩,by simp[intOf];omega⟩;have h:=UZ zs5.o (l:=xQ k) (by rw[IC];exact uD) (⟨#[]⟩,m0);rw[IC,HM0.o,<-YN]at h;rw[<-h,<-HM0.o];exact hV7
    obtain rfl:k=32:=by omega
    have hVf:=hVr.o;rw[zmK secret t m zs5.o]at hVf;have HVf:=ag hVf;clear hVf hVr;go_wp2_with fail
    go_ret2
    refine⟨?_,K.yw⟩;rw[Hop.o];exact⟨B,rfl,by have:=HB.o;omega,HVf.o,zvw.o _ K⟩
   have jn:((n:Int)==0)=false:=by simp;omega
   have zd4:=PZ hV (Hd.o.qm K9 (λ_ _ x=>x)) (λi hi=>by have:=Hb.o i hi;omega) (by show secret.size<=1000;have:=Hs.o;omega) n (HR.o.qm K9 (λx=>x));obtain⟨ok2,zd6⟩:=aj (Cj (ZO secret t m).secret d.now (n:Int));obtain⟨x2,Vf⟩:=aj (Aw (ZO secret t m).secret d.now (n:Int));have zvG:x2.qx.length=32:=by rw[Vf];exact P7 _ _ _
   rw[<-zd6,<-Vf]at zd4;obtain⟨c2,Oo⟩:=aj ((qG x2).toArray);have hsv:tH x2= .agg c2:=by rw[Oo];rfl
   have zlp:c2.size=35:=by rw[Oo,bZ,uk x2 zvG]
   have xu:c2.all (·.oneCell')=true:=by rw[Oo];exact sU _
   rw[hsv]at zd4;have QP:(prog.info? 66).map (·.size)=some c2.size:=by rw[zlp];exact sK
   have Dv:xX secret d.now n=none->IX secret d.now n=none:=λh=>by unfold IX;rw[show(n:Int)+1=((n+1:Nat):Int)by omega,Hva.o,aV (by omega),h];rfl
   have zvF:∀v,xX secret d.now n=some v->IX secret d.now n=some (v,(n:Int)):=λv h=>by unfold IX;rw[show(n:Int)+1=((n+1:Nat):Int)by omega,Hva.o,aV (by omega),h];rfl
   have Hno:=ag Dv;have zAw:=ag zvF;have zxW:=ag QP;have zAD:=ag hsv;have zyU:=ag xu;have zyL:=ag zd4;have zxB:=ag zd6;have Hx2:=ag Vf;clear Dv zvF zd4 zd6 Vf Oo hsv QP xu Rt;go_wp2_with fail;refine zyL.o.m ?_;rintro e w4 ⟨rfl,K4⟩;go_upto_region 16 with(first|(refine qN rfl 66 rfl EJ.o ?_;refine qQ (λw5=>w5.heap[w4.heap.size]? =some (.cells cz 66 (0,0))∧ak w4 w5) ⟨aQ w4 _,(ah qw w4).alloc _⟩ ?_;rintro w5 ⟨hY5,K5⟩)|(refine qL rfl 66 (.tmp 13) (.tmp 76) rfl w4.heap.size 66 cz c2 rfl rfl hY5 zxW.o 35 Hzl.o zlp zyU.o ?_;refine qQ (λw6=>w6.heap[w4.heap.size]? =some (.cells c2 66 (0,0))∧ak w4 w6) ⟨qO (c':=c2) hY5,K5.setRow (g:=w4.heap.size) (.inr (aS _)) c2⟩ ?_;clear hY5 K5;rintro w6 ⟨YV,K6⟩))
   have Vm:=K4.qo K6;have hV6:=hV.qm Vm (λx=>x);have K06:=K9.qo Vm;have LG:=Su secret d.now (n:Int);cases ok2 with
   | true=>
    rw[bu (show Cj secret d.now (n:Int)=true from zxB.o.s),show Aw secret d.now (n:Int)=x2 from Hx2.o.s]at LG;have hld:=Q8 hV6 (Hd.o.qm K06 (λ_ _ x=>x)) Hb.o (by show secret.size<=1000;have:=Hs.o;omega) x2 zvG (HR.o.qm K06 (λx=>x));rw[zAD.o]at hld;have Hld:=ag hld;have zAy:=ag LG;clear hld LG;go_wp2_with (first|(refine Bj (by rfl) 66 (.tmp 13) rfl w4.heap.size rfl 66 c2 (0,0) _ YV dM rfl zxW.o ?_));refine Hld.o.m ?_;rintro e w7 ⟨IP,K7⟩;have zd5:zay w7 B D C (ZO secret t m) (EP secret d.now x2) x2 e:=IP;have K07:ak w w7:=K06.t K7 (λi hi hs=>by have h1:i=B:=hs;have h2:=HB.o;omega);have LG:=zAy.o;cases hl:EP secret d.now x2 with
    | some p=>
     rw[hl]at zd5 LG;obtain⟨rfl,hV7⟩:=zd5;have FI:=zAw.o _ LG;have Hop:=ag FI;clear hl IP LG FI;go_wp2_with fail
     go_ret2
     refine⟨?_,K07.yw⟩;rw[Hop.o];exact⟨B,rfl,by have:=HB.o;omega,hV7,Hc.o.qm K07 (λx=>x)⟩
    | none=>
     rw[hl]at zd5 LG;obtain⟨rfl,t2,m2,hV7⟩:=zd5;have FI:=Hno.o LG;have Hop:=ag FI;clear hl IP LG FI;go_wp2_with fail
     go_ret2
     refine⟨?_,K07.yw⟩;rw[Hop.o];exact⟨rfl,Hc.o.qm K07 (λx=>x)⟩
   | false=>
    rw[aV (by intro h2;rw[show Cj secret d.now (n:Int)=false from zxB.o.s]at h2;cases h2)]at LG;have FI:=Hno.o LG;have Hop:=ag FI;clear LG FI;go_wp2_with fail
    go_ret2
    refine⟨?_,K06.yw⟩;rw[Hop.o];exact⟨rfl,Hc.o.qm K06 (λx=>x)⟩
def WV(h:wZ key rf (W.take k) st0=(st,true))(hp:W[k]? =some p)(hf:st.dev.qR≠0):wZ key rf (W.take (k+1)) st0=(yX key rf st p,true):=by have hk:=aT.1 hp;rw[aZ hk.1,hk.2,Jz,h,bu rfl,wZ,aV hf];rfl
def zhn(h:wZ key rf (W.take k) st0=(st,true))(hp:W[k]? =some p)(hf:st.dev.qR=0):wZ key rf W st0=(st,false):=by
 have hk:=aT.1 hp;have e:W=W.take k++p::W.drop (k+1):=by rw[<-hk.2,<-jB hk.1,iV]
 rw[e,Jz,h,bu rfl,wZ,bu hf]
def XC{key:af}{rf:Int} :∀(W:List (Nat×af)) (st:DK),(wZ key rf W st).1.dev.wait.length<=st.dev.wait.length+W.length
 | [],st=>aS _
 | p::W,st=>by
  rw[wZ];split
  ·simp
  have h:=XC (key:=key) (rf:=rf) W (yX key rf st p);have e:(yX key rf st p).dev.wait.length=st.dev.wait.length+1:=by simp[yX,vN.put]
  rw[e]at h;simp only[bf];omega
def P6{key:af}{rf:Int} :∀(W:List (Nat×af)) (st:DK),(∀m∈st.marks,m.size=16)->∀m∈(wZ key rf W st).1.marks,m.size=16
 | [],st,h=>h
 | p::W,st,h=>by
  rw[wZ];split
  ·exact h
  refine P6 (key:=key) (rf:=rf) W _ λm hm=> ?_;simp only[yX]at hm;rcases List.mem_or_eq_of_mem_set hm with hm|rfl
  ·exact h m hm
  exact FY _ _ _
def XD{secret:af}{x0:uX}{marks:List af}(h:wZ (CQ secret x0.qB) x0.count W ⟨x0.qx,marks,d⟩=(st,false)):zg secret x0 marks d W=⟨14,⟨x0.count,x0.qB,st.qx,vS st.marks⟩,st.marks,st.dev⟩:=by unfold zg;simp only[h];rfl
section
variable {secret:af}{x0:uX}{marks:List af}{d:vN}{W:List (Nat×af)}{st:DK}(h:wZ (CQ secret x0.qB) x0.count W ⟨x0.qx,marks,d⟩=(st,true))
include h
def zgA(h1:st.dev.qR=0):zg secret x0 marks d W=⟨14,⟨x0.count,x0.qB,st.qx,vS st.marks⟩,st.marks,st.dev⟩:=by unfold zg;simp only[h];rw[aV (by decide),bu h1]
def zo9(h1:st.dev.qR≠0)(h2:uV (vV secret) ⟨x0.count,x0.qB,st.qx,vS st.marks⟩=false):zg secret x0 marks d W=⟨1,⟨x0.count,x0.qB,st.qx,vS st.marks⟩,st.marks,st.dev.sync⟩:=by unfold zg;simp only[h];rw[aV (by decide),aV h1,bu h2]
def zgz(h1:st.dev.qR≠0)(h2:uV (vV secret) ⟨x0.count,x0.qB,st.qx,vS st.marks⟩=true)(h3:st.dev.sync.qR=0):zg secret x0 marks d W=⟨14,⟨x0.count,x0.qB,st.qx,vS st.marks⟩,st.marks,st.dev.sync⟩:=by unfold zg;simp only[h];rw[aV (by decide),aV h1,aV (by rw[h2];decide),bu h3]
def zgy(h1:st.dev.qR≠0)(h2:uV (vV secret) ⟨x0.count,x0.qB,st.qx,vS st.marks⟩=true)(h3:st.dev.sync.qR≠0)(h4:(st.dev.sync.put (x0.count % 2).toNat (Cf (vV secret) ⟨x0.count,x0.qB,st.qx,vS st.marks⟩)).qR=0):
  zg secret x0 marks d W=⟨14,⟨x0.count,x0.qB,st.qx,vS st.marks⟩,st.marks,st.dev.sync.put (x0.count % 2).toNat (Cf (vV secret) ⟨x0.count,x0.qB,st.qx,vS st.marks⟩)⟩:=by
 unfold zg;simp only[h];rw[aV (by decide),aV h1,aV (by rw[h2];decide),aV h3,bu h4]
def zgx(h1:st.dev.qR≠0)(h2:uV (vV secret) ⟨x0.count,x0.qB,st.qx,vS st.marks⟩=true)(h3:st.dev.sync.qR≠0)(h4:(st.dev.sync.put (x0.count % 2).toNat (Cf (vV secret) ⟨x0.count,x0.qB,st.qx,vS st.marks⟩)).qR≠0):
  zg secret x0 marks d W=⟨0,⟨x0.count,x0.qB,st.qx,vS st.marks⟩,st.marks,(st.dev.sync.put (x0.count % 2).toNat (Cf (vV secret) ⟨x0.count,x0.qB,st.qx,vS st.marks⟩)).sync⟩:=by
 unfold zg;simp only[h];rw[aV (by decide),aV h1,aV (by rw[h2];decide),aV h3,aV h4]
end
def SX(w:ax)(wv:ay):Gx w wv wv:= .inl rfl
def Jg{w1:ax}{a b c:ay}(h:Gx w a b)(k:Gx w1 b c)(hs:w.heap.size<=w1.heap.size):Gx w a c:=by
 rcases k with k|k
 ·rcases h with h|h
  ·exact .inl (k.t h)
  exact .inr λx hx=>h x (k▸hx)
 exact .inr λx hx=>bQ hs (k x hx)
def Dk{S:Nat}{zV:ay}(h:Gx w wv zV):∀i,i<w.heap.size->xN D S zV i->xN D S wv i:=by
 rintro i hi (hb|hb|hb)
 ·exact .inl hb
 ·exact .inr (.inl hb)
 rcases h with h|h
 ·exact .inr (.inr (h▸hb))
 have:=h i hb;omega
section
variable {w:ax}{D S:Nat}{wv:ay}{d:vN}
def U2(h:wY w D S wv d)(k:Nat)(s:af)(hk:k<66)(hs:s.size<=256)(hf:d.qR≠0)(hw:d.wait.length<1000000):
  ae 192 #[.pointer (some ⟨D,0,none⟩),.int .i64 k,.string s] w λe w'=>e= .returned .nilIface∧(∃zV,wY w' D S zV (d.put k s)∧Gx w wv zV)∧Keep (xN D S wv) w w':=
 (zoM h k s hk hs hf hw).m λ_ _ ⟨he,⟨zV,hd,hm⟩,hK⟩=>⟨he,⟨zV,hd,hm⟩,hK⟩
def Yi(h:wY w D S wv d)(k:Nat)(s:af)(hk:k<66)(hs:s.size<=256)(hf:d.qR=0):
  ae 192 #[.pointer (some ⟨D,0,none⟩),.int .i64 k,.string s] w λe w'=>e= .returned (.iface 34 (.int .i64 14))∧wY w' D S wv d∧Keep (xN D S wv) w w':=by
 have h':vW w D S wv d.qy d.wait 0:=by have:=h;rw[wY,hf]at this;exact this
 refine(zhi h' k s hk hs).m λ_ _ ⟨he,hd,hK⟩=>⟨he,?_,hK.m λi _ hi=> .inl hi⟩
 rw[wY,hf];exact hd
def Yj(h:wY w D S wv d)(hf:d.qR≠0):
  ae 193 #[.pointer (some ⟨D,0,none⟩)] w λe w'=>e= .returned .nilIface∧wY w' D S (.slice none 0 0) d.sync∧Keep (xN D S wv) w w':=zrm h hf
def zbu(h:wY w D S wv d)(hf:d.qR=0):
  ae 193 #[.pointer (some ⟨D,0,none⟩)] w λe w'=>e= .returned (.iface 34 (.int .i64 14))∧wY w' D S wv d∧Keep (xN D S wv) w w':=by
 have h':vW w D S wv d.qy d.wait 0:=by have:=h;rw[wY,hf]at this;exact this
 refine(zjk h').m λ_ _ ⟨he,hd,hK⟩=>⟨he,?_,hK.m λi _ hi=> .inl hi⟩
 rw[wY,hf];exact hd
end
def vK(w:ax)(X:Nat)(x:uX):Prop:=w.heap[X]? =some (.cells (qG x).toArray 66 (0,0))∧x.qx.length=32
def zB(w:ax)(K:Nat)(l:List af):Prop:=w.heap[K]? =some (.cells (l.map Value.string).toArray 67 (0,0))∧l.length=32
section
variable {w w':ax}{X K:Nat}{x:uX}{l:List af}
def vK.qm(h:vK w X x)(hk:Keep S w w')(hn:¬S X):vK w' X x:=⟨hk.heap h.1 hn,h.2⟩
def zB.qm(h:zB w K l)(hk:Keep S w w')(hn:¬S K):zB w' K l:=⟨hk.heap h.1 hn,h.2⟩
def vK.count(h:vK w X x):w.cell? ⟨X,0,none⟩=some (.int .i64 x.count):=by rw[aO _ _ _ _ _ (0,0) h.1];rfl
def vK.side(h:vK w X x)(i:Nat)(hi:i<32):w.cell? ⟨X,2+i,none⟩=some (.bool (x.qx.getD i false)):=by rw[aO _ _ _ _ _ (0,0) h.1];exact yg x i (by rw[h.2];exact hi)
def vK.root(h:vK w X x):w.cell? ⟨X,34,none⟩=some (.string x.root):=by rw[aO _ _ _ _ _ (0,0) h.1,qG,aF,bT (by simp[h.2]),aN,aP,h.2];rfl
def vK.free(h:vK w X x)(i:Nat):w.frozen? ⟨X,i,none⟩=false:=bU h.1 i
def vK.zro(h:vK w X x)(i:Nat)(hi:i<32)(b:Bool):vK (w.setCell ⟨X,2+i,none⟩ (.bool b)) X { x with qx:=x.qx.set i b } :=by refine⟨?_,by simp[h.2]⟩;rw[qK h.1];obtain⟨c,e,sd,r⟩:=x;rw[GM c e sd r i b (by have:=h.2;simp only at this;omega)]
def vK.zrp(h:vK w X x)(s:af):vK (w.setCell ⟨X,34,none⟩ (.string s)) X { x with root:=s } :=by refine⟨?_,h.2⟩;rw[qK h.1,fJ,qG,iE _ _ (by simp[h.2]),aN,aP,h.2];rfl
def zB.cell(h:zB w K l)(i:Nat)(hi:i<32):w.cell? ⟨K,i,none⟩=some (.string (l.getD i ⟨#[]⟩)):=by rw[aO _ _ _ _ _ (0,0) h.1,aF,aX,aK (by rw[h.2];exact hi)];simp[aG,h.2,hi]
def zB.free(h:zB w K l)(i:Nat):w.frozen? ⟨K,i,none⟩=false:=bU h.1 i
def zB.set(h:zB w K l)(i:Nat)(s:af):zB (w.setCell ⟨K,i,none⟩ (.string s)) K (l.set i s):=by refine⟨?_,by simp[h.2]⟩;rw[qK h.1,fJ,kR]
def zB.strs(h:zB w K l):Strs w (.slice (some ⟨K,0,none⟩) 32 32) l:= .inr ⟨K,0,32,by rw[h.2],lt_of_heap h.1,λi hi=>by rw[eH];exact h.cell i (by rw[<-h.2];exact hi)⟩
end
def Ar(D S:Nat)(wv:ay)(X K:Nat):Nat->Prop:=λb=>xN D S wv b∨b=X∨b=K
structure Zc(w:ax)(B D C S:Nat)(V:qI)(wv:ay)(I VB EB X MB:Nat)(mo:Option Nat)(K:Nat)(o:Obj)(W:List (Nat×af))(x:uX):Prop where
 G9:qU w B D C V
 ids:∃p c,w.cell? ⟨I,0,none⟩=some (.slice p W.length c)∧vM w (.slice p W.length c) (W.map λp=>(p.1:Int))∧(∀b,(Value.slice p W.length c).ownBlock=some b->¬Ar D S wv X K b)
 v:w.cell? ⟨VB,0,none⟩=some (.pointer (some ⟨B,0,none⟩))
 qB:w.cell? ⟨EB,0,none⟩=some (.int .i64 x.qB)
 map:w.cell? ⟨MB,0,none⟩=some (.map mo)
 obj:MP mo o w
 look:∀w':ax,MP mo o w'->∀p∈W,(Instr.lookup 130 (.map mo) (.int .i64 (p.1:Int)) false).run prog w'= .ok (.string p.2) w'
 apart:∀b,b=B∨b=I∨b=VB∨b=EB∨b=MB∨mo=some b->¬Ar D S wv X K b
 zqO:∀b,xN D S wv b->b≠X∧b≠K
 xk:X≠K
 small:∀p∈W,p.1<32∧p.2.size<=200
def Zd(B VB X:Nat)(sec:af)(cx:Array ay)(w:ax):Prop:=w.cell? ⟨VB,0,none⟩=some (.pointer (some ⟨B,0,none⟩))∧w.cell? ⟨B,2,none⟩=some (.string sec)∧w.heap[X]? =some (.cells cx 66 (0,0))
def Uf(B D VB X:Nat)(rf:Int)(w:ax):Prop:=w.cell? ⟨VB,0,none⟩=some (.pointer (some ⟨B,0,none⟩))∧w.cell? ⟨B,0,none⟩=some (.pointer (some ⟨D,0,none⟩))∧w.cell? ⟨X,0,none⟩=some (.int .i64 rf)
def VK(B D VB X id:Nat)(b:Bool)(w:ax):Prop:=w.cell? ⟨VB,0,none⟩=some (.pointer (some ⟨B,0,none⟩))∧w.cell? ⟨B,0,none⟩=some (.pointer (some ⟨D,0,none⟩))∧w.cell? ⟨X,2+id,none⟩=some (.bool b)
def zm8(w w':ax)(D S:Nat)(wv:ay)(X K:Nat)(t:zcY)(e:Ending):Prop:=
 e= .returned (qY t.err)∧(∃zV,wY w' D S zV t.dev∧Gx w wv zV)∧(t.err=0->vK w' X t.x∧zB w' K t.marks)
def Gw(B D VB EB X MB:Nat)(mo:Option Nat)(sec:af)(ep rf:Int)(o:Obj)(w:ax):Prop:=
 w.cell? ⟨VB,0,none⟩=some (.pointer (some ⟨B,0,none⟩))∧w.cell? ⟨B,0,none⟩=some (.pointer (some ⟨D,0,none⟩))∧w.cell? ⟨B,2,none⟩=some (.string sec)∧w.cell? ⟨EB,0,none⟩=some (.int .i64 ep)∧w.cell? ⟨X,0,none⟩=some (.int .i64 rf)∧w.cell? ⟨MB,0,none⟩=some (.map mo)∧MP mo o w
def Zc.cls{w':ax}{S:Nat}{VB:Nat}{o:Obj}{y:uX}(h:Zc w B D C S V wv I VB EB X MB mo K o W x)(hk:Keep (Ar D S wv X K) w w')(hx:vK w' X y):Gw B D VB EB X MB mo V.secret x.qB y.count o w':=by have cl:∀(b i:Nat) (v:ay),(b=B∨b=I∨b=VB∨b=EB∨b=MB∨mo=some b)->w.cell? ⟨b,i,none⟩=some v->w'.cell? ⟨b,i,none⟩=some v:=λb i v hb hv=>(hk.cell (p:=⟨b,i,none⟩) (iK hv) (h.apart b hb)).t hv;exact⟨cl _ _ _ (by simp) h.v,cl _ _ _ (by simp) h.G9.dev,cl _ _ _ (by simp) h.G9.secret,cl _ _ _ (by simp) h.qB,hx.count,cl _ _ _ (by simp) h.map,h.obj.qm hk (λb hb=>h.apart b (by simp[hb]))⟩
def zl4{S:Nat}{VB:Nat}{o:Obj}{ms:List af}(h:Zc w B D C S V wv I VB EB X MB mo K o W x)(hd:wY w D S wv d)(hx:vK w X x)(hm:zB w K ms)(Jl:∀m∈ms,m.size=16)
  (hw:d.wait.length+W.length<900000) (hs:V.secret.size<=1000) (hv1:1<=x.count) (hv2:x.count<=1099511627776) (hWl:W.length<=1000) (R:rF w) (hR:¬Ar D S wv X K 4):
  ae 190 #[.pointer (some ⟨I,0,none⟩),.pointer (some ⟨VB,0,none⟩),.pointer (some ⟨EB,0,none⟩),.pointer (some ⟨X,0,none⟩),.pointer (some ⟨MB,0,none⟩),.pointer (some ⟨K,0,none⟩)] w λe w'=>zm8 w w' D S wv X K (zg V.secret x ms d W) e∧Keep (Ar D S wv X K) w w':=by
 obtain⟨pi,ci,hci,ztR,ztS⟩:=h.ids;obtain⟨n,hn⟩:=aj W.length;rw[<-hn]at hci ztR ztS hw hWl;obtain⟨rf,TC⟩:=aj x.count;obtain⟨ep,hep⟩:=aj x.qB;obtain⟨sec,yR⟩:=aj V.secret;obtain⟨key,zq⟩:=aj (CQ sec ep);have Tu:key.size=32:=by rw[zq];exact QK _ _
 have hka:∀W',Keep (Ar D S wv X K) w W'->ae 153 #[.string sec,.int .i64 ep] W' (au (.string key) W'):=by intro W' KW;rw[zq];exact zkU sec ep (by rw[yR];exact hs) W' (R.qm KW hR)
 have Hka:=ag hka;have Hn:=ag hn;have JX:=ag TC;have Hep:=ag hep;have ZA:=ag yR;have ziU:=ag zq;have HE:=ag h;have Hd:=ag hd;have Hx:=ag hx;have Hm:=ag hm;have Hms:=ag Jl;have HRw:=ag R;have HRn:=ag hR;have zA0:=ag ztR;have zA1:=ag ztS;have Hs:=ag hs;have zyf:1<=rf:=by rw[TC];exact hv1
 have zye:rf<=1099511627776:=by rw[TC];exact hv2
 clear hka hn TC hep yR zq h hd hx hm Jl R hR ztR ztS hs hv1 hv2;go_enter func190,ntmps190;go_wp2_with fail
 go_loopw [19] (λiv wr=>∃(k:Nat) (st:DK) (wvr:ay),iv= .int .i64 k∧k<=n∧Hid (wZ key rf (W.take k) ⟨x.qx,ms,d⟩=(st,true))∧Hid (wY wr D S wvr st.dev)∧Hid (Gx w wv wvr)∧Hid (vK wr X ⟨x.count,x.qB,st.qx,x.root⟩)∧Hid (zB wr K st.marks)∧Keep (Ar D S wv X K) w wr) (λiv _=>n-(intOf iv).toNat)
 case atStart=>exact⟨0,⟨x.qx,ms,d⟩,wv,rfl,by omega,ag rfl,ag Hd.o,ag (SX _ _),ag Hx.o,ag Hm.o,ah _ _⟩
 case round=>
  obtain⟨k,st,wvr,rfl,hk,yx,hdr,hmv,hxr,hmr,KR⟩:=hrel;obtain⟨wo,rfl⟩:=aj wr;by_cases rE:k<n
  ·have j1:(k:Int)<n:=by omega
   obtain⟨p,hp⟩:∃p,W[k]? =some p:=⟨_,aK (by have:=Hn.o;omega)⟩
   obtain⟨id,s⟩:=p;have TA:=HE.o.small _ (bG hp);have hN:=zA0.o;have hci2:wo.cell? ⟨I,0,none⟩=some (.slice pi n ci):=(KR.cell (p:=⟨I,0,none⟩) (iK hci) (HE.o.apart I (by simp))).t hci;have hNr:=hN.qm KR zA1.o;obtain⟨bi,oi,hpi,-,Rw,znr⟩:=hNr.at (by rw[aP];have:=Hn.o;omega);have zzT:wo.cell? ⟨bi,oi+k,none⟩=some (.int .i64 (id:Int)):=by rw[znr k (by rw[aP];have:=Hn.o;omega),aG,aX,hp];rfl
   subst hpi;have Hp:=ag hp;have Hsm:=ag TA;have TV:id<32:=TA.1;have jid:(id:Int)<32:=by omega
   clear znr hp TA hN hNr;have Ce:=HE.o.cls KR hxr.o;rw[<-ZA.o,<-Hep.o]at Ce;rw[show(uX.mk x.count x.qB st.qx x.root).count=rf from JX.o.s]at Ce;have L1:Gw B D VB EB X MB mo sec ep rf o wo:=Ce;have NS:=HE.o.look;have q1:∀y:wE (Gw B D VB EB X MB mo sec ep rf o),y.w.cell? ⟨VB,0,none⟩=some (.pointer (some ⟨B,0,none⟩)):=λy=>y.h.1;have q2:∀y:wE (Gw B D VB EB X MB mo sec ep rf o),y.w.cell? ⟨B,2,none⟩=some (.string sec):=λy=>y.h.2.2.1;have q3:∀y:wE (Gw B D VB EB X MB mo sec ep rf o),y.w.cell? ⟨EB,0,none⟩=some (.int .i64 ep):=λy=>y.h.2.2.2.1;have q4:∀y:wE (Gw B D VB EB X MB mo sec ep rf o),y.w.cell? ⟨X,0,none⟩=some (.int .i64 rf):=λy=>y.h.2.2.2.2.1;have q5:∀y:wE (Gw B D VB EB X MB mo sec ep rf o),y.w.cell? ⟨MB,0,none⟩=some (.map mo):=λy=>y.h.2.2.2.2.2.1;have q6:∀y:wE (Gw B D VB EB X MB mo sec ep rf o),(Instr.lookup 130 (.map mo) (.int .i64 (id:Int)) false).run prog y.w= .ok (.string s) y.w:=λy=>NS y.w y.h.2.2.2.2.2.2 (id,s) (bG Hp.o);have uw:∀(W':ax),ak wo W'->Gw B D VB EB X MB mo sec ep rf o W':=λW' KW=>by have h2:=HE.o.cls (KR.qo KW) (hxr.o.qm KW (λx=>x));rw[<-ZA.o,<-Hep.o]at h2;rw[show(uX.mk x.count x.qB st.qx x.root).count=rf from JX.o.s]at h2;exact h2
   have zkw:=ag uw;obtain⟨T4,OA⟩:=aj (IW key id rf s);have zsr:∀W',ak wo W'->ae 191 #[.string key,.int .i64 (id:Int),.int .i64 rf,.string s] W' (au (.tuple #[.string T4,.nilIface]) W'):=by intro W' KW;rw[OA];exact zrt key id rf s Tu (by omega) (by omega) zyf zye Hsm.o.2 W' (HRw.o.qm (KR.qo KW) HRn.o)
   have hT4s:T4.size=237:=by rw[OA];exact Nl _ _ _ _ Hsm.o.2
   have zs3:=ag zsr;have HT4:=ag OA;clear Ce NS uw zsr OA;go_wp2_with fail;refine qX (Gw B D VB EB X MB mo sec ep rf o) [(true,0),(true,1),(true,2),(true,3),(true,4),(true,6),(true,7),(true,8),(true,9),(true,10),(true,11),(false,5),(false,12),(true,13),(true,14),(true,15),(true,16),(false,17)] ?_;simp only[uy,qC,aF,aH,aI]
   repeat(refine qp (λK hK=> ?_);go_simp;(first|refine⟨_,λ_=>rfl,hK _ ?_⟩|refine hK _ ?_);clear hK K)
   clear q1 q2 q3 q4 q5 q6;refine⟨L1,?_⟩;go_wp2_with fail;refine(Hka.o _ KR.drew).m ?_;rintro e w2 ⟨rfl,K2⟩;have K02:ak wo w2:=(ah qw wo).drew.qo K2;go_wp2_with fail;refine⟨zkw.o _ K02,?_⟩;go_wp2_with fail;refine(zs3.o _ K02).m ?_;rintro e w3 ⟨rfl,K3⟩;have K03:=K02.qo K3;clear K2 K3 K02 L1;go_wp2_with fail
   repeat(refine qp (λK hK=> ?_);go_simp;(first|refine⟨_,λ_=>rfl,hK _ ?_⟩|refine hK _ ?_);clear hK K)
   refine⟨zkw.o _ K03,?_⟩;go_wp2_with fail;obtain⟨sd,IP⟩:=aj (st.qx.getD id false);have hXl:X<w.heap.size:=lt_of_heap Hx.o.1;have hKl:K<w.heap.size:=lt_of_heap Hm.o.1;have zga:∀b,xN D S wvr b->b≠X∧b≠K:=λb hb=>by
    by_cases rE:b<w.heap.size
    ·exact HE.o.zqO b (Dk hmv.o b rE hb)
    exact⟨λe=>by omega,λe=>by omega⟩
   have J4:=ag zga;clear zga;have Zo:=hdr.o.qm K03 (λ_ _ x=>x);have hx3:=hxr.o.qm K03 (λx=>x);have hm3:=hmr.o.qm K03 (λx=>x);have KR3:=KR.qo K03;have L3:=zkw.o _ K03;have s3:w3.cell? ⟨X,2+id,none⟩=some (.bool sd):=by rw[IP];exact hx3.side id TV
   have q1:∀y:wE (Gw B D VB EB X MB mo sec ep rf o),y.w.cell? ⟨X,0,none⟩=some (.int .i64 rf):=λy=>y.h.2.2.2.2.1;have q2:∀y:wE (Gw B D VB EB X MB mo sec ep rf o),y.w.cell? ⟨MB,0,none⟩=some (.map mo):=λy=>y.h.2.2.2.2.2.1;have q3:∀y:wE (Gw B D VB EB X MB mo sec ep rf o),(Instr.lookup 130 (.map mo) (.int .i64 (id:Int)) false).run prog y.w= .ok (.string s) y.w:=λy=>HE.o.look y.w y.h.2.2.2.2.2.2 (id,s) (bG Hp.o);have q4:∀y:wE (λW':ax=>W'.cell? ⟨X,2+id,none⟩=some (.bool sd)),y.w.cell? ⟨X,2+id,none⟩=some (.bool sd):=λy=>y.h;obtain⟨m1,YB⟩:=aj (uI id rf s);have EU:∀W',ak w3 W'->ae 93 #[.int .i64 (id:Int),.int .i64 rf,.string s] W' (au (.string m1) W'):=by intro W' KW;rw[YB];exact GN id rf s (by have:=Hsm.o.2;omega) W' (HRw.o.qm (KR3.qo KW) HRn.o)
   have Hmk:=ag EU;have Hm1:=ag YB;have Hsd:=ag IP;clear EU YB IP zs3 zkw K03;refine Iz 16 (Gw B D VB EB X MB mo sec ep rf o) (λW':ax=>W'.cell? ⟨X,2+id,none⟩=some (.bool sd)) [(2,0),(2,1),(2,2),(2,3),(2,4),(1,5),(2,6),(2,7),(2,8),(2,9),(2,10),(2,11),(2,12),(2,14),(2,15),(0,13),(0,16),(2,17),(0,18)] (by kernel_rfl) (by kernel_rfl) (λc a d v w h=>by cases d<;>exact h) ?_;simp only[EY,qC,aF,aH,aI]
   repeat(refine qp (λK hK=> ?_);go_simp;(first|refine⟨_,λ_=>rfl,hK _ ?_⟩|refine hK _ ?_);clear hK K)
   clear q1 q2 q3 q4;refine⟨L3,λ_=>s3,?_⟩;go_wp2_with fail;refine(Hmk.o _ (ah _ _).drew).m ?_;rintro e w4 ⟨rfl,K4⟩;have K34:ak w3 w4:=(ah qw w3).drew.qo K4;have hd4:=Zo.qm K34 (λ_ _ x=>x);have hx4:=hx3.qm K34 (λx=>x);have hm4:=hm3.qm K34 (λx=>x);have KR4:=KR3.qo K34;have s4:w4.cell? ⟨X,2+id,none⟩=some (.bool sd):=(K34.cell (p:=⟨X,2+id,none⟩) (lt_of_heap hx3.1) (λx=>x)).t s3;have f4:=hx4.free (2+id);have L4:Gw B D VB EB X MB mo sec ep rf o w4:=by have h2:=HE.o.cls KR4 hx4;rw[<-ZA.o,<-Hep.o]at h2;rw[show(uX.mk x.count x.qB st.qx x.root).count=rf from JX.o.s]at h2;exact h2
   clear K4 K34 L3 s3 hx3 hm3 KR3;go_wp2_with fail;refine⟨L4,λ_=>s4,?_⟩;simp only[qC,aF,aH,aI];go_wp2_with fail;have hx5:=hx4.zro id TV (!sd);have K5:Keep (qJ X) w4 (w4.setCell ⟨X,2+id,none⟩ (.bool (!sd))):=(ah (qJ X) w4).tK (2+id) _;have hd5:=hd4.qm K5 (λb hb e=>(J4.o b hb).1 e);have Xe:=hm4.qm K5 (λe=>HE.o.xk (Eq.s e));have KR5:Keep (Ar D S wv X K) w (w4.setCell ⟨X,2+id,none⟩ (.bool (!sd))):=KR4.t K5 (λi _ hs=> .inr (.inl hs));obtain⟨w5,hw5⟩:=aj (w4.setCell ⟨X,2+id,none⟩ (.bool (!sd)));rw[<-hw5]at hd5 hx5 Xe KR5 K5⊢;have L5:Gw B D VB EB X MB mo sec ep rf o w5:=by have h2:=HE.o.cls KR5 hx5;rw[<-ZA.o,<-Hep.o]at h2;rw[show(uX.mk x.count x.qB (st.qx.set id (!sd)) x.root).count=rf from JX.o.s]at h2;exact h2
   have cm:=Xe.cell id TV;have fm:=Xe.free id;clear hw5 L4 s4 f4 hx4 hm4 KR4 K5;simp only[EY,qC,aF,aH,aI]
   repeat(refine qp (λK hK=> ?_);go_simp;(first|refine⟨_,λ_=>rfl,hK _ ?_⟩|refine hK _ ?_);clear hK K)
   refine⟨L5,λh=>(by cases h),?_⟩;go_wp2_with fail;have hm6:=Xe.set id m1;have K6:Keep (qJ K) w5 (w5.setCell ⟨K,id,none⟩ (.string m1)):=(ah (qJ K) w5).tK id _;have hd6:=hd5.qm K6 (λb hb e=>(J4.o b hb).2 e);have hx6:=hx5.qm K6 (λe=>HE.o.xk e);have KR6:Keep (Ar D S wv X K) w (w5.setCell ⟨K,id,none⟩ (.string m1)):=KR5.t K6 (λi _ hs=> .inr (.inr hs));obtain⟨w6,hw6⟩:=aj (w5.setCell ⟨K,id,none⟩ (.string m1));rw[<-hw6]at hd6 hx6 hm6 KR6⊢;clear hw6 cm fm L5 hx5 Xe KR5 K6 hd5 hd4 Zo;have hc8:∀W' x',Keep (Ar D S wv X K) w W'->vK W' X x'->x'.qx.getD id false=(!sd)->VK B D VB X id (!sd) W':=λW' x' KW hx' hs'=>by have h2:=HE.o.cls KW hx';exact⟨h2.1,h2.2.1,by rw[<-hs'];exact hx'.side id TV⟩
   have ztz:(st.qx.set id (!sd)).getD id false=(!sd):=by
    have:id<st.qx.length:=by have:=hxr.o.2;simp only at this;omega
    rw[aG,mG this];rfl
   have L6:VK B D VB X id (!sd) w6:=hc8 w6 _ KR6 hx6 ztz;have Hc8:=ag hc8;have zxx:=ag ztz;have q1:∀y:wE (VK B D VB X id (!sd)),y.w.cell? ⟨VB,0,none⟩=some (.pointer (some ⟨B,0,none⟩)):=λy=>y.h.1;have q2:∀y:wE (VK B D VB X id (!sd)),y.w.cell? ⟨B,0,none⟩=some (.pointer (some ⟨D,0,none⟩)):=λy=>y.h.2.1;have q3:∀y:wE (VK B D VB X id (!sd)),y.w.cell? ⟨X,2+id,none⟩=some (.bool (!sd)):=λy=>y.h.2.2;have LP:=λ(W':ax)=>P5 id (!sd) TV W';obtain⟨q,hq⟩:=aj (vI id (!sd));have ziD:q<66:=by rw[hq];exact Ff TV _
   rw[<-hq]at LP;have Hpl:=ag LP;have Hq:=ag hq;have hwl:st.dev.wait.length<1000000:=by have h1:=XC (key:=key) (rf:=rf) (W.take k) ⟨x.qx,ms,d⟩;rw[yx.o,dJ]at h1;simp only at h1;omega
   have HXl:=ag hXl;have HKl:=ag hKl;clear hc8 ztz LP hq hXl hKl;refine qX (VK B D VB X id (!sd)) [(true,0),(true,1),(true,2),(true,3),(true,4),(true,5),(true,6),(true,7),(true,8),(true,10),(false,9),(false,11),(false,12)] ?_;simp only[uy,qC,aF,aH,aI]
   repeat(refine qp (λK hK=> ?_);go_simp;(first|refine⟨_,λ_=>rfl,hK _ ?_⟩|refine hK _ ?_);clear hK K)
   clear q1 q2 q3;refine⟨L6,?_⟩;go_wp2_with fail;refine(Hpl.o _).m ?_;rintro e w7 ⟨rfl,hw7⟩;subst hw7;go_wp2_with fail;refine⟨L6,?_⟩;by_cases hfu:st.dev.qR=0
   ·have Gn:=Yi (hd6.qm (ah qw w6).drew (λ_ _ x=>x)) q T4 ziD (by omega) hfu;have Hwr:=ag Gn;clear Gn;go_wp2_with fail;refine Hwr.o.m ?_;rintro e w8 ⟨rfl,hd8,K8⟩;have KR8:Keep (Ar D S wv X K) w w8:=KR6.drew.t K8 (λi hi hs=> .inl (Dk hmv.o i hi hs));have hx8:=hx6.qm ((ah (xN D S wvr) w6).drew.then K8) (λe=>(J4.o X e).1 rfl);have hm8:=hm6.qm ((ah (xN D S wvr) w6).drew.then K8) (λe=>(J4.o K e).2 rfl);have L8:=Hc8.o w8 _ KR8 hx8 zxx.o;clear Hwr L6;go_wp2_with fail;refine⟨L8,?_⟩;go_wp2_with fail;go_ret;refine⟨?_,KR8⟩;have znN:wZ (CQ V.secret x.qB) x.count W ⟨x.qx,ms,d⟩=(st,false):=by
     have h:=zhn yx.o Hp.o hfu;rw[ziU.o,ZA.o,Hep.o,JX.o]at h;exact h
    rw[XD znN];exact⟨rfl,⟨wvr,hd8,hmv.o⟩,λh=>by cases h⟩
   have Gn:=U2 (hd6.qm (ah qw w6).drew (λ_ _ x=>x)) q T4 ziD (by omega) hfu hwl;have Hwr:=ag Gn;clear Gn;go_wp2_with fail;refine Hwr.o.m ?_;rintro e w8 ⟨rfl,⟨wv8,hd8,hM8⟩,K8⟩;have KR8:Keep (Ar D S wv X K) w w8:=KR6.drew.t K8 (λi hi hs=> .inl (Dk hmv.o i hi hs));have hx8:=hx6.qm ((ah (xN D S wvr) w6).drew.then K8) (λe=>(J4.o X e).1 rfl);have hm8:=hm6.qm ((ah (xN D S wvr) w6).drew.then K8) (λe=>(J4.o K e).2 rfl);have L8:=Hc8.o w8 _ KR8 hx8 zxx.o;clear Hwr L6;go_wp2_with fail;refine⟨L8,?_⟩;go_wp2_with fail;have wJ:=WV yx.o Hp.o hfu;refine⟨⟨k+1,_,wv8,by go_num,by omega,ag wJ,ag ?_,ag (Jg hmv.o hM8 (KR6.size)),ag ?_,ag ?_,KR8⟩,by simp[intOf];omega⟩
   ·have e:(yX key rf st (id,s)).dev=st.dev.put q T4:=by rw[yX,Hq.o,HT4.o,<-Hsd.o]
    rw[e];exact hd8
   ·have e:(yX key rf st (id,s)).qx=st.qx.set id (!sd):=by rw[yX,<-Hsd.o]
    rw[e];exact hx8
   have e:(yX key rf st (id,s)).marks=st.marks.set id m1:=by rw[yX,Hm1.o]
   rw[e];exact hm8
  obtain rfl:k=n:=by omega
  have j1:¬((k:Int)<(k:Int)):=by omega
  have hT:wZ (CQ V.secret x.qB) x.count W ⟨x.qx,ms,d⟩=(st,true):=by have h:=yx.o;rw[bg (by have:=Hn.o;omega),ziU.o,ZA.o,Hep.o,JX.o]at h;exact h
  have zsz:∀m∈st.marks,m.size=16:=by have h:=P6 (key:=CQ V.secret x.qB) (rf:=x.count) W ⟨x.qx,ms,d⟩ Hms.o;rw[hT]at h;exact h
  have HT:=ag hT;have zyX:=ag zsz;have hXl:X<w.heap.size:=lt_of_heap Hx.o.1;have hKl:K<w.heap.size:=lt_of_heap Hm.o.1;have zga:∀b,xN D S wvr b->b≠X∧b≠K:=λb hb=>by
   by_cases rE:b<w.heap.size
   ·exact HE.o.zqO b (Dk hmv.o b rE hb)
   exact⟨λe=>by omega,λe=>by omega⟩
  have J4:=ag zga;have Ce:=HE.o.cls KR hxr.o;have a1:=Ce.1;have a2:=Ce.2.1;have HXl:=ag hXl;have HKl:=ag hKl;clear hT zsz zga Ce hXl hKl rE;by_cases hf1:st.dev.qR=0
  ·have hsy:=zbu hdr.o hf1;have Hsy:=ag hsy;clear hsy;go_wp2_with fail;refine Hsy.o.m ?_;rintro e w2 ⟨rfl,FK,K2⟩;have KR2:Keep (Ar D S wv X K) w w2:=KR.t K2 (λi hi hs=> .inl (Dk hmv.o i hi hs));go_wp2_with fail;go_ret;refine⟨?_,KR2⟩;rw[zgA HT.o hf1];exact⟨rfl,⟨wvr,FK,hmv.o⟩,λh=>by cases h⟩
  have hsy:=Yj hdr.o hf1;have Hsy:=ag hsy;clear hsy;go_wp2_with fail;refine Hsy.o.m ?_;rintro e w2 ⟨rfl,FK,K2⟩;have KR2:Keep (Ar D S wv X K) w w2:=KR.t K2 (λi hi hs=> .inl (Dk hmv.o i hi hs));have Vf:=hxr.o.qm K2 (λe=>(J4.o X e).1 rfl);have YA:=hmr.o.qm K2 (λe=>(J4.o K e).2 rfl);have hM2:Gx w wv (.slice none 0 0):= .inr (λb hb=>by cases hb);have Gt:=UE (some ⟨K,0,none⟩) 32 32 st.marks w2 (HRw.o.qm KR2 HRn.o) YA.strs (aS _) (by have:=YA.2;omega);have hE:NW st.marks=0:=by rw[NW,bu (y8.2 ⟨YA.2,zyX.o⟩)]
  rw[hE]at Gt;obtain⟨rt,hrt⟩:=aj (vS st.marks);rw[<-hrt]at Gt;have ZU:ae 157 #[.slice (some ⟨K,0,none⟩) 32 32] w2 (au (.tuple #[.string rt,.nilIface]) w2):=Gt;have zc1:=ag ZU;have Hrt:=ag hrt;have Hd2:=ag FK;have Hf1:=ag hf1;clear Gt ZU hE hrt FK hf1 Hsy K2 hdr yx;go_wp2_with fail;refine zc1.o.m ?_;rintro e w3 ⟨rfl,K3⟩;have hx3:=Vf.qm K3 (λx=>x);have hm3:=YA.qm K3 (λx=>x);have Zo:=Hd2.o.qm K3 (λ_ _ x=>x);have KR3:=KR2.qo K3;have cr:=hx3.root;have fr:=hx3.free 34;simp only at cr;clear Vf YA KR2 K3 Hd2 zc1;go_wp2_with fail;have hx4:=hx3.zrp rt;have K4:Keep (qJ X) w3 (w3.setCell ⟨X,34,none⟩ (.string rt)):=(ah (qJ X) w3).tK 34 _;have hm4:=hm3.qm K4 (λe=>HE.o.xk (Eq.s e));have hd4:=Zo.qm K4 (λb hb e=>by
   rcases hb with hb|hb|hb
   ·exact(J4.o b (.inl hb)).1 e
   ·exact(J4.o b (.inr (.inl hb))).1 e
   cases hb)
  have KR4:Keep (Ar D S wv X K) w (w3.setCell ⟨X,34,none⟩ (.string rt)):=KR3.t K4 (λi _ hs=> .inr (.inl hs));obtain⟨w4,LC⟩:=aj (w3.setCell ⟨X,34,none⟩ (.string rt));rw[<-LC]at hx4 hm4 hd4 KR4⊢;clear LC cr fr hx3 hm3 Zo KR3 K4;obtain⟨x1,Qd⟩:∃y:uX,y=⟨x.count,x.qB,st.qx,rt⟩:=⟨_,rfl⟩
  have znb:vK w4 X x1:=by rw[Qd];exact hx4
  have zvJ:x1.count=rf:=by rw[Qd];exact JX.o.s
  have zto:x1.qx.length=32:=znb.2;obtain⟨cx,Ru⟩:=aj ((qG x1).toArray);have hXr:w4.heap[X]? =some (.cells cx 66 (0,0)):=by rw[Ru];exact znb.1
  have zlp:cx.size=35:=by rw[Ru,bZ,uk x1 zto]
  have QP:(prog.info? 66).map (·.size)=some cx.size:=by rw[zlp];exact sK
  have hsv:tH x1= .agg cx:=by rw[Ru];rfl
  have h19:∀W',ak w4 W'->Zd B VB X sec cx W':=λW' KW=>by have h2:=HE.o.cls (KR4.qo KW) (znb.qm KW (λx=>x));exact⟨h2.1,by rw[ZA.o];exact h2.2.2.1,KW.heap hXr (λx=>x)⟩
  have L19:=h19 w4 (ah _ _);obtain⟨M,hM⟩:=aj (uu (mark 115 [bs sec]));have bM:bs M=mark 115 [bs sec]:=by rw[hM,rM (uN _ _)]
  obtain⟨sk,hsk⟩:=aj (vV sec);have EU:=λ(W':ax) (KW:ak w4 W')=>Ep 115 (by decide) (.slice (some ⟨W'.heap.size,0,none⟩) 1 1) [sec] (W'.alloc (.cells #[.string sec] 9)) (HRw.o.qm (KR4.qo (KW.alloc _)) HRn.o) (Strs.lit (w:=W') [sec]) (by simp only[bH,dh,rG,dY,iw,aN,bf,cZ,xU,ry];have:=Hs.o;rw[<-ZA.o]at this;omega) (by simp);have zwd:uu (mark 115 ([sec].map bs))=M:=by rw[hM];rfl
  rw[zwd]at EU;have zb4:=λ(W':ax) (KW:ak w4 W')=>Y3 M (by rw[hM,rH,Dh];omega) W' (HRw.o.qm (KR4.qo KW) HRn.o);have zso:uu (sha (bs M))=sk:=by rw[bM,hsk];rfl
  rw[zso]at zb4;have Gn:=λ(W':ax) (KW:ak w4 W')=>UG sk x1 zto W' (HRw.o.qm (KR4.qo KW) HRn.o);rw[hsv]at Gn;have Hmk:=ag EU;have zxu:=ag zb4;have Hwr:=ag Gn;have H19:=ag h19;have Gf:=ag QP;have Hx1:=ag Qd;have Hsk:=ag hsk;have Hx4:=ag znb;have Hd4:=ag hd4;have Hm4:=ag hm4;have zAx:=ag zvJ;have q1:∀y:wE (Zd B VB X sec cx),y.w.cell? ⟨VB,0,none⟩=some (.pointer (some ⟨B,0,none⟩)):=λy=>y.h.1;have q2:∀y:wE (Zd B VB X sec cx),y.w.cell? ⟨B,2,none⟩=some (.string sec):=λy=>y.h.2.1;clear EU zb4 Gn h19 QP Qd hsk znb hx4 hd4 hm4 zwd zso bM hM hsv Ru zto hXr zvJ;refine qX (Zd B VB X sec cx) [(true,0),(true,1),(true,2),(true,3),(true,7),(false,4),(false,5),(false,6),(false,8),(true,9),(true,10),(true,11),(true,12),(false,13)] ?_;simp only[uy,qC,aF,aH,aI]
  iterate 4 (refine qp (λK hK=> ?_);go_simp;(first|refine⟨_,λ_=>rfl,hK _ ?_⟩|refine hK _ ?_);clear hK K)
  refine rO (by rfl) 66 (.tmp 3) rfl X 0 rfl 66 cx (0,0) cx _ (λy=>y.h.2.2) (λj v hv=>by rw[eH];exact hv) dM rfl Gf.o ?_;refine tY ?_;clear q1 q2;refine⟨L19,?_⟩;go_wp2_with fail;refine⟨H19.o _ ((ah qw w4).alloc _).drew,?_⟩;go_wp2_with fail;refine(Hmk.o w4.drew (ah qw w4).drew).m ?_;rintro e w5 ⟨rfl,K5⟩;have K45:ak w4 w5:=((ah qw w4).drew.alloc _).qo K5;go_wp2_with fail;refine⟨H19.o _ K45,?_⟩;go_wp2_with fail;refine(zxu.o _ K45).m ?_;rintro e w6 ⟨rfl,K6⟩;have Vm:=K45.qo K6;go_wp2_with fail;refine⟨H19.o _ Vm,?_⟩;go_wp2_with fail;refine(Hwr.o _ Vm).m ?_;rintro e w7 ⟨rfl,K7⟩;have K47:=Vm.qo K7;clear K5 K45 K6 Vm K7 Hmk zxu Hwr L19;go_wp2_with fail
  repeat(refine qp (λK hK=> ?_);go_simp;(first|refine⟨_,λ_=>rfl,hK _ ?_⟩|refine hK _ ?_);clear hK K)
  refine⟨H19.o _ K47,?_⟩;have hx7:=Hx4.o.qm K47 (λx=>x);have hm7:=Hm4.o.qm K47 (λx=>x);have hd7:=Hd4.o.qm K47 (λ_ _ x=>x);have KR7:=KR4.qo K47;have hxe:(⟨x.count,x.qB,st.qx,vS st.marks⟩:uX)=x1:=by rw[Hx1.o,Hrt.o]
  have zqv:vV V.secret=sk:=by rw[Hsk.o,ZA.o]
  clear K47 KR4 H19;by_cases YD:uV sk x1=true
  ·have he:qY (RF sk x1)= .nilIface:=by rw[RF,bu YD];rfl
   rw[he];obtain⟨SW,hSW⟩:=aj (Cf sk x1);have zwO:SW.size<=256:=by rw[hSW,QA hx7.2 YD];omega
   rw[<-hSW];have HSW:=ag hSW;have zAU:=ag YD;have Hxe:=ag hxe;have zxw:=ag zqv;clear he hSW YD hxe zqv;go_wp2_with fail;obtain⟨q2,NR⟩:=aj ((rf % 2).toNat);have ziD:q2<66:=by rw[NR];omega
   have zlf:rf % 2=(q2:Int):=by rw[NR];omega
   have zyn:Int.tmod rf 2=(q2:Int):=by rw[Int.tmod_eq_emod_of_nonneg (by omega)];exact zlf
   have Hq2:=ag NR;clear NR;have h22:∀W',Keep (Ar D S wv X K) w W'->vK W' X x1->Uf B D VB X rf W':=λW' KW hx'=>by have h2:=HE.o.cls KW hx';exact⟨h2.1,h2.2.1,by rw[<-zAx.o];exact h2.2.2.2.2.1⟩
   have L22:=h22 w7 KR7 hx7;have H22:=ag h22;have p1:∀y:wE (Uf B D VB X rf),y.w.cell? ⟨VB,0,none⟩=some (.pointer (some ⟨B,0,none⟩)):=λy=>y.h.1;have p2:∀y:wE (Uf B D VB X rf),y.w.cell? ⟨B,0,none⟩=some (.pointer (some ⟨D,0,none⟩)):=λy=>y.h.2.1;have p3:∀y:wE (Uf B D VB X rf),y.w.cell? ⟨X,0,none⟩=some (.int .i64 rf):=λy=>y.h.2.2;clear h22;have hdn:∀b,xN D S (.slice none 0 0) b->b≠X∧b≠K:=λb hb=>by
    rcases hb with hb|hb|hb
    ·exact J4.o b (.inl hb)
    ·exact J4.o b (.inr (.inl hb))
    cases hb
   have zsJ:∀i,i<w.heap.size->xN D S (.slice none 0 0) i->xN D S wv i:=Dk hM2;have Hdn:=ag hdn;have zs9:=ag zsJ;clear hdn zsJ;refine qX (Uf B D VB X rf) [(true,0),(true,1),(true,2),(true,3),(true,4),(true,5),(true,6),(true,7),(false,8),(false,9)] ?_;simp only[uy,qC,aF,aH,aI]
   repeat(refine qp (λK hK=> ?_);go_simp;(first|refine⟨_,λ_=>rfl,hK _ ?_⟩|refine hK _ ?_);clear hK K)
   clear p1 p2 p3 zlf zyn;refine⟨L22,?_⟩;have zvH:Cf (vV V.secret) ⟨x.count,x.qB,st.qx,vS st.marks⟩=SW:=by rw[Hxe.o,zxw.o,HSW.o]
   have hcq:(x.count % 2).toNat=q2:=by rw[Hq2.o,JX.o]
   have zqS:=ag zvH;have Hcq:=ag hcq;clear zvH hcq;have zsA:uV (vV V.secret) ⟨x.count,x.qB,st.qx,vS st.marks⟩=true:=by rw[Hxe.o,zxw.o];exact zAU.o
   have zoc:=ag zsA;clear zsA;by_cases hf2:st.dev.sync.qR=0
   ·have Gn:=Yi (hd7.qm (ah qw w7).drew (λ_ _ x=>x)) q2 SW ziD zwO hf2;have Hwr:=ag Gn;have NQ:=zgz HT.o Hf1.o zoc.o hf2;have Htl:=ag NQ;clear Gn NQ hf2;go_wp2_with fail;refine Hwr.o.m ?_;rintro e w8 ⟨rfl,hd8,K8⟩;have KR8:Keep (Ar D S wv X K) w w8:=KR7.drew.t K8 (λi hi hs=> .inl (zs9.o i hi hs));have hx8:=hx7.qm ((ah _ w7).drew.then K8) (λe=>(Hdn.o X e).1 rfl);go_wp2_with fail;refine⟨H22.o w8 KR8 hx8,?_⟩;go_wp2_with fail;go_ret;refine⟨?_,KR8⟩;rw[Htl.o];exact⟨rfl,⟨_,hd8,hM2⟩,λh=>by cases h⟩
   have hwl:st.dev.sync.wait.length<1000000:=by show([]:List (Nat×af)).length<_;simp
   have Gn:=U2 (hd7.qm (ah qw w7).drew (λ_ _ x=>x)) q2 SW ziD zwO hf2 hwl;have Hwr:=ag Gn;have Hf2:=ag hf2;clear Gn hf2 hwl;go_wp2_with fail;refine Hwr.o.m ?_;rintro e w8 ⟨rfl,⟨wv8,hd8,hM8⟩,K8⟩;have KR8:Keep (Ar D S wv X K) w w8:=KR7.drew.t K8 (λi hi hs=> .inl (zs9.o i hi hs));have hx8:=hx7.qm ((ah _ w7).drew.then K8) (λe=>(Hdn.o X e).1 rfl);have hm8:=hm7.qm ((ah _ w7).drew.then K8) (λe=>(Hdn.o K e).2 rfl);have zqL:=Jg hM2 hM8 KR7.size;have L8:=H22.o w8 KR8 hx8;go_wp2_with fail;refine⟨L8,?_⟩;have b1:=L8.1;have b2:=L8.2.1;by_cases hf3:(st.dev.sync.put q2 SW).qR=0
   ·have hsy:=zbu hd8 hf3;have NQ:=zgy HT.o Hf1.o zoc.o Hf2.o (by rw[zqS.o,Hcq.o];exact hf3);rw[zqS.o,Hcq.o]at NQ;have Hsy:=ag hsy;have Htl:=ag NQ;clear hsy NQ hf3;go_wp2_with fail;refine Hsy.o.m ?_;rintro e w9 ⟨rfl,hd9,K9⟩;have KR9:Keep (Ar D S wv X K) w w9:=KR8.t K9 (λi hi hs=> .inl (Dk zqL i hi hs));go_wp2_with fail;go_ret;refine⟨?_,KR9⟩;rw[Htl.o];exact⟨rfl,⟨_,hd9,zqL⟩,λh=>by cases h⟩
   have hsy:=Yj hd8 hf3;have NQ:=zgx HT.o Hf1.o zoc.o Hf2.o (by rw[zqS.o,Hcq.o];exact hf3);rw[zqS.o,Hcq.o]at NQ;have Hsy:=ag hsy;have Htl:=ag NQ;clear hsy NQ hf3;go_wp2_with fail;refine Hsy.o.m ?_;rintro e w9 ⟨rfl,hd9,K9⟩;have KR9:Keep (Ar D S wv X K) w w9:=KR8.t K9 (λi hi hs=> .inl (Dk zqL i hi hs));have ztV:∀b,xN D S wv8 b->b≠X∧b≠K:=λb hb=>by
    by_cases rE:b<w.heap.size
    ·exact HE.o.zqO b (Dk zqL b rE hb)
    ·exact⟨λe=>by have:=HXl.o;omega,λe=>by have:=HKl.o;omega⟩
   have hx9:=hx8.qm K9 (λe=>(ztV X e).1 rfl);have hm9:=hm8.qm K9 (λe=>(ztV K e).2 rfl);have Hx9:=ag hx9;have Hm9:=ag hm9;clear hx9 hm9 ztV;go_wp2_with fail;go_ret;refine⟨?_,KR9⟩;rw[Htl.o];refine⟨rfl,⟨_,hd9,.inr (λb hb=>by cases hb)⟩,λ_=>⟨?_,Hm9.o⟩⟩;rw[Hxe.o];exact Hx9.o
  have hmf:uV sk x1=false:=by simpa using YD
  have he:qY (RF sk x1)= .iface 34 (.int .i64 1):=by rw[RF,aV YD];rfl
  rw[he];have NQ:=zo9 HT.o Hf1.o (by rw[hxe,zqv];exact hmf);have Htl:=ag NQ;clear he hmf YD NQ hxe zqv;go_wp2_with fail;go_ret;refine⟨?_,KR7⟩;rw[Htl.o];exact⟨rfl,⟨_,hd7,hM2⟩,λh=>by cases h⟩
def RG(b:Nat):ay:= .pointer (some ⟨b,0,none⟩)
def rP(RB D C:Nat)(V:qI)(sn:List Int):List ay:= [RG RB,RG D,RG C,.string V.secret]++qG V.now++V.texts.map Value.string++sn.map (Value.int .i64)++ [Value.bool V.dead]
structure Fa(V:qI)(sn:List Int):Prop where
 qx:V.now.qx.length=32
 texts:V.texts.length=32
 since:sn.length=32
def marksOf(sn:List Int)(texts:List af):List af:=(List.range 32).map λ(i:Nat)=>uI (i:Int) (sn.getD i 0) (texts.getD i ⟨#[]⟩)
def Jh(sn:List Int)(texts:List af):(marksOf sn texts).length=32:=by simp[marksOf]
def zba(sn:List Int)(texts:List af)(i:Nat)(hi:i<32):(marksOf sn texts).getD i ⟨#[]⟩=uI (i:Int) (sn.getD i 0) (texts.getD i ⟨#[]⟩):=by simp[marksOf,aG,hi]
section
variable {RB D C:Nat}{V:qI}{sn:List Int}
def zkG(h:Fa V sn):([RG RB,RG D,RG C,.string V.secret]++qG V.now).length=39:=by simp only[aN,rW h.qx,bf,cZ]
def zuP(h:Fa V sn)(i:Nat)(hi:i<35):(rP RB D C V sn)[4+i]? =(qG V.now)[i]? :=by rw[rP,bC,bC,Qv _ _ _ 4 i rfl (by rw[rW h.qx];exact hi)]
def zkF(h:Fa V sn)(i:Nat)(hi:i<32):(rP RB D C V sn)[39+i]? =some (.string (V.texts.getD i ⟨#[]⟩)):=by rw[rP,bC,Qv _ _ _ 39 i (zkG h) (by rw[aP,h.texts];exact hi),aX,aK (by rw[h.texts];exact hi)];simp[aG,h.texts,hi]
def zpn(h:Fa V sn)(i:Nat)(hi:i<32):(rP RB D C V sn)[71+i]? =some (.int .i64 (sn.getD i 0)):=by rw[rP,Qv _ _ _ 71 i (by simp only[aN,aP,rW h.qx,h.texts,bf,cZ]) (by rw[aP,h.since];exact hi),aX,aK (by rw[h.since];exact hi)];simp[aG,h.since,hi]
def zru(h:Fa V sn):(rP RB D C V sn)[103]? =some (.bool V.dead):=by rw[rP,bT (by simp only[aN,aP,rW h.qx,h.texts,h.since,bf,cZ];omega)];simp only[aN,aP,rW h.qx,h.texts,h.since,bf,cZ];rfl
def Jd(h:Fa V sn):(rP RB D C V sn).length=104:=by simp only[rP,aN,aP,rW h.qx,h.texts,h.since,bf,cZ]
def zal{A B Cc:List ay}(B':List ay)(n:Nat)(hA:A.length=n)(hB:B'.length=B.length):vU (A++B++Cc).toArray n B'.toArray=(A++B'++Cc).toArray:=by
 rw[vU,bZ]
 congr 1
 show List.take n (A++B++Cc)++B'++List.drop (n+B'.length) (A++B++Cc)=_;have h1:List.take n (A++B++Cc)=A:=by rw[bC];exact gZ hA
 have h2:List.drop (n+B'.length) (A++B++Cc)=Cc:=jl (by rw[aN,hA,hB]);rw[h1,h2]
def zmf(h:Fa V sn)(hx:x.qx.length=32):vU (rP RB D C V sn).toArray 4 (qG x).toArray=(rP RB D C { V with now:=x } sn).toArray:=by
 have e:rP RB D C V sn= [RG RB,RG D,RG C,.string V.secret]++qG V.now++(V.texts.map Value.string++sn.map (Value.int .i64)++ [Value.bool V.dead]):=by simp only[rP,bC]
 rw[e,zal (qG x) 4 rfl (by rw[rW hx,rW h.qx])];simp only[rP,bC]
def zhD(h:Fa V sn){l:List af}(hl:l.length=32):vU (rP RB D C V sn).toArray 39 (l.map Value.string).toArray=(rP RB D C { V with texts:=l } sn).toArray:=by
 have e:rP RB D C V sn=([RG RB,RG D,RG C,.string V.secret]++qG V.now)++V.texts.map Value.string++(sn.map (Value.int .i64)++ [Value.bool V.dead]):=by simp only[rP,bC]
 rw[e,zal (l.map Value.string) 39 (zkG h) (by rw[aP,aP,hl,h.texts])];simp only[rP,bC]
def zhE(h:Fa V sn){l:List Int}(hl:l.length=32):vU (rP RB D C V sn).toArray 71 (l.map (Value.int .i64)).toArray=(rP RB D C V l).toArray:=by
 have e:rP RB D C V sn=([RG RB,RG D,RG C,.string V.secret]++qG V.now++V.texts.map Value.string)++sn.map (Value.int .i64)++ [Value.bool V.dead]:=by simp only[rP]
 rw[e,zal (l.map (Value.int .i64)) 71 (by simp only[aN,aP,rW h.qx,h.texts,bf,cZ]) (by rw[aP,aP,hl,h.since])];simp only[rP]
def zeD(l:List Int):(l.map (Value.int .i64)).toArray.all (·.oneCell')=true:=by rw[lU];intro v hv;obtain⟨s,_,rfl⟩:=bY.1 (by simpa using hv);rfl
end
structure uS(w:ax)(B RB D C:Nat)(V:qI)(sn:List Int):Prop where
 row:w.heap[B]? =some (.cells (rP RB D C V sn).toArray 70 (0,0))
 lens:Fa V sn
section
variable {w w':ax}{B RB D C:Nat}{V:qI}{sn:List Int}
def uS.lt(h:uS w B RB D C V sn):B<w.heap.size:=lt_of_heap h.row
def uS.qm(h:uS w B RB D C V sn)(hk:Keep S w w')(hn:¬S B):uS w' B RB D C V sn:=⟨hk.heap h.row hn,h.lens⟩
def uS.cell(h:uS w B RB D C V sn)(i:Nat)(hv:(rP RB D C V sn)[i]? =some v):w.cell? ⟨B,i,none⟩=some v:=by rw[aO _ _ i _ _ (0,0) h.row];simpa using hv
def uS.yK(h:uS w B RB D C V sn):w.cell? ⟨B,0,none⟩=some (.pointer (some ⟨RB,0,none⟩)):=h.cell 0 rfl
def uS.dev(h:uS w B RB D C V sn):w.cell? ⟨B,1,none⟩=some (.pointer (some ⟨D,0,none⟩)):=h.cell 1 rfl
def uS.Ea(h:uS w B RB D C V sn):w.cell? ⟨B,2,none⟩=some (.pointer (some ⟨C,0,none⟩)):=h.cell 2 rfl
def uS.secret(h:uS w B RB D C V sn):w.cell? ⟨B,3,none⟩=some (.string V.secret):=h.cell 3 rfl
def uS.count(h:uS w B RB D C V sn):w.cell? ⟨B,4,none⟩=some (.int .i64 V.now.count):=h.cell 4 rfl
def uS.qB(h:uS w B RB D C V sn):w.cell? ⟨B,5,none⟩=some (.int .i64 V.now.qB):=h.cell 5 rfl
def uS.text(h:uS w B RB D C V sn)(i:Nat)(hi:i<32):w.cell? ⟨B,39+i,none⟩=some (.string (V.texts.getD i ⟨#[]⟩)):=h.cell _ (zkF h.lens i hi)
def uS.dead(h:uS w B RB D C V sn):w.cell? ⟨B,103,none⟩=some (.bool V.dead):=h.cell _ (zru h.lens)
def uS.zh(h:uS w B RB D C V sn)(hx:x.qx.length=32):uS (w.setRow B (vU (rP RB D C V sn).toArray 4 (qG x).toArray)) B RB D C { V with now:=x } sn:=by refine⟨?_,hx,h.lens.texts,h.lens.since⟩;rw[qO h.row,zmf h.lens hx]
def uS.zgF(h:uS w B RB D C V sn){l:List af}(hl:l.length=32):uS (w.setRow B (vU (rP RB D C V sn).toArray 39 (l.map Value.string).toArray)) B RB D C { V with texts:=l } sn:=by refine⟨?_,h.lens.qx,hl,h.lens.since⟩;rw[qO h.row,zhD h.lens hl]
def uS.zgG(h:uS w B RB D C V sn){l:List Int}(hl:l.length=32):uS (w.setRow B (vU (rP RB D C V sn).toArray 71 (l.map (Value.int .i64)).toArray)) B RB D C V l:=by refine⟨?_,h.lens.qx,h.lens.texts,hl⟩;rw[qO h.row,zhE h.lens hl]
end
def zcc(B RB:Nat)(sec:af)(w:ax):Prop:=w.cell? ⟨B,0,none⟩=some (.pointer (some ⟨RB,0,none⟩))∧w.cell? ⟨B,3,none⟩=some (.string sec)
def zaU{RB:Nat}(h:uS w B RB D C V sn)(hs:V.secret.size<=1000)(RR:D7 w RB)(qB:Int):
  ae 61 #[.pointer (some ⟨B,0,none⟩),.int .i64 qB] w λe w'=>e= .returned (.string (CQ V.secret qB))∧ak w w':=by
 obtain⟨secret,yR⟩:=aj V.secret;obtain⟨A,hA⟩:=aj (uu (sS (vG qB)));have bA:bs A=sS (vG qB):=by rw[hA,rM (uj _)]
 have hl:(rG 107 ([secret,A].map bs)).length<=100000:=by simp only[bH,dh,bA,rG,dY,iw,aN,bf,cZ,xU,ry];rw[yR];omega
 obtain⟨M,hM⟩:=aj (uu (mark 107 [bs secret,sS (vG qB)]));have bM:bs M=mark 107 [bs secret,sS (vG qB)]:=by rw[hM,rM (uN _ _)]
 have hr:uu (mark 107 ([secret,A].map bs))=M:=by rw[hM];simp only[bH,dh,bA]
 have hk:uu (sha (bs M))=CQ secret qB:=by rw[bM];rfl
 have hMs:M.size<=100000:=by rw[hM,rH,Dh];omega
 have L0:zcc B RB secret w:=⟨h.yK,by rw[yR];exact h.secret⟩
 rw[<-yR];have HA:=ag hA;have Hr:=ag hr;have Hk:=ag hk;have Hl:=ag hl;have HR:=ag RR;have rE:=h.lt;clear hA hM bA bM hr hl hk yR hs RR h;have l0:∀x:wE (zcc B RB secret),x.w.cell? ⟨B,0,none⟩=some (.pointer (some ⟨RB,0,none⟩)):=λx=>x.h.1;have l1:∀x:wE (zcc B RB secret),x.w.cell? ⟨B,3,none⟩=some (.string secret):=λx=>x.h.2;go_enter func61,ntmps61;go_wp2_with fail;refine qX (zcc B RB secret) [(true,0),(true,1),(true,2),(true,3),(true,4),(true,5),(true,6),(true,7),(true,8),(true,9),(true,10),(true,11),(true,12),(false,13),(false,14),(false,15),(false,16),(false,17)] ?_;simp only[uy,qC,aF,aH,aI]
 repeat(refine qp (λK hK=> ?_);go_simp;(first|refine⟨_,λ_=>rfl,hK _ ?_⟩|refine hK _ ?_);clear hK K)
 clear l0 l1;refine⟨L0,?_⟩;go_wp2_with fail;refine(Ai qB _).m ?_;rw[<-HA.o];rintro e w1 ⟨rfl,K1⟩;have Xl:ak w w1:=((ah qw w).drew).qo K1;have hKC:∀ {W:ax},ak w W->zcc B RB secret W:=λK=>⟨(K.cell (p:=⟨B,0,none⟩) rE (λx=>x)).t L0.1,(K.cell (p:=⟨B,3,none⟩) rE (λx=>x)).t L0.2⟩
 go_wp2_with fail;refine⟨hKC Xl,?_⟩;go_wp2_with fail;have K2:ak w (w1.alloc (.cells #[.string secret,.string A] 9)):=Xl.alloc _;refine⟨hKC K2,?_⟩;go_wp2_with fail;refine(y9 RB 107 (by decide) _ [secret,A] _ (HR.o.qm K2 (λx=>x)) (Strs.lit (w:=w1) [secret,A]) Hl.o (by simp)).m ?_;rw[Hr.o];rintro e w3 ⟨rfl,K3⟩;have K3':=K2.qo K3;go_wp2_with fail;refine⟨hKC K3',?_⟩;go_wp2_with fail;refine(SH RB M hMs _ (HR.o.qm K3' (λx=>x))).m ?_;rw[Hk.o];rintro e w4 ⟨rfl,K4⟩;go_wp2_with fail;refine⟨hKC (K3'.qo K4),?_⟩;go_wp2_with fail;go_ret;exact⟨rfl,K3'.qo K4⟩
def Oi{RB:Nat}(h:uS w B RB D C V sn)(hs:V.secret.size<=1000)(RR:D7 w RB):
  ae 68 #[.pointer (some ⟨B,0,none⟩)] w λe w'=>e= .returned (.string (vV V.secret))∧ak w w':=by
 obtain⟨secret,yR⟩:=aj V.secret;have hl:(rG 115 ([secret].map bs)).length<=100000:=by simp only[bH,dh,rG,dY,iw,aN,bf,cZ,xU,ry];rw[yR];omega
 obtain⟨M,hM⟩:=aj (uu (mark 115 [bs secret]));have bM:bs M=mark 115 [bs secret]:=by rw[hM,rM (uN _ _)]
 have hr:uu (mark 115 ([secret].map bs))=M:=by rw[hM];rfl
 have hk:uu (sha (bs M))=vV secret:=by rw[bM];rfl
 have hMs:M.size<=100000:=by rw[hM,rH,Dh];omega
 have L0:zcc B RB secret w:=⟨h.yK,by rw[yR];exact h.secret⟩
 rw[<-yR];have Hr:=ag hr;have Hk:=ag hk;have Hl:=ag hl;have HR:=ag RR;have rE:=h.lt;clear hM bM hr hl hk yR hs RR h;have l0:∀x:wE (zcc B RB secret),x.w.cell? ⟨B,0,none⟩=some (.pointer (some ⟨RB,0,none⟩)):=λx=>x.h.1;have l1:∀x:wE (zcc B RB secret),x.w.cell? ⟨B,3,none⟩=some (.string secret):=λx=>x.h.2;go_enter func68,ntmps68;go_wp2_with fail;refine qX (zcc B RB secret) [(true,0),(true,1),(true,2),(true,3),(true,4),(true,5),(true,6),(true,7),(true,8),(true,9),(true,10),(true,11),(false,12),(false,13),(false,14),(false,15)] ?_;simp only[uy,qC,aF,aH,aI]
 repeat(refine qp (λK hK=> ?_);go_simp;(first|refine⟨_,λ_=>rfl,hK _ ?_⟩|refine hK _ ?_);clear hK K)
 clear l0 l1;have hKC:∀ {W:ax},ak w W->zcc B RB secret W:=λK=>⟨(K.cell (p:=⟨B,0,none⟩) rE (λx=>x)).t L0.1,(K.cell (p:=⟨B,3,none⟩) rE (λx=>x)).t L0.2⟩
 refine⟨L0,?_⟩;go_wp2_with fail;have K2:ak w (w.drew.alloc (.cells #[.string secret] 9)):=(ah qw w).drew.alloc _;refine⟨hKC K2,?_⟩;go_wp2_with fail;refine(y9 RB 115 (by decide) _ [secret] _ (HR.o.qm K2 (λx=>x)) (Strs.lit (w:=w.drew) [secret]) Hl.o (by simp)).m ?_;rw[Hr.o];rintro e w3 ⟨rfl,K3⟩;have K3':=K2.qo K3;go_wp2_with fail;refine⟨hKC K3',?_⟩;go_wp2_with fail;refine(SH RB M hMs _ (HR.o.qm K3' (λx=>x))).m ?_;rw[Hk.o];rintro e w4 ⟨rfl,K4⟩;go_wp2_with fail;refine⟨hKC (K3'.qo K4),?_⟩;go_wp2_with fail;go_ret;exact⟨rfl,K3'.qo K4⟩
