import Derived.Test.YtbcmmbeadgiiiaaGreatDoorYAH
import Derived.Deep.MidRow
set_option linter.all false
namespace Go.Proofs.YtbcmmbeadgiiiaaGreatDoor
open Go.RowKit Tryz
set_option maxRecDepth 100000
set_option maxHeartbeats 16000000
variable{B:Nat}{w:ax}
def wM(s:List Nat)(t:Nat):List Nat:=if t<16 then Ef s t else BJ s (t-16)
def zhB(s:List Nat):wM s 64=sched s:=rfl
def zhA(s:List Nat)(t:Nat)(h:t<16):wM s (t+1)=(wM s t).set t (zed s (4*t)):=by
 have e:wM s t=Ef s t:=bu h;rw[e];by_cases h2:t+1<16
 ·rw[wM,bu h2];rfl
 rw[wM,aV h2,show t+1-16=0 by omega,show t=15 by omega];rfl
def ze0(s:List Nat)(t:Nat)(h:¬t<16):wM s (t+1)=KI (t-16) (wM s t):=by rw[wM,aV (by omega),wM,aV h,show t+1-16=(t-16)+1 by omega];rfl
def XK(s:List Nat)(t:Nat):(wM s t).length=64:=by
 rw[wM];split
 ·exact SC _ _
 exact Np _ _
theorem CW.wM(s:List Nat)(hs:∀i,s.getD i 0<256)(t:Nat):CW (wM s t):=by
 rw[Go.Proofs.YtbcmmbeadgiiiaaGreatDoor.wM];split
 ·exact CW.Ef s hs t
 exact CW.BJ s hs _
def TI(s:List Nat)(i:Nat):Nat->Nat
 | 0=>0
 | k+1=>TI s i k*256+s.getD (i+k) 0
def zm3(s:List Nat)(i:Nat):TI s i 4=zed s i:=by simp only[TI,zed,iY];omega
def zr3(s:List Nat)(hs:∀i,s.getD i 0<256)(i:Nat):∀k,k<=4->TI s i k<256^k:=by
 intro k
 induction k with
 | zero=>intro _;exact Nat.zero_lt_one
 | succ k ih=>
  intro hk;have h1:=ih (by omega);have h2:=hs (i+k);rw[TI,mF];omega
def zh3(l:List Nat)(i j v:Nat)(h:i≠j):(l.set i v).getD j 0=l.getD j 0:=by simp[aG,o9 h]
def zhC(s:List Nat)(k j:Nat)(h:k<=j):(Ef s k).getD j 0=0:=by
 induction k with
 | zero=>
  show(List.replicate 64 0).getD j 0=0;rw[aG,jP];split<;>rfl
 | succ k ih=>
  have e:Ef s (k+1)=(Ef s k).set k (zed s (4*k)):=rfl;rw[e,zh3 _ _ _ _ (by omega)];exact ih (by omega)
def zph(l:List Nat)(i:Nat)(h:i<l.length)(v:Nat)(hv:l.getD i 0=v):l.set i v=l:=by rw[<-hv,aG,aK h];exact List.set_getElem_self h
def zmt(p:List Nat)(o j:Nat)(h:j<64):((p.drop o).take 64).getD j 0=p.getD (o+j) 0:=by simp only[aG,gJ,h,if_true,nV]
def zvB(a b:Nat)(ha:(a:Int)<4294967296)(hb:(b:Int)<4294967296):∃p:Nat,Hid (p=a|||b)∧(p:Int)<4294967296∧bits BinOp.or IntKind.u32 (a:Int) (b:Int)=(p:Int):=by
 have:a|||b<2^32:=kE (by omega) (by omega)
 exact⟨a|||b,rfl,by omega,ZR a b (by omega) (by omega)⟩
def zbG{P:Program}(w:ax){E:aB}{src dst:aB}(hs:P.underlying src=some (.slice E))(he:P.underlying E=some (.int .u8))(hd:P.underlying dst=some .string)(l:List Nat):
  (convert src dst (.slice (some ⟨w.heap.size,0,none⟩) l.length l.length)).run P (w.alloc (.cells (DV l).toArray E))= .ok (.string (uu l)) (w.alloc (.cells (DV l).toArray E)):=
 yF (l:=l) ⟨_,_,aQ w _,by simp;exact bg (by rw[zev];exact aS _),λi _=>by simp⟩ hs he hd
def Y8(X n:Nat)(hx:(X:Int)<4294967296)(hn:n<=32)(w:ax):
  ae 196 #[.int .u32 X,.int .i64 n] w λe w'=>e= .returned (.int .u32 (CX X n:Nat))∧∃k,w'=w.drewN k:=by
 have e1:IntKind.i64.wrap (32-(n:Int))=((32-n:Nat):Int):=by rw[aY _ (by omega)];omega
 go_enter func196,ntmps196;go_wp2
 go_quiet (fail)
 go_wp2;go_ret;have h1:=zpp X n (by omega) hn;have h2:=MS X n (by omega);have h3:((X:Int)/2^n+(X:Int)*2^(32-n) % 4294967296)=((X/2^n+X*2^(32-n) % 4294967296:Nat):Int):=by simp
 exact⟨zgN (by rw[h3,h1];omega),⟨_,rfl⟩⟩
def zdk(x n:Int)(hx0:0<=x)(hx:x<4294967296)(Rt:0<=n)(hn:n<=32)(w:ax)(k:Nat):
  ae 196 #[.int .u32 x,.int .i64 n] (w.drewN k) λe w''=>e= .returned (.int .u32 (CX x.toNat n.toNat:Nat))∧∃m,w''=w.drewN m:=by
 obtain⟨X,rfl⟩:∃X:Nat,x=X:=⟨x.toNat,by omega⟩
 obtain⟨N,rfl⟩:∃N:Nat,n=N:=⟨n.toNat,by omega⟩
 exact kY (Y8 X N hx (by omega) _)
def D7.cell(h:D7 w B)(i:Nat)(hi:i<64):w.cell? ⟨B,8+i,none⟩=some (.int .u32 ((xK.getD i 0:Nat):Int)):=by
 have h1:=Row.cell h (8+i) (by show 8+i<72;omega);rw[h1];have e:(vO++xK).getD (8+i) 0=xK.getD i 0:=by
  rw[aG,aG,bT (by show 8<=8+i;omega)]
  congr 2
  show 8+i-8=i;omega
 rw[e]
def D7.head(h:D7 w B):w.rangeAt B 0 (cellsOf .u32 vO):=by
 intro j v hj;have rE:j<vO.length:=by
  have:=(aT.mp hj).1
  rwa [PR]at this
 rw[PT _ _ _ rE]at hj;rw[eH,Row.cell h j (Nat.lt_trans rE (by decide)),<-hj]
 congr 3
 rw[aG,aG,dL rE]
def SH(RB:Nat)(s:af)(hs:s.size<=100000)(w:ax)(RR:D7 w RB):
  ae 120 #[.pointer (some ⟨RB,0,none⟩),.string s] w λe w'=>e= .returned (.string (uu (sha (bs s))))∧ak w w':=by
 obtain⟨i0,zM,Ba,D9,D6⟩:=iC Ud;have NT:=λw=>jJ (P:=prog) w 9 153 5 s bK dG eQ;have hRB:RB<w.heap.size:=Row.lt RR;have hi8:(prog.info? 81).map (·.size)=some (cellsOf .u32 vO).length:=by kernel_rfl
 have hi9:(prog.info? 81).map (·.size)=some (ints .u32 vO).size:=by kernel_rfl
 have Hi8:=ag hi8;have Hi9:=ag hi9;clear hi8 hi9;have Va:(bs s).length=s.size:=ry s;have Hl0:=ag Va;clear Va;go_enter func120,ntmps120;go_wp2_with (first|(refine wpList_load_mid rfl 81 _ rfl RB 0 rfl (cellsOf .u32 vO) _ RR.head kF rfl Hi8.o ?_)|(refine qL rfl 81 _ _ rfl w.heap.size 81 _ (ints .u32 vO) rfl rfl (aQ w _) Hi9.o 8 rfl rfl (Pv _ _) ?_;refine qQ (λw1=>Row w1 w.heap.size .u32 81 vO∧ak w w1∧w.heap.size+1<=w1.heap.size) ⟨qO (aQ w _),((ah qw w).alloc _).setRow (.inr (aS _)) _,by simp[World.setRow]⟩ ?_;intro w1 vF;obtain⟨RH,K,uF⟩:=vF)|(at_builtin;refine tC _ rfl _ _ 153 rfl (w.heap.size+1) 5 i0 (.int .u8 0) 1 1 dG zM Ba D9 D6 rfl (by decide) _ s.size (DV (bs s)) rfl ((qF.ofBytes w1 (w.heap.size+1) 5 s uF (by omega)).alloc _) ⟨(Lib.bytesWorld w1 5 s).heap.size,0,none⟩ 1 1 [.int .u8 128] rfl rfl (rJ _ _ _) (EL _ _) (by unfold maxLen;omega) (by omega) (by have:=Lib.bytesWorld_size w1 5 s;simp;omega) ?_;intro v1 w2 Df xO));have K2:ak w w2:=((K.bytesWorld _ _).alloc _).grown xO (λb hb=>by obtain rfl:w1.heap.size=b:=aU hb;exact .inr (by omega))
 have RH2:Row w2 w.heap.size .u32 81 vO:=(((RH.qm ((ah qw w1).bytesWorld _ _) (λx=>x)).alloc _)).grown xO (λe=>by
  have:w.heap.size=w1.heap.size:=aU e
  omega)
 have Dc:qF w2 (w.heap.size+1) 5 1 v1 (yP (bs s) 0).length (DV (yP (bs s) 0)):=by rw[GZ,Hl0.o,yP,jU,dS,zl];exact Df
 clear Df xO NT RH K uF Hi8 Hi9
 go_loopw [7] (λv wr=>∃k:Nat,k<=OI s.size∧qF wr (w.heap.size+1) 5 1 v (yP (bs s) k).length (DV (yP (bs s) k))∧Row wr w.heap.size .u32 81 vO∧ak w wr) (λv _=>match v with| .slice _ n _=>200000-n|_=>0)
 case atStart=>exact⟨0,by omega,Dc,RH2,K2⟩
 case round=>
  clear Dc RH2 K2 w2;obtain⟨k,hk,ru,RH,K⟩:=hrel;have hkz:k<=64:=by have:OI s.size<64:=jh _ (by omega);omega
  have hlen:(yP (bs s) k).length=s.size+1+k:=by rw[GZ,Hl0.o]
  have yM:=ag hlen;obtain⟨g,cap,rfl,hg,Ci⟩:=ru.some (by rw[hlen];omega);obtain⟨n,hn⟩:=aj ((yP (bs s) k).length);rw[<-hn]at ru Ci;rw[<-hn];have OC:n=s.size+1+k:=by rw[hn,hlen]
  have Hn:=ag hn;clear hlen hn;by_cases rE:k<OI s.size
  ·skip
   have j1:((n:Int) % 64 !=56)=true:=by unfold OI at rE;simp only[bne_iff_ne,ne_eq];omega
   have Dw:n<=100100:=by omega
   have Hn1:=ag OC;clear OC;go_wp2_with (first|(at_builtin;refine tC _ rfl _ _ 153 rfl (w.heap.size+1) 5 i0 (.int .u8 0) 1 1 dG zM Ba D9 D6 rfl (by decide) _ n _ rfl (ru.alloc _) ⟨wr.heap.size,0,none⟩ 1 1 [.int .u8 0] rfl rfl (rJ _ _ _) (EL _ _) (by unfold maxLen;omega) (by omega) (by have:=RH.lt;simp;omega) ?_;intro v1 w2 Df xO));have K2:ak w w2:=(K.alloc _).grown xO (λb hb=>by obtain rfl:g=b:=aU hb;exact .inr (by omega))
   have RH2:Row w2 w.heap.size .u32 81 vO:=(RH.alloc _).grown xO (λe=>by
    have:w.heap.size=g:=aU e
    omega)
   have Dc:qF w2 (w.heap.size+1) 5 1 v1 (yP (bs s) (k+1)).length (DV (yP (bs s) (k+1))):=by rw[<-za3,GZ,Hl0.o,show s.size+1+(k+1)=n+1 by rw[Hn1.o];omega];exact Df
   clear xO ru;obtain⟨g2,QT,rfl,_,_⟩:=Df.some (by omega);clear Df;refine⟨⟨k+1,by omega,Dc,RH2,K2⟩,?_⟩;show 200000-(n+1)<200000-n;omega
  have j1:((n:Int) % 64 !=56)=false:=by
   have e:k=OI s.size:=by omega
   unfold OI at e;simp only[bne_eq_false_iff_eq];omega
  have Dw:n<=100100:=by omega
  have znh:k=OI s.size:=by omega
  obtain⟨N8,hN8⟩:=aj (8*s.size);have e8:(s.size:Int)*8=N8:=by omega
  have b8:(N8:Int)<=800000:=by omega
  have HN8:=ag hN8;have znz:=ag znh;have Hn1:=ag OC;clear OC hN8 znh rE hk hkz;obtain⟨l1,YS⟩:=aj (yP (bs s) k);rw[<-YS]at ru;have Hl1:=ag YS;clear YS;go_wp2_with fail;refine qW (λw1=>Row w1 w.heap.size .u32 81 vO∧ak w w1∧qF w1 (w.heap.size+1) 5 1 (.slice (some ⟨g,0,none⟩) n cap) (n+0) (DV (l1++uz N8 0))) ⟨RH,K,by rw[uz,dS];exact ru⟩ ?_;clear RH K ru;intro w3 IM
  go_loopw [7,8] (λv i wr=>∃k:Nat,k<=8∧i= .int .i64 (56-8*(k:Int))∧Row wr w.heap.size .u32 81 vO∧ak w wr∧qF wr (w.heap.size+1) 5 1 v (n+k) (DV (l1++uz N8 k))) (λ_ i _=>(intOf i+8).toNat)
  ·exact⟨0,by omega,rfl,IM⟩
  clear IM w3;obtain⟨k2,Xf,rfl,RH,K,ru⟩:=hrel;by_cases rE:k2<8
  ·skip
   obtain⟨g1,zlu,rfl,hg1,zgc⟩:=ru.some (by rw[Hn1.o];omega);obtain⟨q,hq⟩:=aj (8*(7-k2));have NR:(56:Int)-8*k2=q:=by omega
   rw[NR];have hq3:(0:Int)<=q:=by omega
   have hq4:(q:Int)<=56:=by omega
   clear NR;have Hq:=ag hq;clear hq;go_wp2_with (first|(at_builtin;refine tC _ rfl _ _ 153 rfl (w.heap.size+1) 5 i0 (.int .u8 0) 1 1 dG zM Ba D9 D6 rfl (by decide) _ (n+k2) _ rfl (ru.alloc _) ⟨wr.heap.size,0,none⟩ 1 1 _ rfl rfl (rJ _ _ _) (EL _ _) (by unfold maxLen;omega) (by omega) (by have:=RH.lt;simp;omega) ?_;intro v1 w2 Df xO));have K2:ak w w2:=(K.alloc _).grown xO (λb hb=>by obtain rfl:g1=b:=aU hb;exact .inr (by omega))
   have RH2:Row w2 w.heap.size .u32 81 vO:=(RH.alloc _).grown xO (λe=>by
    have:w.heap.size=g1:=aU e
    omega)
   have Dc:qF w2 (w.heap.size+1) 5 1 v1 (n+(k2+1)) (DV (l1++uz N8 (k2+1))):=by rw[Hq.o,Uj]at Df;rw[zl,<-Jj,<-bC,<-zl];exact Df
   have hq6:(q:Int)-8=56-8*((k2+1:Nat):Int):=by rw[Hq.o];omega
   clear xO ru Df hq3;exact⟨⟨k2+1,by omega,by rw[hq6],RH2,K2,Dc⟩,by simp[intOf];omega⟩
  have hp:DV (l1++uz N8 8)=DV (Ae (bs s)):=by
   rw[Hl1.o,znz.o,HN8.o,yP,Ae,sS,Hl0.o]
  have LP:(Ae (bs s)).length=n+8:=by rw[SS,Hl0.o,Hn1.o,znz.o];omega
  have hk8:k2=8:=by omega
  have hk9:(56:Int)-8*k2= -8:=by omega
  rw[hk8]at ru;rw[hk9];clear hk9;obtain⟨p,YQ⟩:=aj (Ae (bs s));have ztD:p.length % 64=0:=by rw[YQ];exact za2 _
  have hpb:Bytes p:=by rw[YQ];exact UW _ (yE s)
  rw[hp,<-YQ]at ru;rw[<-YQ]at LP;have Hpp:=ag YQ;clear hp YQ hk8 rE Xf;obtain⟨g1,zlu,rfl,hg1,zgc⟩:=ru.some (by omega);obtain⟨m,hm⟩:=aj (p.length/64);have zb6:p.length=64*m:=by omega
  have F8:n+8=64*m:=by omega
  rw[F8]at ru zgc;rw[F8];rw[<-zb6]at ru;have RP:=wU.yw ru;rw[zb6]at ru;have Hm:=ag hm;have zqV:=ag zb6;have Hnm:=ag F8;have YA:m<=2000:=by omega
  clear hm zb6 F8 LP ru ztD;go_wp2_with fail;refine qW (λw1=>wU w1 g1 5 p∧Row w1 w.heap.size .u32 81 (vZ p 0)∧ak w w1) ⟨RP,RH,K⟩ ?_;clear RH K RP;intro w3 IM
  go_loopw [7] (λv wr=>∃q off c:Nat,q<=m∧v= .slice (some ⟨g1,off,none⟩) (64*(m-q)) c∧(q<m->off=64*q∧64*(m-q)<=c)∧wU wr g1 5 p∧Row wr w.heap.size .u32 81 (vZ p q)∧ak w wr) (λv _=>match v with| .slice _ n _=>n|_=>0)
  ·exact⟨0,0,zlu,by omega,by rw[Nat.sub_zero],λ_=>⟨rfl,by omega⟩,IM⟩
  clear IM w3;obtain⟨q,off,c,hq,rfl,hoc,RP,RH,K⟩:=hrel;by_cases rE:q<m
  ·obtain⟨rfl,hc⟩:=hoc rE;clear hoc;obtain⟨M,hM⟩:=aj (64*(m-q));have hM64:64<=M:=by omega
   rw[<-hM]at hc;rw[<-hM];have j0:(0:Int)<M:=by omega
   have j00:decide (0<M)=true:=by simp;omega
   have hMs:(M:Int)<=128000:=by omega
   have HM:=ag hM;clear hM;obtain⟨vH,hblk⟩:=aj ((p.drop (64*q)).take 64);have Zr:∀i,vH.getD i 0<256:=by rw[hblk];exact ND (zo (NF hpb _) _)
   have Gu:∀i,i<64->vH.getD i 0=p.getD (64*q+i) 0:=λi hi=>by rw[hblk];exact zmt p (64*q) i hi
   have Hbl:=ag Zr;have zoa:=ag Gu;have zA8:=ag hblk;clear Zr Gu hblk;go_wp2_with fail;obtain⟨WB,hWB⟩:=aj wr.heap.size;have hWBw:w.heap.size<WB:=by rw[hWB];exact RH.lt
   have hWBg:g1<WB:=by rw[hWB];exact RP.lt
   refine qW (λw1=>Row w1 WB .u32 82 (wM vH 0)∧wU w1 g1 5 p∧Row w1 w.heap.size .u32 81 (vZ p q)∧ak w w1) ⟨by rw[hWB];exact aQ wr _,RP.qm ((ah qw wr).alloc _) (λx=>x),RH.alloc _,K.alloc _⟩ ?_;rw[<-hWB];clear RP RH K hWB wr;intro w3 IM
   go_loopw [65] (λi wr=>∃t:Nat,t<=64∧i= .int .i64 t∧Row wr WB .u32 82 (wM vH t)∧wU wr g1 5 p∧Row wr w.heap.size .u32 81 (vZ p q)∧ak w wr) (λi _=>64-(intOf i).toNat)
   ·exact⟨0,by omega,rfl,IM⟩
   clear IM w3;obtain⟨t,ht,rfl,RW,RP,RH,K⟩:=hrel;by_cases zkk:t<64
   ·have jt:(t:Int)<64:=by omega
    by_cases h16:t<16
    ·have zzg:(t:Int)<16:=by omega
     obtain⟨r,hr⟩:=aj (wM vH t);have hrl:r.length=64:=by rw[hr,XK]
     have hr0:r.set t (TI vH (4*t) 0)=r:=zph r t (by omega) _ (by rw[hr,wM,bu h16];exact zhC _ _ _ (aS _));have hr4:r.set t (TI vH (4*t) 4)=wM vH (t+1):=by rw[zhA vH t h16,hr,zm3]
     rw[<-hr]at RW;have Hr:=ag hr;have Hrl:=ag hrl;have Hr0:=ag hr0;have Hr4:=ag hr4;clear hr hrl hr0 hr4;have u1:(4:Int)*t+4<=c:=by omega
     have u2:(4:Int)*t<=M:=by omega
     have u3:4*t+4-4*t=4:=by omega
     go_wp2_with fail;clear u3;have RW0:Row wr WB .u32 82 (r.set t (TI vH (4*t) 0)):=by rw[Hr0.o];exact RW
     refine qW (λw1=>Row w1 WB .u32 82 (r.set t (TI vH (4*t) 0))∧wU w1 g1 5 p∧Row w1 w.heap.size .u32 81 (vZ p q)∧ak w w1) ⟨RW0,RP,RH,K⟩ ?_;clear RW RW0 RP RH K wr;intro w3 IM
     go_loopw [78] (λi wr=>∃j:Nat,j<=4∧i= .int .i64 j∧Row wr WB .u32 82 (r.set t (TI vH (4*t) j))∧wU wr g1 5 p∧Row wr w.heap.size .u32 81 (vZ p q)∧ak w wr) (λi _=>4-(intOf i).toNat)
     ·exact⟨0,by omega,rfl,IM⟩
     clear IM w3;obtain⟨j,hj,rfl,RW,RP,RH,K⟩:=hrel;by_cases hj4:j<4
     ·have jj:(j:Int)<4:=by omega
      obtain⟨va,LG⟩:=aj (TI vH (4*t) j);have hvl:va*256<=4294967040:=by have h1:=zr3 vH Hbl.o (4*t) j (by omega);have h2:256^j<=256^3:=mY (by omega) (by omega);omega
      obtain⟨m1,YB⟩:=aj (va*256);have e1:(va:Int)*256=(m1:Int):=by omega
      have e2:(m1:Int)<=4294967040:=by omega
      have ct:=RW.cell t (by rw[fC,Hrl.o];omega);have ft:=RW.free t;have hgt:(r.set t (TI vH (4*t) j)).getD t 0=va:=by rw[LG,aG,mG (by rw[Hrl.o];omega)];rfl
      rw[hgt]at ct;have cb:=RP.cell (64*q+4*t+j) (by rw[zqV.o];omega);obtain⟨b,hb⟩:=aj (p.getD (64*q+4*t+j) 0);have zC:b=vH.getD (4*t+j) 0:=by rw[hb,zoa.o (4*t+j) (by omega),kT]
      have zkq:b<256:=by rw[zC];exact Hbl.o _
      have Rw:(b:Int)<=255:=by omega
      rw[<-hb]at cb;have yx:m1+b=TI vH (4*t) (j+1):=by rw[YB,LG,TI,zC]
      have Jm:=ag yx;clear LG hvl YB hgt hb zC zkq yx;go_wp2_with fail;have K1:Keep (qJ WB) wr (wr.setCell ⟨WB,t,none⟩ (.int .u32 ((m1:Int)+(b:Int)))):=(ah _ _).tK _ _;have RW2:=RW.store t (v:=(m1:Int)+(b:Int)) (n:=m1+b) (by simp);rw[List.set_set,Jm.o]at RW2;exact⟨⟨j+1,by omega,by go_num,RW2,RP.qm K1 (λe=>by simp only[qJ]at e;omega),RH.qm K1 (λe=>by simp only[qJ]at e;omega),K.setCell (p:=⟨WB,t,none⟩) (.inr (show w.heap.size<=WB by omega)) _⟩,by simp[intOf];omega⟩
     have hj5:j=4:=by omega
     have jj:decide ((j:Int)<4)=false:=by simp;omega
     rw[hj5,Hr4.o]at RW;clear hj4 hj hj5;go_wp2_with fail;exact⟨⟨t+1,by omega,by go_num,RW,RP,RH,K⟩,by simp[intOf];omega⟩
    have zzg:decide ((t:Int)<16)=false:=by simp;omega
    obtain⟨r,hr⟩:=aj (wM vH t);have hrl:r.length=64:=by rw[hr,XK]
    have hrw:CW r:=by rw[hr];exact CW.wM vH Hbl.o t
    have yx:=ze0 vH t h16;rw[<-hr]at RW yx;rw[KI,show 16+(t-16)=t by omega,show 1+(t-16)=t-15 by omega,show 9+(t-16)=t-7 by omega,show 14+(t-16)=t-2 by omega]at yx;obtain⟨q2,e2⟩:=aj (t-2);obtain⟨q15,e15⟩:=aj (t-15);obtain⟨q7,e7⟩:=aj (t-7);obtain⟨q16,e16⟩:=aj (t-16);rw[<-e2,<-e15,<-e7,<-e16]at yx;have w2:IntKind.i64.wrap ((t:Int)-2)=(q2:Int):=by rw[aY _ (by omega)];omega
    have w15:IntKind.i64.wrap ((t:Int)-15)=(q15:Int):=by rw[aY _ (by omega)];omega
    have w7:IntKind.i64.wrap ((t:Int)-7)=(q7:Int):=by rw[aY _ (by omega)];omega
    have w16:IntKind.i64.wrap ((t:Int)-16)=(q16:Int):=by rw[aY _ (by omega)];omega
    have l2:(q2:Int)<64:=by omega
    have l15:(q15:Int)<64:=by omega
    have l7:(q7:Int)<64:=by omega
    have l16:(q16:Int)<64:=by omega
    have c2:=RW.cell q2 (by omega);have c15:=RW.cell q15 (by omega);have c7:=RW.cell q7 (by omega);have c16:=RW.cell q16 (by omega);have ct:=RW.cell t (by omega);have ft:=RW.free t;obtain⟨x2,Vf⟩:=aj (r.getD q2 0);obtain⟨x15,ztq⟩:=aj (r.getD q15 0);obtain⟨x7,hx7⟩:=aj (r.getD q7 0);obtain⟨x16,ztp⟩:=aj (r.getD q16 0);obtain⟨xt,hxt⟩:=aj (r.getD t 0);have b2:(x2:Int)<4294967296:=by have:=hrw q2;omega
    have b15:(x15:Int)<4294967296:=by have:=hrw q15;omega
    rw[<-Vf]at c2;rw[<-ztq]at c15;rw[<-hx7]at c7;rw[<-ztp]at c16;rw[<-hxt]at ct;rw[<-Vf,<-ztq,<-hx7,<-ztp]at yx;obtain⟨a2,ha2⟩:=aj (zej x2);obtain⟨a15,zwJ⟩:=aj (zek x15);have bb2:=XG x2 (by omega);have zAo:=XH x15 (by omega);rw[<-ha2]at bb2 yx;rw[<-zwJ]at zAo yx;obtain⟨s1,S1,d1⟩:=Oa a2 x7;obtain⟨s2,S2,d2⟩:=Oa s1 a15;obtain⟨s3,S3,d3⟩:=Oa s2 x16;have hs3:s3=(x16+a15+x7+a2) % 4294967296:=by rw[S3.o,S2.o,S1.o];omega
    rw[<-hs3]at yx;have Jm:=ag yx;have Hrl:=ag hrl;clear yx hrl hr hrw e2 e15 e7 e16 Vf ztq hx7 ztp hxt ha2 zwJ hs3 h16;go_wp2_with fail
    go_quiet (fail)
    go_wp2_with fail;have C7:=ag c7;have C16:=ag c16;have CT:=ag ct;clear c7 c16 ct c2 c15 ft;refine qW (λw1=>Row w1 WB .u32 82 r∧wU w1 g1 5 p∧Row w1 w.heap.size .u32 81 (vZ p q)∧ak w w1∧w1.cell? ⟨WB,q7,none⟩=some (.int .u32 (x7:Int))∧w1.cell? ⟨WB,q16,none⟩=some (.int .u32 (x16:Int))∧w1.cell? ⟨WB,t,none⟩=some (.int .u32 (xt:Int))) ⟨RW.drewN nq,RP.drewN nq,RH.drewN nq,K.drewN nq,C7.o,C16.o,CT.o⟩ ?_;clear RW RP RH K C7 C16 CT nq wr;intro wr Gn;obtain⟨RW,RP,RH,K,c7,c16,ct⟩:=Gn;have ft:=RW.free t;refine qV 33 (by kernel_rfl) (by kernel_rfl) ?_;simp only[dE,dD,dA,dF]
    repeat(quiet_step ((go_at_call 196;refine zdk _ _ (by omega) ?_ (by decide) (by decide) _ _;first|with_reducible exact b2|with_reducible exact b15)))
    refine dP ?_;intro nq2;go_wp2_with fail;have K1:Keep (qJ WB) (wr.drewN nq2) ((wr.drewN nq2).setCell ⟨WB,t,none⟩ (.int .u32 (s3:Int))):=(ah _ _).tK _ _;have RW2:=(RW.drewN nq2).store t (v:=(s3:Int)) (n:=s3) rfl;rw[<-Jm.o]at RW2;have fin:(∃t':Nat,t'<=64∧Value.int .i64 ((t:Int)+1)= .int .i64 t'∧Row ((wr.drewN nq2).setCell ⟨WB,t,none⟩ (.int .u32 (s3:Int))) WB .u32 82 (wM vH t')∧wU ((wr.drewN nq2).setCell ⟨WB,t,none⟩ (.int .u32 (s3:Int))) g1 5 p∧Row ((wr.drewN nq2).setCell ⟨WB,t,none⟩ (.int .u32 (s3:Int))) w.heap.size .u32 81 (vZ p q)∧ak w ((wr.drewN nq2).setCell ⟨WB,t,none⟩ (.int .u32 (s3:Int)))):=
     ⟨t+1,by omega,by go_num,RW2,(RP.drewN nq2).qm K1 (λe=>by simp only[qJ]at e;omega),(RH.drewN nq2).qm K1 (λe=>by simp only[qJ]at e;omega),(K.drewN nq2).setCell (p:=⟨WB,t,none⟩) (.inr (show w.heap.size<=WB by omega)) _⟩
    exact⟨fin,by simp[intOf];omega⟩
   have jt:decide ((t:Int)<64)=false:=by simp;omega
   have RW1:Row wr WB .u32 82 (sched vH):=by
    have:t=64:=by omega
    rw[this,zhB]at RW;exact RW
   have LM:CW (sched vH):=CW.BJ _ Hbl.o _;obtain⟨h,hh⟩:=aj (vZ p q);have LH:CW h:=by rw[hh];exact CW.blocks p q
   have lh:h.length=8:=by rw[hh,GX]
   rw[<-hh]at RH;have Hh:=ag hh;clear hh zkk ht RW;obtain⟨mm,hmm⟩:=aj (sched vH);have lm:mm.length=64:=by rw[hmm];exact Np _ _
   rw[<-hmm]at RW1 LM;have Hmm:=ag hmm;clear hmm;have Hlm:=ag lm;clear lm;obtain⟨y0,y1,y2,y3,y4,y5,y6,y7,rfl⟩:∃x0 x1 x2 x3 x4 x5 x6 x7,h= [x0,x1,x2,x3,x4,x5,x6,x7]:=zsj h lh;clear lh;have c0:wr.cell? ⟨w.heap.size,0,none⟩=some (.int .u32 (y0:Int)):=RH.cell 0 (by show 0<8;omega);have c1:wr.cell? ⟨w.heap.size,1,none⟩=some (.int .u32 (y1:Int)):=RH.cell 1 (by show 1<8;omega);have c2:wr.cell? ⟨w.heap.size,2,none⟩=some (.int .u32 (y2:Int)):=RH.cell 2 (by show 2<8;omega);have c3:wr.cell? ⟨w.heap.size,3,none⟩=some (.int .u32 (y3:Int)):=RH.cell 3 (by show 3<8;omega);have c4:wr.cell? ⟨w.heap.size,4,none⟩=some (.int .u32 (y4:Int)):=RH.cell 4 (by show 4<8;omega);have c5:wr.cell? ⟨w.heap.size,5,none⟩=some (.int .u32 (y5:Int)):=RH.cell 5 (by show 5<8;omega);have c6:wr.cell? ⟨w.heap.size,6,none⟩=some (.int .u32 (y6:Int)):=RH.cell 6 (by show 6<8;omega);have c7:wr.cell? ⟨w.heap.size,7,none⟩=some (.int .u32 (y7:Int)):=RH.cell 7 (by show 7<8;omega);go_wp2_with fail
   go_quiet (fail)
   go_wp2_with fail;have hL0:CW (AX mm [y0,y1,y2,y3,y4,y5,y6,y7] 0):=LH;refine qW (λw1=>Row w1 WB .u32 82 mm∧wU w1 g1 5 p∧Row w1 w.heap.size .u32 81 [y0,y1,y2,y3,y4,y5,y6,y7]∧ak w w1) ⟨RW1.drewN nq,RP.drewN nq,RH.drewN nq,K.drewN nq⟩ ?_;clear RW1 RP RH K c0 c1 c2 c3 c4 c5 c6 c7 nq wr hL0;intro w3 IM
   go_loopw [15,16,17,18,19,20,21,22,150] (λs0 s1 s2 s3 s4 s5 s6 s7 i wr=>∃(t x0 x1 x2 x3 x4 x5 x6 x7:Nat),t<=64∧i= .int .i64 t∧s0= .int .u32 x0∧s1= .int .u32 x1∧s2= .int .u32 x2∧s3= .int .u32 x3∧s4= .int .u32 x4∧s5= .int .u32 x5∧s6= .int .u32 x6∧s7= .int .u32 x7∧Hid ([x0,x1,x2,x3,x4,x5,x6,x7]=AX mm [y0,y1,y2,y3,y4,y5,y6,y7] t)∧Row wr WB .u32 82 mm∧wU wr g1 5 p∧Row wr w.heap.size .u32 81 [y0,y1,y2,y3,y4,y5,y6,y7]∧ak w wr) (λ_ _ _ _ _ _ _ _ i _=>64-(intOf i).toNat)
   ·exact⟨0,y0,y1,y2,y3,y4,y5,y6,y7,by omega,rfl,rfl,rfl,rfl,rfl,rfl,rfl,rfl,rfl,rfl,IM⟩
   clear IM w3;obtain⟨t,x0,x1,x2,x3,x4,x5,x6,x7,ht,rfl,rfl,rfl,rfl,rfl,rfl,rfl,rfl,rfl,hv,RW,RP,RH,K⟩:=hrel;by_cases zkk:t<64
   ·have jt:(t:Int)<64:=by omega
    have LV:CW [x0,x1,x2,x3,x4,x5,x6,x7]:=by rw[hv.o];exact CW.steps _ LH _
    have b0:(x0:Int)<4294967296:=by have:=LV 0;simp at this;omega
    have b1:(x1:Int)<4294967296:=by have:=LV 1;simp at this;omega
    have b2:(x2:Int)<4294967296:=by have:=LV 2;simp at this;omega
    have b4:(x4:Int)<4294967296:=by have:=LV 4;simp at this;omega
    have b5:(x5:Int)<4294967296:=by have:=LV 5;simp at this;omega
    have b6:(x6:Int)<4294967296:=by have:=LV 6;simp at this;omega
    obtain⟨rk,hrk⟩:=aj (xK.getD t 0);obtain⟨wk,hwk⟩:=aj (mm.getD t 0);have cr:=D7.cell (Keep.heap K RR (λx=>x)) t zkk;have cw:=RW.cell t (by rw[Hlm.o];omega);rw[<-hrk]at cr;rw[<-hwk]at cw;have Hrk:=ag hrk;have Hwk:=ag hwk;clear hrk hwk;obtain⟨aE,haE⟩:=aj (zlv x4);obtain⟨aA,haA⟩:=aj (zlw x0);have bE:=zdR x4 (by omega);have bA:=zdS x0 (by omega);rw[<-haE]at bE;rw[<-haA]at bA;have AE:=ag haE;have AA:=ag haA;clear haE haA;obtain⟨p1,P1,e1⟩:=Oa x7 aE;obtain⟨q1,Q1,d1,e2⟩:=zfV x5 x6 b5 b6;obtain⟨q3,Q3,d3,e4⟩:=Xt x4 q1 b4 d1;obtain⟨q4,Q4,d4,e5⟩:=zfV x6 q3 b6 d3;obtain⟨p2,P2,e6⟩:=Oa p1 q4;obtain⟨p3,P3,e7⟩:=Oa p2 rk;obtain⟨p4,P4,e8⟩:=Oa p3 wk;have hq:q4=chs x4 x5 x6:=by rw[Q4.o,Q3.o,Q1.o];exact zr0 _ _ _ (by omega) (by omega)
    have Hq:=ag hq;clear hq;go_wp2_with fail
    go_quiet ((go_at_call 196;exact zdk _ _ (by omega) b4 (by decide) (by decide) _ _))
    clear e1 e2 e4 e5 e6 e7 e8;obtain⟨r1,R1,f1,e1⟩:=Xt x0 x1 b0 b1;obtain⟨r2,R2,f2,e2⟩:=zvB x0 x1 b0 b1;obtain⟨r3,R3,f3,e3⟩:=Xt x2 r2 b2 f2;obtain⟨r4,R4,f4,e4⟩:=zvB r1 r3 f1 f3;obtain⟨t1,T1,g1',e6⟩:=Sr aA r4;obtain⟨t2,T2,g2,e7⟩:=Sr p4 t1;obtain⟨t3,T3,g3,e8⟩:=Sr x3 p4;have hr:r4=maj x0 x1 x2:=by rw[R4.o,R1.o,R3.o,R2.o];exact zrM _ _ _
    have Hr:=ag hr;clear hr;go_wp2_with fail;refine(Y8 x0 2 b0 (by omega) _).m ?_;rintro e w4 ⟨rfl,k4,rfl⟩;go_wp2_with fail;refine(Y8 x0 13 b0 (by omega) _).m ?_;rintro e w4 ⟨rfl,k5,rfl⟩;go_wp2_with fail;refine(Y8 x0 22 b0 (by omega) _).m ?_;rintro e w4 ⟨rfl,k6,rfl⟩;go_wp2_with fail;have hp:p4=(x7+zlv x4+chs x4 x5 x6+xK.getD t 0+mm.getD t 0) % 4294967296:=by rw[P4.o,P3.o,P2.o,P1.o,Hq.o,<-AE.o,<-Hrk.o,<-Hwk.o];omega
    have htt:t1=(zlw x0+maj x0 x1 x2) % 4294967296:=by rw[T1.o,Hr.o,<-AA.o]
    have yx:Hid ([t2,x0,x1,x2,t3,x4,x5,x6]=AX mm [y0,y1,y2,y3,y4,y5,y6,y7] (t+1)):=by show _=_;rw[AX,uA,<-AX,<-hv.o,T2.o,T3.o,hp,htt];rfl
    exact⟨⟨t+1,t2,x0,x1,x2,t3,x4,x5,x6,by omega,by go_num,by rw[e7],rfl,rfl,rfl,by rw[e8],rfl,rfl,rfl,yx,RW,RP,RH,K.drewN _⟩,by simp[intOf];omega⟩
   have jt:decide ((t:Int)<64)=false:=by simp;omega
   have zvP: [x0,x1,x2,x3,x4,x5,x6,x7]=AX mm [y0,y1,y2,y3,y4,y5,y6,y7] 64:=by
    have:t=64:=by omega
    rw[hv.o,this]
   have zAz:=ag zvP;obtain⟨hh,hhh⟩:∃l,l= [y0,y1,y2,y3,y4,y5,y6,y7]:=⟨_,rfl⟩
   have lhh:hh.length=8:=by rw[hhh];rfl
   rw[<-hhh]at RH;have Hhh:=ag hhh;have zAY:=ag lhh;clear zvP zkk ht hv hhh lhh;go_wp2_with fail;refine qW (λw1=>wU w1 g1 5 p∧Row w1 w.heap.size .u32 81 (FO [x0,x1,x2,x3,x4,x5,x6,x7] hh 0)∧ak w w1) ⟨RP,RH,K⟩ ?_;clear RW RP RH K wr;intro w3 IM
   go_loopw [228] (λi wr=>∃j:Nat,j<=8∧i= .int .i64 j∧wU wr g1 5 p∧Row wr w.heap.size .u32 81 (FO [x0,x1,x2,x3,x4,x5,x6,x7] hh j)∧ak w wr) (λi _=>8-(intOf i).toNat)
   ·exact⟨0,by omega,rfl,IM⟩
   clear IM w3;obtain⟨j,hj,rfl,RP,RH,K⟩:=hrel;by_cases hj8:j<8
   ·have jj:(j:Int)<8:=by omega
    have Qg:∀w,(Instr.index 81 (.agg #[.int .u32 (x0:Int),.int .u32 (x1:Int),.int .u32 (x2:Int),.int .u32 (x3:Int),.int .u32 (x4:Int),.int .u32 (x5:Int),.int .u32 (x6:Int),.int .u32 (x7:Int)]) (.int .i64 j)).run prog w= .ok (.int .u32 (([x0,x1,x2,x3,x4,x5,x6,x7].getD j 0:Nat):Int)) w:=
     EE (P:=prog) (kd:= .u32) kF lM rfl (by kernel_rfl) [x0,x1,x2,x3,x4,x5,x6,x7] j rfl hj8
    obtain⟨xj,hxj⟩:∃x,x= [x0,x1,x2,x3,x4,x5,x6,x7].getD j 0:=⟨_,rfl⟩
    rw[<-hxj]at Qg;have NU:FO [x0,x1,x2,x3,x4,x5,x6,x7] hh (j+1)=(FO [x0,x1,x2,x3,x4,x5,x6,x7] hh j).set j (((FO [x0,x1,x2,x3,x4,x5,x6,x7] hh j).getD j 0+ [x0,x1,x2,x3,x4,x5,x6,x7].getD j 0) % 4294967296):=rfl;obtain⟨G,hG⟩:=aj (FO [x0,x1,x2,x3,x4,x5,x6,x7] hh j);have lG:G.length=8:=by rw[hG,WN,zAY.o]
    rw[<-hG]at RH NU;rw[<-hxj]at NU;have ch:=RH.cell j (by omega);have fh:=RH.free j;obtain⟨yj,hyj⟩:=aj (G.getD j 0);rw[<-hyj]at ch NU;obtain⟨z,Z,gz,ez⟩:=Sr yj xj;rw[<-Z.o]at NU;have Hat:=ag NU;clear NU hyj hxj hG lG;go_wp2_with fail;have RH2:=RH.store j (v:=(z:Int)) (n:=z) rfl;rw[<-Hat.o]at RH2;have K1:Keep (qJ w.heap.size) wr (wr.setCell ⟨w.heap.size,j,none⟩ (.int .u32 (z:Int))):=(ah _ _).tK _ _;exact⟨⟨j+1,by omega,by go_num,RP.qm K1 (λe=>by simp only[qJ]at e;omega),RH2,K.setCell (p:=⟨w.heap.size,j,none⟩) (.inr (aS _)) _⟩,by simp[intOf];omega⟩
   have jj:decide ((j:Int)<8)=false:=by simp;omega
   have RH1:Row wr w.heap.size .u32 81 (vZ p (q+1)):=by
    have zzO:j=8:=by omega
    rw[zzO,zAz.o,Hhh.o,Hmm.o,Hh.o,zA8.o]at RH;exact RH
   clear hj8 hj RH;by_cases zz5:c=64
   ·have hM:M=64:=by omega
    have Zn:q+1=m:=by have:=HM.o;omega
    subst hM;subst zz5;go_wp2_with fail;refine⟨⟨q+1,_,_,by omega,by rw[show 64*(m-(q+1))=0 by omega],λh=>absurd h (by omega),RP,RH1,K⟩,?_⟩;show 0<64;omega
   have hc65:64<c:=by omega
   have hc66:(64:Int)<c:=by omega
   have e7:64*(m-(q+1))=M-64:=by have:=HM.o;omega
   go_wp2_with fail;refine⟨⟨q+1,64*q+64,c-64,by omega,by rw[e7],λh=>⟨by omega,by omega⟩,RP,RH1,K⟩,?_⟩;show M-64<M;omega
  have Zn:q=m:=by omega
  rw[Zn]at RH;rw[Zn,kz,Nat.mul_zero];rw[Hm.o,Hpp.o]at RH;obtain⟨h,hh⟩:=aj (vZ (Ae (bs s)) ((Ae (bs s)).length/64));have hl8:h.length=8:=by rw[hh,GX]
  have W:CW h:=by rw[hh];exact CW.blocks _ _
  rw[<-hh]at RH;have Hh:=ag hh;have Hl8:=ag hl8;have hi8:(prog.info? 81).map (·.size)=some (ints .u32 h).size:=by rw[Fh,hl8];kernel_rfl
  have Hi8:=ag hi8;clear hh hl8 hi8 rE Zn hq hoc;go_wp2_with (first|(refine jI rfl 81 _ rfl w.heap.size rfl 81 (ints .u32 h) (0,0) _ RH kF rfl Hi8.o ?_));clear RP Hi8;refine qW (λw1=>ak w w1) K ?_;clear K RH;intro w5 K5
  go_loopw [28,240] (λo i wr=>∃(k:Nat) (A:af),k<=8∧i= .int .i64 k∧o= .string A∧Hid (bs A=uO h k)∧ak w wr) (λ_ i _=>8-(intOf i).toNat)
  ·exact⟨0,_,by omega,rfl,rfl,rfl,K5⟩
  clear K5 w5;obtain⟨k4,A,hk4,rfl,rfl,hA,K⟩:=hrel;have hAs:A.size=4*k4:=by rw[<-ry,hA.o,GR]
  by_cases rE:k4<8
  ·have j1:(k4:Int)<8:=by omega
   have Qg:=EE (P:=prog) (kd:= .u32) kF lM rfl (by kernel_rfl) h k4 Hl8.o rE;obtain⟨x,hx⟩:=aj (h.getD k4 0);have bx:(x:Int)<4294967296:=by have:=W k4;rw[hx];omega
   rw[<-hx]at Qg;obtain⟨y0,hy0⟩:=aj (x/16777216 % 256);obtain⟨y1,hy1⟩:=aj (x/65536 % 256);obtain⟨y2,hy2⟩:=aj (x/256 % 256);obtain⟨y3,hy3⟩:=aj (x % 256);have e0:(x:Int)/16777216=(y0:Int):=by omega
   have e1:(x:Int)/65536 % 256=(y1:Int):=by omega
   have e2:(x:Int)/256 % 256=(y2:Int):=by omega
   have e3:(x:Int) % 256=(y3:Int):=by omega
   have LC:uO h (k4+1)=uO h k4++ [y0,y1,y2,y3]:=by rw[uO,uA,<-uO,<-hx,hy0,hy1,hy2,hy3];rfl
   have hso:∀w:ax,(convert 153 9 (.slice (some ⟨w.heap.size,0,none⟩) 4 4)).run prog (w.alloc (.cells #[.int .u8 (y0:Int),.int .u8 (y1:Int),.int .u8 (y2:Int),.int .u8 (y3:Int)] 5))= .ok (.string (uu [y0,y1,y2,y3])) (w.alloc (.cells #[.int .u8 (y0:Int),.int .u8 (y1:Int),.int .u8 (y2:Int),.int .u8 (y3:Int)] 5)):=
    λw=>zbG w dG eQ bK [y0,y1,y2,y3]
   have OB:Hid (bs (A++uu [y0,y1,y2,y3])=uO h (k4+1)):=by show bs _=_;rw[LC,tX,hA.o,rM (λy hy=>by simp only[dO,iT,lN]at hy;rcases hy with rfl|rfl|rfl|rfl<;>omega)]
   have G8:¬(9223372036854775807<A.size+(uu [y0,y1,y2,y3]).size):=by rw[rH,hAs];simp;omega
   have Hx:=ag hx;clear hx hy0 hy1 hy2 hy3 hAs LC;go_wp2_with fail;exact⟨⟨k4+1,_,by omega,by go_num,rfl,OB,K.alloc _⟩,by simp[intOf];omega⟩
  have hk:k4=8:=by omega
  have j1:decide ((k4:Int)<8)=false:=by simp;omega
  have zne:A=uu (sha (bs s)):=by apply xJ;rw[hA.o,hk,Hh.o,rM (GY _),sha]
  have zAI:=ag zne;clear hk rE hk4 zne hAs;go_wp2_with fail;go_ret;exact⟨dB (λt=>Ending.returned (.string t)) zAI.o,K⟩
def y9(RB:Nat)(kind:Nat)(hkd:kind<256)(v:ay)(l:List af)(w:ax)(RR:D7 w RB)(S:Strs w v l)(hb:(rG kind (l.map bs)).length<=100000)(hl:l.length<=100000):
  ae 117 #[.pointer (some ⟨RB,0,none⟩),.int .u8 kind,v] w λe w'=>e= .returned (.string (uu (mark kind (l.map bs))))∧ak w w':=by
 obtain⟨p,c,rfl⟩:=S.len;have hso:=λw=>ED (P:=prog) w (E:=5) dG eQ bK (kind:Int) kind rfl;have Hb:=ag hb;clear hb;obtain⟨n,hn⟩:=aj l.length;rw[<-hn]at S hl;rw[<-hn];have Hn:=ag hn;clear hn;go_enter func117,ntmps117;go_wp2_with fail;clear hso;refine qW (λw1=>ak w w1) ((ah qw w).alloc _) ?_;intro w1 vF
 go_loopw [7,15] (λs i wr=>∃(k:Nat) (A:af),k<=n∧i= .int .i64 k∧s= .string A∧Hid (bs A=rG kind ((l.map bs).take k))∧ak w wr) (λ_ i _=>n-(intOf i).toNat)
 case atStart=>exact⟨0,_,by omega,rfl,rfl,by show bs (uu [kind])= [kind];exact rM (λx hx=>by obtain rfl:x=kind:=bJ.1 hx;exact hkd),vF⟩
 case round=>
  clear vF w1;obtain⟨k,A,hk,rfl,rfl,hA,K⟩:=hrel;have hAs:A.size<=100000:=by have:=AO kind (l.map bs) k;rw[<-hA.o,ry]at this;have:=Hb.o;omega
  by_cases rE:k<n
  ·have j1:(k:Int)<n:=by omega
   have S1:=S.qm K (λ_ _ x=>x);obtain⟨B,off,rfl,CV,hB,hc⟩:=S1.at (by have:=Hn.o;omega);have QN:=hc k (by have:=Hn.o;omega);clear hc S1 CV;obtain⟨q,hq⟩:=aj (l.getD k ⟨#[]⟩);rw[<-hq]at QN;have hqe:(l.map bs).getD k []=bs q:=by rw[hq,aG,aX,aG];cases l[k]? <;>rfl
   have wJ:=JG kind (l.map bs) k (by rw[aP];have:=Hn.o;omega);rw[hqe,<-hA.o,ry]at wJ;have TU:=AO kind (l.map bs) (k+1);rw[wJ,aN,aN,ry,ry,sS,tu]at TU;have hqs:q.size<=100000:=by have:=Hb.o;omega
   have Hq:=ag hq;have Jm:=ag wJ;clear hq hqe wJ TU;go_wp2_with fail;refine(Ai q.size _).m ?_;rw[J5 q.size (by omega)];rintro e w2 ⟨rfl,K2⟩;have hbe:(uu (sS q.size)).size=8:=by rw[rH,sS,tu]
   have ZN:¬(9223372036854775807<A.size+(uu (sS q.size)).size):=by rw[hbe];omega
   have OW:¬(9223372036854775807<(A++uu (sS q.size)).size+q.size):=by rw[dN,hbe];omega
   have HA2:Hid (bs (A++uu (sS q.size)++q)=rG kind ((l.map bs).take (k+1))):=by show bs _=_;rw[Jm.o,tX,tX,rM (show Bytes (sS q.size)from Ez _ _),bC]
   clear hbe;go_wp2_with fail;clear ZN OW QN;exact⟨⟨k+1,_,by omega,by go_num,rfl,HA2,K.qo K2⟩,by simp[intOf];omega⟩
  have Xf:k=n:=by omega
  have j1:decide (k<n)=false:=by simp;omega
  have OB:bs A=rG kind (l.map bs):=by rw[hA.o,Xf,Hn.o,bg (by rw[aP];exact aS _)]
  have HA2:=ag OB;clear rE hk Xf OB;go_wp2_with fail;refine(SH RB A hAs wr (Keep.heap K RR (λx=>x))).m ?_;rw[HA2.o];rintro e w2 ⟨rfl,K2⟩;obtain⟨T,hT⟩:=aj (uu (sha (rG kind (l.map bs))));have hTs:(16:Int)<=T.size:=by rw[hT,rH,Ei];omega
  have hTe:T.extract 0 16=uu (mark kind (l.map bs)):=by apply xJ;rw[rQ,hT,rM (GY _),dF,mark,rM (zo (GY _) _)]
  rw[<-hT];have HT:=ag hT;have HTe:=ag hTe;clear hT hTe;go_wp2_with fail;go_ret;exact⟨dB (λt=>Ending.returned (.string t)) HTe.o,K.qo K2⟩
def xU(n:Nat):(sS n).length=8:=tu n 8
def AY(key:List Nat)(id rf:Int)(text:List Nat):List Nat:=(mark 110 [key,sS (vG id),sS (vG rf),text]).take 12
def LW(key:List Nat)(id:Int)(s:List Nat):List Nat:=mark 103 [key,sS (vG id),s]
def Sl(id rf:Int)(text:List Nat):List Nat:=mark 112 [sS (vG id),sS (vG rf),text]
def Dh(k:Nat)(l:List (List Nat)):(mark k l).length=16:=by rw[mark,dJ,Ei];rfl
def uN(k:Nat)(l:List (List Nat)):Bytes (mark k l):=zo (GY _) _
def uj(n:Nat):Bytes (sS n):=Ez n 8
def GN(id rf:Int)(text:af)(ht:text.size<=1000)(w:ax)(V:rF w):
  ae 93 #[.int .i64 id,.int .i64 rf,.string text] w λe w'=>e= .returned (.string (uu (Sl id rf (bs text))))∧ak w w':=by
 obtain⟨A,hA⟩:=aj (uu (sS (vG id)));obtain⟨B,hB⟩:=aj (uu (sS (vG rf)));have bA:bs A=sS (vG id):=by rw[hA,rM (uj _)]
 have bB:bs B=sS (vG rf):=by rw[hB,rM (uj _)]
 have hl:(rG 112 ([A,B,text].map bs)).length<=100000:=by simp only[bH,dh,bA,bB,rG,dY,iw,aN,bf,cZ,xU,ry];omega
 have hr:mark 112 ([A,B,text].map bs)=Sl id rf (bs text):=by simp only[bH,dh,bA,bB];rfl
 have HA:=ag hA;have HB:=ag hB;have Hr:=ag hr;have Hl:=ag hl;clear hA hB bA bB hr hl;go_enter func93,ntmps93;go_wp2_with fail;refine(I5 id _).m ?_;rw[<-HA.o];rintro e w1 ⟨rfl,K1⟩;go_wp2_with fail;refine(I5 rf _).m ?_;rw[<-HB.o];rintro e w2 ⟨rfl,K2⟩;have LQ:=K1.qo K2;go_wp2_with fail;refine(Ep 112 (by decide) _ [A,B,text] _ (V.qm (LQ.alloc _) (λx=>x)) (Strs.lit (w:=w2) [A,B,text]) Hl.o (by simp)).m ?_;rw[Hr.o];rintro e w3 ⟨rfl,K3⟩;go_wp2_with fail;go_ret;exact⟨rfl,(LQ.alloc _).qo K3⟩
def zew(key:af)(id:Int)(s:af)(hk:key.size<=1000)(hs:s.size<=1000)(w:ax)(V:rF w):
  ae 219 #[.string key,.int .i64 id,.string s] w λe w'=>e= .returned (.string (uu (LW (bs key) id (bs s))))∧ak w w':=by
 obtain⟨A,hA⟩:=aj (uu (sS (vG id)));have bA:bs A=sS (vG id):=by rw[hA,rM (uj _)]
 have hl:(rG 103 ([key,A,s].map bs)).length<=100000:=by simp only[bH,dh,bA,rG,dY,iw,aN,bf,cZ,xU,ry];omega
 have hr:mark 103 ([key,A,s].map bs)=LW (bs key) id (bs s):=by simp only[bH,dh,bA];rfl
 have HA:=ag hA;have Hr:=ag hr;have Hl:=ag hl;clear hA bA hr hl;go_enter func219,ntmps219;go_wp2_with fail;refine(I5 id _).m ?_;rw[<-HA.o];rintro e w1 ⟨rfl,K1⟩;go_wp2_with fail;refine(Ep 103 (by decide) _ [key,A,s] _ (V.qm (K1.alloc _) (λx=>x)) (Strs.lit (w:=w1) [key,A,s]) Hl.o (by simp)).m ?_;rw[Hr.o];rintro e w3 ⟨rfl,K3⟩;go_wp2_with fail;go_ret;exact⟨rfl,(K1.alloc _).qo K3⟩
def zmB(key:af)(id rf:Int)(text:af)(hk:key.size<=1000)(ht:text.size<=1000)(w:ax)(V:rF w):
  ae 250 #[.string key,.int .i64 id,.int .i64 rf,.string text] w λe w'=>e= .returned (.string (uu (AY (bs key) id rf (bs text))))∧ak w w':=by
 obtain⟨A,hA⟩:=aj (uu (sS (vG id)));obtain⟨B,hB⟩:=aj (uu (sS (vG rf)));have bA:bs A=sS (vG id):=by rw[hA,rM (uj _)]
 have bB:bs B=sS (vG rf):=by rw[hB,rM (uj _)]
 have hl:(rG 110 ([key,A,B,text].map bs)).length<=100000:=by simp only[bH,dh,bA,bB,rG,dY,iw,aN,bf,cZ,xU,ry];omega
 obtain⟨M,hM⟩:=aj (uu (mark 110 ([key,A,B,text].map bs)));have hMs:M.size=16:=by rw[hM,rH,Dh]
 have hMe:M.extract 0 12=uu (AY (bs key) id rf (bs text)):=by apply xJ;rw[rQ,hM,rM (uN _ _),dF,AY,rM (zo (uN _ _) _)];simp only[bH,dh,bA,bB]
 have hMi:(12:Int)<=M.size:=by omega
 have HA:=ag hA;have HB:=ag hB;have HM:=ag hM;have HMe:=ag hMe;have Hl:=ag hl;clear hA hB bA bB hM hMs hMe hl;go_enter func250,ntmps250;go_wp2_with fail;refine(I5 id _).m ?_;rw[<-HA.o];rintro e w1 ⟨rfl,K1⟩;go_wp2_with fail;refine(I5 rf _).m ?_;rw[<-HB.o];rintro e w2 ⟨rfl,K2⟩;have LQ:=K1.qo K2;go_wp2_with fail;refine(Ep 110 (by decide) _ [key,A,B,text] _ (V.qm (LQ.alloc _) (λx=>x)) (Strs.lit (w:=w2) [key,A,B,text]) Hl.o (by simp)).m ?_;rw[<-HM.o];rintro e w3 ⟨rfl,K3⟩;go_wp2_with fail;go_ret;exact⟨dB (λt=>Ending.returned (.string t)) HMe.o,(LQ.alloc _).qo K3⟩
def Gm(RB:Nat)(id rf:Int)(text:af)(ht:text.size<=1000)(w:ax)(RR:D7 w RB):
  ae 64 #[.pointer (some ⟨RB,0,none⟩),.int .i64 id,.int .i64 rf,.string text] w λe w'=>e= .returned (.string (uu (Sl id rf (bs text))))∧ak w w':=by
 obtain⟨A,hA⟩:=aj (uu (sS (vG id)));obtain⟨B,hB⟩:=aj (uu (sS (vG rf)));have bA:bs A=sS (vG id):=by rw[hA,rM (uj _)]
 have bB:bs B=sS (vG rf):=by rw[hB,rM (uj _)]
 have hl:(rG 112 ([A,B,text].map bs)).length<=100000:=by simp only[bH,dh,bA,bB,rG,dY,iw,aN,bf,cZ,xU,ry];omega
 have hr:mark 112 ([A,B,text].map bs)=Sl id rf (bs text):=by simp only[bH,dh,bA,bB];rfl
 have HA:=ag hA;have HB:=ag hB;have Hr:=ag hr;have Hl:=ag hl;clear hA hB bA bB hr hl;go_enter func64,ntmps64;go_wp2_with fail;refine(Ai id _).m ?_;rw[<-HA.o];rintro e w1 ⟨rfl,K1⟩;go_wp2_with fail;refine(Ai rf _).m ?_;rw[<-HB.o];rintro e w2 ⟨rfl,K2⟩;have LQ:=K1.qo K2;go_wp2_with fail;refine(y9 RB 112 (by decide) _ [A,B,text] _ (Keep.heap (LQ.alloc _) RR (λx=>x)) (Strs.lit (w:=w2) [A,B,text]) Hl.o (by simp)).m ?_;rw[Hr.o];rintro e w3 ⟨rfl,K3⟩;go_wp2_with fail;go_ret;exact⟨rfl,(LQ.alloc _).qo K3⟩
