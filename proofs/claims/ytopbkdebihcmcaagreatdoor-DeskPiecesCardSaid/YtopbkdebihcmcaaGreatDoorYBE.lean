import Derived.Test.YtopbkdebihcmcaaGreatDoorYAL
import Derived.Test.YtopbkdebihcmcaaGreatDoorYAY
import Derived.Test.YtopbkdebihcmcaaGreatDoorYAZ
set_option linter.unusedSimpArgs false
set_option linter.unusedVariables false
namespace Go.Proofs.YtopbkdebihcmcaaGreatDoor
open Go.RowKit
set_option maxRecDepth 100000
set_option maxHeartbeats 16000000
theorem XL(n:Nat):Lib.repeatL [0] n=List.replicate n 0:=by
 induction n with
 | zero=>rfl
 | succ n ih=>rw[Lib.repeatL,ih,kW];rfl
theorem zbM(c:Int)(n:Nat)(hc:c=n)(hn:n<=1000000)(w:World):
  Calls Tryz.prog 237 #[.string ⟨#[0]⟩,.int .i64 c] w λe w'=>e= .returned (.string (txt (List.replicate n 0)))∧Keep nM w w':=by
 subst hc;refine(Tryz.strings_Repeat ⟨#[0]⟩ n w (by omega) (by show 1*n<=_;omega)).mono λe w' ⟨he,hb⟩=>⟨?_,Keep.vg hb⟩
 rw[he];have e1:(⟨#[0]⟩:af).data.toList= [0]:=rfl;have e2:(⟨(List.replicate n (0:UInt8)).toArray⟩:af)=txt (List.replicate n 0):=by rw[txt,mQ];rfl
 rw[e1,XL,e2]
def FX(text:List Nat):List Nat:= [text.length]++text++List.replicate (200-text.length) 0
def EF(key:List Nat)(id pg:Int)(text:List Nat):List Nat:=qB (uf pg)++xw key id pg text++xor key (xw key id pg text) (FX text)
def IM(key:List Nat)(id pg:Int)(text:List Nat):List Nat:=EF key id pg text++JJ key id (EF key id pg text)
theorem EW(key:List Nat)(id pg:Int)(text:List Nat):(xw key id pg text).length=12:=by rw[xw,bG,AB];rfl
theorem LU(key:List Nat)(id pg:Int)(text:List Nat):Bytes (xw key id pg text):=zX (uB _ _) _
theorem CG(key:List Nat)(id:Int)(s:List Nat):Bytes (JJ key id s):=uB _ _
theorem Rh(key:List Nat)(id:Int)(s:List Nat):(JJ key id s).length=16:=AB _ _
theorem ze9(n:Nat):Bytes (List.replicate n 0):=λx hx=>by rw[(iW.1 hx).2];omega
theorem NW(text:List Nat)(h:text.length<=200):(FX text).length=201:=by rw[FX,ay,ay,bP];simp;omega
theorem Ns(key oh s:List Nat)(hs:Bytes s):Bytes (xor key oh s):=by
 intro x hx;rw[<-J5 key oh s s.length (aF _)]at hx;obtain⟨i,hi,rfl⟩:=jQ hx;have:=YL key oh s hs s.length i
 rwa [ax,aC hi]at this
theorem zbF(key:af)(id pg:Int)(text:af)(hk:key.size=32)(ht:text.size<=200):
  ∃BB N X V C G:af,BB=txt [text.size]++text++txt (List.replicate (200-text.size) 0)∧BB.size=201∧N=txt (xw (bs key) id pg (bs text))∧N.size=12∧X=txt (xor (bs key) (bs N) (bs BB))∧X.size=201∧
   V=txt (qB (uf pg))∧V.size=8∧C=V++N++X∧C.size=221∧G=txt (JJ (bs key) id (bs C))∧G.size=16∧C++G=txt (IM (bs key) id pg (bs text)):=by
 have tb:Bytes [text.size]:=λx hx=>by rw[bD.1 hx];omega
 have hB:bs (txt [text.size]++text++txt (List.replicate (200-text.size) 0))=FX (bs text):=by rw[tN,tN,qw tb,qw (ze9 _),FX,bs_len]
 have hBl:=NW (bs text) (by rw[bs_len];exact ht);have hN:=qw (LU (bs key) id pg (bs text));have hBb:Bytes (FX (bs text)):=by rw[<-hB];exact zq _
 refine⟨_,_,_,_,_,_,rfl,?_,rfl,?_,rfl,?_,rfl,?_,rfl,?_,rfl,?_,?_⟩
 ·rw[<-bs_len,hB,hBl]
 ·rw[oU,EW]
 ·rw[oU,BG,hB,hBl]
 ·rw[oU,yx]
 ·rw[aX,aX,oU,oU,oU,yx,EW,BG,hB,hBl]
 ·rw[oU,Rh]
 ·apply xy;have hC:bs (txt (qB (uf pg))++txt (xw (bs key) id pg (bs text))++txt (xor (bs key) (bs (txt (xw (bs key) id pg (bs text)))) (bs (txt [text.size]++text++txt (List.replicate (200-text.size) 0)))))=EF (bs key) id pg (bs text):=by
   rw[tN,tN,qw (sJ _),hN,hB,qw (Ns _ _ _ hBb),EF]
  have hb:Bytes (IM (bs key) id pg (bs text)):=bytes_append (by rw[<-hC];exact zq _) (CG _ _ _);rw[tN,hC,qw (CG _ _ _),qw hb,IM]
theorem ziN(key:af)(id pg:Int)(text:af)(hk:key.size=32)(hi0:0<=id)(hi1:id<32)(hv0:1<=pg)(hv1:pg<=1099511627776)(ht:text.size<=200)(w:World)(Vr:oG w):
  Calls Tryz.prog 197 #[.string key,.int .i64 id,.int .i64 pg,.string text] w λe w'=>e= .returned (.tuple #[.string (txt (IM (bs key) id pg (bs text))),.nilIface])∧Keep nM w w':=by
 obtain⟨BB,N,X,V,C,G,eB,sB,eN,sN,eX,sX,eV,sV,eC,sC,eG,sG,eR⟩:=zbF key id pg text hk ht;have b1:((key.size:Int) !=32)=false:=by rw[hk];rfl
 have j1:(text.size:Int)<=200:=by omega
 have hn:∀w,oG w->Calls Tryz.prog 238 #[.string key,.int .i64 id,.int .i64 pg,.string text] w λe w'=>e= .returned (.string N)∧Keep nM w w':=by rw[eN];exact zed key id pg text (by omega) (by omega)
 have hx:∀w,Calls Tryz.prog 179 #[.string key,.string N,.string BB] w λe w'=>e= .returned (.tuple #[.string X,.nilIface])∧Keep nM w w':=by rw[eX];exact zcF key N BB hk sN (by omega)
 have hm:∀w,Calls Tryz.prog 26 #[.int .i64 pg] w λe w'=>e= .returned (.string V)∧Keep nM w w':=by rw[eV];exact num_int pg
 have hg:∀w,oG w->Calls Tryz.prog 178 #[.string key,.int .i64 id,.string C] w λe w'=>e= .returned (.string G)∧Keep nM w w':=by rw[eG];exact Xb key id C (by omega) (by omega)
 have hcat3:¬(9223372036854775807<V.size+N.size):=by omega
 have hcat4:¬(9223372036854775807<V.size+N.size+X.size):=by omega
 have hcat5:¬(9223372036854775807<C.size+G.size):=by omega
 rw[<-eR];have EB:=Lib.hid eB;have EC:=Lib.hid eC;clear eB sB eN sN eX sX eV sV eC sC eG sG eR hk;have hrow:∀w:World,vP (w.alloc (.cells #[.int .u8 (text.size:Int)] 5)).drew w.heap.size 5 [text.size]:=λw=>⟨_,_,aG w _,rfl,λi _=>by simp⟩
 have hsB:=λ(w:World) (b:Nat) (hb:vP w b 5 [text.size])=>xK (P:=Tryz.prog) (cap:=1) hb Tryz.underlying33 Tryz.underlying5 Tryz.underlying9;have hsD:∀w:World,(convert 33 9 (.slice (some ⟨w.heap.size,0,none⟩) 1 1)).run Tryz.prog (w.alloc (.cells #[.int .u8 (text.size:Int)] 5)).drew= .ok (.string (txt [text.size])) (w.alloc (.cells #[.int .u8 (text.size:Int)] 5)).drew:=λw=>hsB _ _ (hrow w);have hsE:∀w:World,(convert 33 9 (.slice (some ⟨w.heap.size,0,none⟩) 1 1)).run Tryz.prog (w.alloc (.cells #[.int .u8 (text.size:Int)] 5))= .ok (.string (txt [text.size])) (w.alloc (.cells #[.int .u8 (text.size:Int)] 5)):=λw=>hsB _ _ ⟨_,_,aG w _,rfl,λi _=>by simp⟩;have hsU:∀a w2:World,Keep nM a w2->(∀b,vP a b 5 [text.size]->(convert 33 9 (.slice (some ⟨b,0,none⟩) 1 1)).run Tryz.prog w2= .ok (.string (txt [text.size])) w2)∧(∀b,vP a b 5 [text.size]->(convert 33 9 (.slice (some ⟨b,0,none⟩) 1 1)).run Tryz.prog w2.drew= .ok (.string (txt [text.size])) w2.drew):=λa w2 K=>by
  refine⟨λb hb=> ?_,λb hb=> ?_⟩<;>obtain⟨cur,fr,h,r⟩:=hb
  ·exact hsB _ _ ⟨cur,fr,K.heap h (λx=>x),r⟩
  ·exact hsB _ _ ⟨cur,fr,K.heap h (λx=>x),r⟩
 have e1:IntKind.u8.wrap (text.size:Int)=(text.size:Int):=by rw[IntKind.wrap_u8];omega
 have e2:IntKind.i64.wrap (200-(text.size:Int))=200-(text.size:Int):=aW _ (by omega);have zfO:¬(9223372036854775807<(txt [text.size]).size+text.size):=by rw[oU];simp;omega
 have Yz:¬(9223372036854775807<(txt [text.size]).size+text.size+(txt (List.replicate (200-text.size) 0)).size):=by rw[oU,oU];simp;omega
 go_enter Tryz.func197,Tryz.ntmps197;go_wp2_with fail
 go_region_law (go_simp;go_at_call 237;refine(zbM _ (200-text.size) (by omega) (by omega) _).mono ?_;rintro e w2 ⟨rfl,K2⟩;have hsk:=(hsU _ _ K2).1;have hsk2:=(hsU _ _ K2).2)
 all_goals rw[<-EB.out]
 all_goals go_wp2_with fail
 all_goals (refine(hn _ (Vr.keep (S:=nM) (by first|exact((((ah nM w).alloc _).drew).nK K2)|exact(((ah nM w).drew.nK K2).alloc _)) (λx=>x))).mono ?_;rintro e w3 ⟨rfl,K3⟩)
 all_goals have K4:Keep nM w w3:=by first|exact(((ah nM w).alloc _).drew.nK K2).nK K3|exact((((ah nM w).drew).nK K2).alloc _).nK K3
 all_goals go_wp2_with fail
 all_goals (refine(hx _).mono ?_;rintro e w4 ⟨rfl,K5⟩)
 all_goals have K6:=K4.nK K5
 all_goals clear K4 K5 hx hn hrow hsB hsD hsE hsU zfO Yz e1 e2
 all_goals go_wp2_with fail
 all_goals (refine(hm _).mono ?_;rintro e w5 ⟨rfl,K7⟩)
 all_goals have K8:=K6.nK K7
 all_goals clear hm
 all_goals go_wp2_with fail
 all_goals rw[<-EC.out]
 all_goals (refine(hg _ (Vr.keep K8 (λx=>x))).mono ?_;rintro e w6 ⟨rfl,K9⟩)
 all_goals go_wp2_with fail
 all_goals go_ret2
 all_goals exact⟨rfl,K8.nK K9⟩
def Je(l:List Nat):Nat:=l.foldl (λn b=>n*256+b) 0
theorem VK(l:List Nat)(k:Nat)(hk:k<l.length):Je (l.take (k+1))=Je (l.take k)*256+l.getD k 0:=by rw[aT hk,Je,jK,ax,aC hk];rfl
def zaM(n:Nat):Int:=wrap64 (n:Int)
theorem zlv(x b:Nat)(hb:b<256):(x*256)|||b=x*256+b:=by have:=Nat.shiftLeft_add_eq_or_of_lt (i:=8) (b:=b) (by omega) x;rw[Nat.shiftLeft_eq]at this;exact this.symm
theorem zf8(n b:Nat)(hb:b<256):bits .or .i64 (wrap64 (zaM n*256)) (b:Int)=zaM (n*256+b):=by
 have h1:(BitVec.ofInt 64 (wrap64 (wrap64 (n:Int)*256))).toNat=(n % 72057594037927936)*256:=by
  rw[BitVec.toNat_ofInt];unfold wrap64
  have:((2^64:Nat):Int)=18446744073709551616:=by decide
  rw[this];omega
 have h2:(BitVec.ofInt 64 (b:Int)).toNat=b:=by rw[jI,jV];exact jw (by omega)
 show IntKind.i64.wrap ((BitVec.ofInt 64 (wrap64 (wrap64 (n:Int)*256))|||BitVec.ofInt 64 (b:Int)).toNat:Int)=wrap64 ((n*256+b:Nat):Int);rw[BitVec.toNat_or,h1,h2,zlv _ _ hb,IntKind.wrap_i64];unfold wrap64;omega
def QJ(key s:List Nat):List Nat:=xor key ((s.drop 8).take 12) ((s.drop 20).take 201)
def xB(key s:List Nat):List Nat:=((QJ key s).drop 1).take (min ((QJ key s).getD 0 0) 200)
def zi(s:List Nat):Int:=zaM (Je (s.take 8))
def U6(key:List Nat)(id:Int)(s:List Nat):Prop:=JJ key id (s.take 221)=(s.drop 221).take 16
abbrev zH(a b:af):Bool:= @BEq.beq (List UInt8) (@List.instBEq UInt8 instBEqOfDecidableEq) a.toList b.toList
theorem DX{a b:af}(h:a≠b):zH a b=false:=by unfold zH;rw[dS,bQ,bQ];exact λe=>h (xy (by rw[bs,bs,e]))
theorem AQ(a:af):zH a a=true:=by unfold zH;exact fV _
theorem zgY(key:af)(id:Int)(s:af)(hk:key.size=32)(hs:237<=s.size)(hs2:s.size<=1000)(hb:¬U6 (bs key) id (bs s))(w:World)(V:oG w):
  Calls Tryz.prog 133 #[.string key,.int .i64 id,.string s] w λe w'=>e= .returned (.tuple #[.int .i64 0,.string ⟨#[]⟩,.iface 51 (.int .i64 15)])∧Keep nM w w':=by
 have b1:((key.size:Int) !=32)=false:=by rw[hk];rfl
 have b2:decide ((s.size:Int)<237)=false:=by simp;omega
 have b3:(221:Int)<=s.size:=by omega
 have b4:(237:Int)<=s.size:=by omega
 obtain⟨C,hC⟩:∃C,C=s.extract 0 221:=⟨_,rfl⟩
 obtain⟨M,hM⟩:∃M,M=s.extract 221 237:=⟨_,rfl⟩
 obtain⟨G,hG⟩:∃G,G=txt (JJ (bs key) id (bs C)):=⟨_,rfl⟩
 have hCs:C.size<=1000:=by rw[hC,dV];omega
 have ht:=Xb key id C (by omega) hCs;rw[<-hG]at ht;have hne:G≠M:=λe=>hb (by have:=dK bs e;rw[hG,qw (CG _ _ _),hC,hM,pY,pY,cO]at this;exact this)
 have HC:=Lib.hid hC;have HM:=Lib.hid hM;have hq:=λX:Ext w=>ht (w.ext X) (V.keep (qA w X) (λx=>x));rw[hC]at hq;clear hC hM hG hk hb ht;go_enter Tryz.func133,Tryz.ntmps133;go_wp2_with fail;refine qP (by kernel_rfl) (by kernel_rfl) ?_
 repeat(quiet_step ((go_at_call 178;exact uJ _ (hq _))))
 refine dF ?_;intro X;rw[<-HM.out];have hb2:=DX hne;unfold zH at hb2;rw[hb2,lS];go_wp2_with fail
 go_ret3
 exact⟨rfl,qA w X⟩
theorem VA(s:af)(k:Nat)(h:k<s.size):s[k].toNat<256:=s[k].toNat_lt
theorem ziT(key:af)(id:Int)(s:af)(hk:key.size=32)(hs:237<=s.size)(hs2:s.size<=1000)(hb:U6 (bs key) id (bs s))(w:World)(V:oG w):
  Calls Tryz.prog 133 #[.string key,.int .i64 id,.string s] w λe w'=>e= .returned (.tuple #[.int .i64 (zi (bs s)),.string (txt (xB (bs key) (bs s))),.nilIface])∧Keep nM w w':=by
 have b1:((key.size:Int) !=32)=false:=by rw[hk];rfl
 have b2:decide ((s.size:Int)<237)=false:=by simp;omega
 have b3:(221:Int)<=s.size:=by omega
 have b4:(237:Int)<=s.size:=by omega
 have b5:(20:Int)<=s.size:=by omega
 obtain⟨C,hC⟩:∃C,C=s.extract 0 221:=⟨_,rfl⟩
 obtain⟨M,hM⟩:∃M,M=s.extract 221 237:=⟨_,rfl⟩
 obtain⟨NN,hNN⟩:∃N,N=s.extract 8 20:=⟨_,rfl⟩
 obtain⟨XX,hXX⟩:∃N,N=s.extract 20 221:=⟨_,rfl⟩
 obtain⟨G,hG⟩:∃G,G=txt (JJ (bs key) id (bs C)):=⟨_,rfl⟩
 obtain⟨T,hT⟩:∃T,T=txt (xor (bs key) (bs NN) (bs XX)):=⟨_,rfl⟩
 have hCs:C.size<=1000:=by rw[hC,dV];omega
 have hXs:XX.size=201:=by rw[hXX,dV];omega
 have hTs:T.size=201:=by rw[hT,oU,BG,bs_len,hXs]
 have hTe:bs T=QJ (bs key) (bs s):=by rw[hT,qw (Ns _ _ _ (zq _)),hNN,hXX,pY,pY,QJ]
 have ht:=Xb key id C (by omega) hCs;rw[<-hG]at ht;have heq:G=M:=xy (by rw[hG,qw (CG _ _ _),hC,hM,pY,pY,cO];exact hb);have hx:=zcF key NN XX hk (by rw[hNN,dV];omega) (by omega);rw[<-hT]at hx;have HC:=Lib.hid hC;have HM:=Lib.hid hM;have HN:=Lib.hid hNN;have HX:=Lib.hid hXX;have HT:=Lib.hid hTe;have HTs:=Lib.hid hTs;have hq:=λX:Ext w=>ht (w.ext X) (V.keep (qA w X) (λx=>x));rw[hC]at hq;rw[hNN,hXX]at hx;have hM2:=hM;rw[<-heq]at hM2;have HM2:=Lib.hid hM2;clear hC hM hG hk hb ht hNN hXX hT hTe heq hM2 hTs HM hXs;go_enter Tryz.func133,Tryz.ntmps133;go_wp2_with fail;refine qP (by kernel_rfl) (by kernel_rfl) ?_
 repeat(quiet_step ((go_at_call 178;exact uJ _ (hq _))))
 refine dF ?_;intro X;rw[<-HM2.out];clear hq;have hb2:=AQ G;unfold zH at hb2;rw[hb2,ni];clear hb2;go_wp2_with fail;refine pK (λw2=>Keep nM w w2) (qA w X) ?_;clear X;intro w2 K2
 go_loop [9,31] (λv i=>∃k:Nat,k<=8∧i= .int .i64 k∧v= .int .i64 (zaM (Je ((bs s).take k)))) (λ_ i=>8-(intOf i).toNat)
 case atStart=>exact⟨0,by omega,rfl,by rw[bZ];show _=Value.int .i64 (wrap64 ((0:Nat):Int));unfold wrap64;rfl⟩
 case round=>
  obtain⟨k,hk,rfl,rfl⟩:=hrel;by_cases hlt:k<8
  ·have j1:(k:Int)<8:=by omega
   have hks:k<s.size:=by omega
   have hki:(k:Int)<s.size:=by omega
   have hstep:=VK (bs s) k (by rw[bs_len];exact hks);rw[bs_getD s k hks]at hstep;have hor:=zf8 (Je ((bs s).take k)) s[k].toNat s[k].toNat_lt;rw[<-hstep]at hor;have Hst:=Lib.hid hstep;have Hor:=Lib.hid hor;clear hstep hor;have hw8:=VA s k hks;go_wp2_with fail;exact⟨⟨k+1,by omega,by go_num,by rw[Hor.out]⟩,by simp[intOf];omega⟩
  ·obtain rfl:k=8:=by omega
   go_wp2_with fail;have hq:=λX:Ext w2=>hx (w2.ext X);clear hx;refine qP (by kernel_rfl) (by kernel_rfl) ?_
   repeat(quiet_step ((go_at_call 179;exact uJ _ (hq _))))
   refine dF ?_;intro X;clear hq;have t1:(0:Int)<T.size:=by rw[HTs.out];decide
   have t2:0<T.size:=by rw[HTs.out];decide
   obtain⟨b0,hb0⟩:∃b,b=T[0].toNat:=⟨_,rfl⟩
   have hb1:b0<256:=by rw[hb0];exact T[0].toNat_lt
   obtain⟨m,hm⟩:∃m,m=min b0 200:=⟨_,rfl⟩
   have hm1:m<=200:=by omega
   have hm2:min (b0:Int) 200=(m:Int):=by omega
   have hm3:(1:Int)+(m:Int)<=T.size:=by rw[HTs.out];omega
   have hbT:bs T=QJ (bs key) (bs s):=HT.out;have hfin:T.extract 1 (1+m)=txt (xB (bs key) (bs s)):=by
    apply xy;rw[pY,hbT,xB,qw (zX (TD (by rw[<-hbT];exact zq T) _) _),<-hbT,bs_getD T 0 t2,<-hb0,<-hm]
    congr 1
    omega
   have yH:=Lib.hid hfin;have hb0':T[0].toNat=b0:=hb0.symm;have e0:IntKind.i64.wrap (b0:Int)=(b0:Int):=aW _ (by omega);have e4:(0:Int)<=1+(m:Int):=by omega
   have e1:IntKind.i64.wrap (1+(m:Int))=1+(m:Int):=aW _ (by omega);have e2:(1+(m:Int)).toNat=1+m:=by omega
   have e3:(1:Int)<=1+(m:Int):=by omega
   clear hfin hbT hm hb0;go_wp2_with fail;refine qP (by kernel_rfl) (by kernel_rfl) ?_
   repeat(quiet_step (fail))
   refine dF ?_;intro Y;go_wp2_with fail
   go_ret3
   refine⟨?_,(K2.nK (qA w2 X)).nK (qA _ Y)⟩;rw[<-yH.out];rfl
end Go.Proofs.YtopbkdebihcmcaaGreatDoor
