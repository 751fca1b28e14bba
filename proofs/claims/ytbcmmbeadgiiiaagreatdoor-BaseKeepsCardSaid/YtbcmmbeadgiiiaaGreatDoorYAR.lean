import Derived.Test.YtbcmmbeadgiiiaaGreatDoorYAI
import Derived.Test.YtbcmmbeadgiiiaaGreatDoorYAP
set_option linter.all false
namespace Go.Proofs.YtbcmmbeadgiiiaaGreatDoor
open Go.RowKit Tryz
set_option maxRecDepth 100000
set_option maxHeartbeats 16000000
variable{l:List UInt8}{B b:Nat}{w w':ax}
def ze5(n:Nat):Lib.repeatL [0] n=List.replicate n 0:=by
 induction n with
 | zero=>rfl
 | succ n ih=>rw[Lib.repeatL,ih,List.replicate_succ];rfl
def zaQ(c:Int)(n:Nat)(hc:c=n)(hn:n<=1000000)(w:ax):
  ae 79 #[.string ⟨#[0]⟩,.int .i64 c] w (au (.string (uu (List.replicate n 0))) w):=by
 subst hc;refine(strings_Repeat ⟨#[0]⟩ n w (by omega) (by show 1*n<=_;omega)).m λe w' ⟨he,hb⟩=>⟨?_,Keep.Em hb⟩
 rw[he];have e1:(⟨#[0]⟩:af).data.toList= [0]:=rfl;have e2:(⟨(List.replicate n (0:UInt8)).toArray⟩:af)=uu (List.replicate n 0):=by rw[uu,pW];rfl
 rw[e1,ze5,e2]
def Ky(c:Int)(n:Nat)(hc:c=n)(hn:n<=1000000)(w:ax):
  ae 34 #[.int .i64 c] w (au (.string (uu (List.replicate n 0))) w):=by
 have hr:=zaQ c n hc hn;have Hc:=ag hc;clear hc hn;go_enter func34,ntmps34;go_wp2_with fail;refine(hr _).m ?_;clear hr;rintro e w1 ⟨rfl,K1⟩;go_wp2_with fail;go_ret;exact⟨rfl,K1⟩
def zsg:(prog.info? 157).map (·.size)=some 2:=by kernel_rfl
def zm0:(prog.info? 5).map (λi=>(i.zero,i.size,i.bytes))=some (some (.int .u8 0),1,1):=by kernel_rfl
def zoR(b:Nat)(w:ax)(h0:w.cell? ⟨b,0,none⟩=some (.pointer (some ⟨b,0,none⟩))):
  ae 143 #[.pointer (some ⟨b,0,none⟩)] w λe w'=>e= .returned (.tuple #[])∧w'=w:=by
 obtain⟨j,hj,_⟩:=kS.1 zsg;go_enter func143,ntmps143;go_wp2;rw[Lib.run_neq_ptr_same w _ underlying155 hj];go_wp2;go_end0;exact⟨rfl,rfl⟩
def zmJ(b:Nat)(w:ax)(h0:w.cell? ⟨b,0,none⟩=some (.pointer none))(hsh:w.shape? b=some (157,2))(hfz:w.frozen? ⟨b,0,none⟩=false):
  ae 143 #[.pointer (some ⟨b,0,none⟩)] w λe w'=>e= .returned (.tuple #[])∧w'=w.setCell ⟨b,0,none⟩ (.pointer (some ⟨b,0,none⟩)):=by
 obtain⟨j,hj,hjs⟩:=kS.1 zsg;go_enter func143,ntmps143;go_wp2;rw[Lib.run_to_unsafe w ⟨b,0,none⟩ underlying155 underlying183 hj (by rw[hjs];decide) hsh (Nat.zero_lt_succ 1)];simp only[Result.andThen];rw[Oper.upon_value];go_wp2;rw[gG func206 (by kernel_rfl) (by kernel_rfl) (by kernel_rfl) (e:=Extern.AbiNoEscape.same) (by kernel_rfl)];rw[Lib.run_noEscape];simp only[Result.andThen];rw[Oper.upon_value];go_wp2;rw[Lib.run_from_unsafe w ⟨b,0,none⟩ underlying183 underlying155 hj hsh (by kernel_rfl)];simp only[Result.andThen];rw[Oper.upon_value];go_wp2;go_end0;exact⟨rfl,rfl⟩
def Wr(B b:Nat)(w:ax)(x:Nat):Prop:=x=b∨(B<=x∧∃cs fz,w.heap[x]? =some (.cells cs 5 fz))
def Wr.t{w0 w1 w2:ax}(h:Keep (Wr B b w0) w0 w1)(k:Keep (Wr B b w1) w1 w2):Keep (Wr B b w0) w0 w2:=
 h.t k (λi hi hs=>by
  by_cases e:Wr B b w0 i
  ·exact e
  rcases hs with hs|⟨h1,cs,fz,h2⟩
  ·exact .inl hs
  rw[h.block i hi e]at h2;exact .inr ⟨h1,cs,fz,h2⟩)
abbrev IsB(B b:Nat)(l:List UInt8)(w:ax):Prop:=Lib.IsBuilderF 157 5 B b (Lib.byteCells l) w
def zrP(w:ax):IsB w.heap.size w.heap.size [] (w.alloc (.cells #[.pointer none,.slice none 0 0] 157)):=
 .inl ⟨aS _,.slice none 0 0,aQ w _,⟨rfl,.inl ⟨rfl,rfl⟩⟩,by intro h;cases h⟩
def IsB.qm(h:IsB B b l w){S:Nat->Prop}(hk:Keep S w w')(hb:¬S b)(hS:∀x,B<=x->x<w.heap.size->(∃cs fz,w.heap[x]? =some (.cells cs 5 fz))->¬S x):IsB B b l w':=by
 have key:∀p,Lib.BuilderAtF 157 5 B b p (Lib.byteCells l) w->Lib.BuilderAtF 157 5 B b p (Lib.byteCells l) w':=by
  rintro p ⟨hB,v,hh,ru,Bc⟩;refine⟨hB,v,hk.heap hh hb,?_,Bc⟩;obtain⟨hl,ru⟩:=ru;refine⟨hl,?_⟩;rcases ru with h|⟨g,cap,cur,fz,hv,hbg,hg,r⟩
  ·exact .inl h
  exact .inr ⟨g,cap,cur,fz,hv,hbg,hk.heap hg (hS g hbg (lt_of_heap hg) ⟨_,_,hg⟩),r⟩
 exact h.imp (key _) (key _)
def IsB.rV(h:IsB B b l w)(hk:ak w w'):IsB B b l w':=h.qm hk (λx=>x) (λ_ _ _ _ x=>x)
def zmT(B b:Nat)(bs:List ay)(w:ax)(h:Lib.IsBuilderF 157 5 B b bs w):
  ae 143 #[.pointer (some ⟨b,0,none⟩)] w λe w'=>e= .returned (.tuple #[])∧Lib.BuilderAtF 157 5 B b (.pointer (some ⟨b,0,none⟩)) bs w'∧Keep (qJ b) w w':=by
 rcases h with h|h
 ·refine(zmJ b w h.cell0 h.shape h.frozen0).m ?_;rintro e w' ⟨rfl,rfl⟩;exact⟨rfl,h.used _,(ah (qJ b) w).tK 0 _⟩
 ·refine(zoR b w h.cell0).m ?_;rintro e w' ⟨rfl,rfl⟩;exact⟨rfl,h,ah _ _⟩
def Qz(B b:Nat)(l:List UInt8)(s:af)(w:ax)(h:IsB B b l w)(hlen:l.length+s.size<=1000000000)(hBw:B<=w.heap.size):
  ae 84 #[.pointer (some ⟨b,0,none⟩),.string s] w λe w'=>e= .returned (.tuple #[.int .i64 s.size,.nilIface])∧IsB B b (l++s.data.toList) w'∧Keep (Wr B b w) w w':=by
 obtain⟨i0,hi,Ba,D9,D6⟩:=iC zm0;obtain⟨bs,hbs⟩:=aj (Lib.byteCells l);have Zr:bs.length=l.length:=by rw[hbs];simp[Lib.byteCells]
 have h':Lib.IsBuilderF 157 5 B b bs w:=by rw[hbs];exact h
 have tN:Lib.byteCells (l++s.data.toList)=bs++Lib.strCells s:=by rw[hbs];simp[Lib.byteCells,Lib.strCells]
 have Hbl:=ag Zr;have xM:=ag tN;have zuw:=ag (zmT B b bs w h');have Hh:=ag h';clear hbs Zr tN h h';go_enter func84,ntmps84;go_wp2_with fail;refine zuw.o.m ?_;rintro e w1 ⟨rfl,h1,k1⟩;obtain⟨hB,v,Vb,ru,Bc⟩:=h1;have c0:w1.cell? ⟨b,0,none⟩=some (.pointer (some ⟨b,0,none⟩)):=by rw[oQ Vb];rfl
 have c1:w1.cell? ⟨b,1,none⟩=some v:=by rw[oQ Vb];rfl
 have Ro:=k1.size;have hl2:=Hbl.o;go_wp2_with (at_builtin;refine Lib.wpList_append_own_stringF _ rfl _ _ 153 9 rfl B 5 i0 dG bK hi Ba D9 D6 _ _ _ rfl ru s rfl ?c3 ?c4 ?c5 ?_)
 case c3=>unfold maxLen;omega
 case c4=>omega
 case c5=>omega
 intro v' w2 yT xh _;have rE:b<w1.heap.size:=lt_of_heap Vb;have zC:w2.heap[b]? =some (.cells #[.pointer (some ⟨b,0,none⟩),v] 157 (0,0)):=by rw[xh.block b rE (λe=>Bc e.s)];exact Vb
 have d0:w2.cell? ⟨b,0,none⟩=some (.pointer (some ⟨b,0,none⟩)):=by rw[oQ zC];rfl
 have d1:w2.cell? ⟨b,1,none⟩=some v:=by rw[oQ zC];rfl
 have f1:w2.frozen? ⟨b,1,none⟩=false:=bU zC 1;obtain⟨ao,n',cap,rfl⟩:∃ao n' cap,v'= .slice ao n' cap:=by
  rcases yT.2 with⟨hv,_⟩|⟨g,cap,cur,fz,hv,_⟩
  ·exact⟨_,_,_,hv⟩
  exact⟨_,_,_,hv⟩
 go_wp2
 go_ret2
 refine⟨rfl,?_,?_⟩
 ·show Lib.IsBuilderF 157 5 B b (Lib.byteCells (l++s.data.toList)) _;rw[xM.o];exact .inr (Lib.BuilderAtF.put (T:=157) (e:=5) hB zC (bs':=bs++Lib.strCells s) (by rw[aN,Lib.strCells_length];first|exact yT|(rw[hl2];exact yT)) (by decide))
 ·have k2:Keep (Wr B b w1) w1 (w2.setCell ⟨b,1,none⟩ (.slice ao n' cap)):=by
   refine((ah _ _).grown xh (λk hk=> .inl (.inr ?_))).setCell (p:=⟨b,1,none⟩) (.inl (.inl rfl)) _;rcases ru.2 with⟨hv,_⟩|⟨g,cap,cur,fz,hv,hbg,hg,_⟩
   ·rw[hv]at hk;cases hk
   ·rw[hv]at hk;obtain rfl:g=k:=aU hk;exact⟨hbg,_,_,hg⟩
  exact Wr.t (k1.m (λi _ hi=> .inl hi)) k2
def OZ(text:List Nat):List Nat:= [text.length]++text++List.replicate (200-text.length) 0
def MR(key:List Nat)(id rf:Int)(text:List Nat):List Nat:=sS (vG rf)++AY key id rf text++xor key (AY key id rf text) (OZ text)
def OT(key:List Nat)(id rf:Int)(text:List Nat):List Nat:=MR key id rf text++LW key id (MR key id rf text)
def Ns(key:List Nat)(id rf:Int)(text:List Nat):(AY key id rf text).length=12:=by rw[AY,dJ,Dh];rfl
def UX(key:List Nat)(id rf:Int)(text:List Nat):Bytes (AY key id rf text):=zo (uN _ _) _
def Il(key:List Nat)(id:Int)(s:List Nat):Bytes (LW key id s):=uN _ _
def zac(key:List Nat)(id:Int)(s:List Nat):(LW key id s).length=16:=Dh _ _
def zmZ(n:Nat):Bytes (List.replicate n 0):=λx hx=>by rw[(ji.1 hx).2];omega
def WH(text:List Nat)(h:text.length<=200):(OZ text).length=201:=by rw[OZ,aN,aN,bP];simp;omega
def Qy(key qH s:List Nat)(hs:Bytes s):Bytes (xor key qH s):=by
 intro x hx;rw[<-O9 key qH s s.length (aS _)]at hx;obtain⟨i,hi,rfl⟩:=iG hx;have:=zaa key qH s hs s.length i
 rwa [aG,aK hi]at this
def zaM(key:af)(id rf:Int)(text:af)(hk:key.size=32)(ht:text.size<=200):
  ∃BB N X V C G:af,BB=uu [text.size]++text++uu (List.replicate (200-text.size) 0)∧BB.size=201∧N=uu (AY (bs key) id rf (bs text))∧N.size=12∧X=uu (xor (bs key) (bs N) (bs BB))∧X.size=201∧
   V=uu (sS (vG rf))∧V.size=8∧C=V++N++X∧C.size=221∧G=uu (LW (bs key) id (bs C))∧G.size=16∧C++G=uu (OT (bs key) id rf (bs text)):=by
 have tb:Bytes [text.size]:=λx hx=>by rw[bJ.1 hx];omega
 have hB:bs (uu [text.size]++text++uu (List.replicate (200-text.size) 0))=OZ (bs text):=by rw[tX,tX,rM tb,rM (zmZ _),OZ,ry]
 have hBl:=WH (bs text) (by rw[ry];exact ht);have hN:=rM (UX (bs key) id rf (bs text));have hBb:Bytes (OZ (bs text)):=by rw[<-hB];exact yE _
 refine⟨_,_,_,_,_,_,rfl,?_,rfl,?_,rfl,?_,rfl,?_,rfl,?_,rfl,?_,?_⟩
 ·rw[<-ry,hB,hBl]
 ·rw[rH,Ns]
 ·rw[rH,Eh,hB,hBl]
 ·rw[rH,xU]
 ·rw[dN,dN,rH,rH,rH,xU,Ns,Eh,hB,hBl]
 ·rw[rH,zac]
 ·apply xJ;have hC:bs (uu (sS (vG rf))++uu (AY (bs key) id rf (bs text))++uu (xor (bs key) (bs (uu (AY (bs key) id rf (bs text)))) (bs (uu [text.size]++text++uu (List.replicate (200-text.size) 0)))))=MR (bs key) id rf (bs text):=by
   rw[tX,tX,rM (uj _),hN,hB,rM (Qy _ _ _ hBb),MR]
  have hb:Bytes (OT (bs key) id rf (bs text)):=vg (by rw[<-hC];exact yE _) (Il _ _ _);rw[tX,hC,rM (Il _ _ _),rM hb,OT]
def zrt(key:af)(id rf:Int)(text:af)(hk:key.size=32)(zM:0<=id)(hi1:id<32)(hv0:1<=rf)(hv1:rf<=1099511627776)(ht:text.size<=200)(w:ax)(Vr:rF w):
  ae 191 #[.string key,.int .i64 id,.int .i64 rf,.string text] w λe w'=>e= .returned (.tuple #[.string (uu (OT (bs key) id rf (bs text))),.nilIface])∧ak w w':=by
 obtain⟨BB,N,X,V,C,G,eB,sB,eN,sN,eX,sX,eV,sV,eC,sC,eG,sG,eR⟩:=zaM key id rf text hk ht;have b1:((key.size:Int) !=32)=false:=by rw[hk];rfl
 have j1:(text.size:Int)<=200:=by omega
 have hn:∀w,rF w->ae 250 #[.string key,.int .i64 id,.int .i64 rf,.string text] w (au (.string N) w):=by rw[eN];exact zmB key id rf text (by omega) (by omega)
 have hx:∀w,ae 220 #[.string key,.string N,.string BB] w (au (.tuple #[.string X,.nilIface]) w):=by rw[eX];exact zky key N BB hk sN (by omega)
 have hm:∀w,ae 155 #[.int .i64 rf] w (au (.string V) w):=by rw[eV];exact I5 rf
 have hg:∀w,rF w->ae 219 #[.string key,.int .i64 id,.string C] w (au (.string G) w):=by rw[eG];exact zew key id C (by omega) (by omega)
 have zyy:¬(9223372036854775807<V.size+N.size):=by omega
 have zyx:¬(9223372036854775807<V.size+N.size+X.size):=by omega
 have zyw:¬(9223372036854775807<C.size+G.size):=by omega
 rw[<-eR];have EB:=ag eB;have EC:=ag eC;clear eB sB eN sN eX sX eV sV eC sC eG sG eR hk;have uU:∀w:ax,wU (w.alloc (.cells #[.int .u8 (text.size:Int)] 5)).drew w.heap.size 5 [text.size]:=λw=>⟨_,_,aQ w _,rfl,λi _=>by simp⟩
 have hsB:=λ(w:ax) (b:Nat) (hb:wU w b 5 [text.size])=>yF (P:=prog) (cap:=1) hb dG eQ bK;have hsD:∀w:ax,(convert 153 9 (.slice (some ⟨w.heap.size,0,none⟩) 1 1)).run prog (w.alloc (.cells #[.int .u8 (text.size:Int)] 5)).drew= .ok (.string (uu [text.size])) (w.alloc (.cells #[.int .u8 (text.size:Int)] 5)).drew:=λw=>hsB _ _ (uU w);have hsE:∀w:ax,(convert 153 9 (.slice (some ⟨w.heap.size,0,none⟩) 1 1)).run prog (w.alloc (.cells #[.int .u8 (text.size:Int)] 5))= .ok (.string (uu [text.size])) (w.alloc (.cells #[.int .u8 (text.size:Int)] 5)):=λw=>hsB _ _ ⟨_,_,aQ w _,rfl,λi _=>by simp⟩;have hsU:∀a w2:ax,ak a w2->(∀b,wU a b 5 [text.size]->(convert 153 9 (.slice (some ⟨b,0,none⟩) 1 1)).run prog w2= .ok (.string (uu [text.size])) w2)∧(∀b,wU a b 5 [text.size]->(convert 153 9 (.slice (some ⟨b,0,none⟩) 1 1)).run prog w2.drew= .ok (.string (uu [text.size])) w2.drew):=λa w2 K=>by
  refine⟨λb hb=> ?_,λb hb=> ?_⟩<;>obtain⟨cur,fr,h,r⟩:=hb
  ·exact hsB _ _ ⟨cur,fr,K.heap h (λx=>x),r⟩
  exact hsB _ _ ⟨cur,fr,K.heap h (λx=>x),r⟩
 have e1:IntKind.u8.wrap (text.size:Int)=(text.size:Int):=by rw[IntKind.wrap_u8];omega
 have e2:IntKind.i64.wrap (200-(text.size:Int))=200-(text.size:Int):=aY _ (by omega);have ZN:¬(9223372036854775807<(uu [text.size]).size+text.size):=by rw[rH];simp;omega
 have OW:¬(9223372036854775807<(uu [text.size]).size+text.size+(uu (List.replicate (200-text.size) 0)).size):=by rw[rH,rH];simp;omega
 go_enter func191,ntmps191;go_wp2_with fail
 go_region_law (go_simp;go_at_call 79;refine(zaQ _ (200-text.size) (by omega) (by omega) _).m ?_;rintro e w2 ⟨rfl,K2⟩;have hsk:=(hsU _ _ K2).1;have zv0:=(hsU _ _ K2).2)
 all_goals rw[<-EB.o]
 all_goals go_wp2_with fail
 all_goals (refine(hn _ (Vr.qm (S:=qw) (by first|exact((((ah qw w).alloc _).drew).qo K2)|exact(((ah qw w).drew.qo K2).alloc _)) (λx=>x))).m ?_;rintro e w3 ⟨rfl,K3⟩)
 all_goals have K4:ak w w3:=by first|exact(((ah qw w).alloc _).drew.qo K2).qo K3|exact((((ah qw w).drew).qo K2).alloc _).qo K3
 all_goals go_wp2_with fail
 all_goals (refine(hx _).m ?_;rintro e w4 ⟨rfl,K5⟩)
 all_goals have K6:=K4.qo K5
 all_goals clear K4 K5 hx hn uU hsB hsD hsE hsU ZN OW e1 e2
 all_goals go_wp2_with fail
 all_goals (refine(hm _).m ?_;rintro e w5 ⟨rfl,K7⟩)
 all_goals have K8:=K6.qo K7
 all_goals clear hm
 all_goals go_wp2_with fail
 all_goals rw[<-EC.o]
 all_goals (refine(hg _ (Vr.qm K8 (λx=>x))).m ?_;rintro e w6 ⟨rfl,K9⟩)
 all_goals go_wp2_with fail
 all_goals go_ret2
 all_goals exact⟨rfl,K8.qo K9⟩
def Ov(l:List Nat):Nat:=l.foldl (λn b=>n*256+b) 0
def QH(l:List Nat)(k:Nat)(hk:k<l.length):Ov (l.take (k+1))=Ov (l.take k)*256+l.getD k 0:=by rw[aZ hk,Ov,iL,aG,aK hk];rfl
def zrI(l:List Nat)(h:∀x∈l,x<256)(k:Nat)(hk:k<=l.length):Ov (l.take k)<256^k:=by
 induction k with
 | zero=>simp[Ov]
 | succ k ih=>
  rw[QH l k hk,mF];have h1:=ih (by omega);have h2:l.getD k 0<256:=by rw[aG,aK hk];exact h _ (fO _)
  omega
def zfC(n:Nat):Int:=wrap64 (n:Int)
def zu0(x b:Nat)(hb:b<256):(x*256)|||b=x*256+b:=by have:=Nat.shiftLeft_add_eq_or_of_lt (i:=8) (b:=b) (by omega) x;rw[Nat.shiftLeft_eq]at this;exact this.s
def zor(n b:Nat)(hb:b<256):bits .or .i64 (wrap64 (zfC n*256)) (b:Int)=zfC (n*256+b):=by
 have h1:(BitVec.ofInt 64 (wrap64 (wrap64 (n:Int)*256))).toNat=(n % 72057594037927936)*256:=by
  rw[BitVec.toNat_ofInt];unfold wrap64
  have:((2^64:Nat):Int)=18446744073709551616:=by decide
  rw[this];omega
 have h2:(BitVec.ofInt 64 (b:Int)).toNat=b:=by rw[lK,mD];exact jM (by omega)
 show IntKind.i64.wrap ((BitVec.ofInt 64 (wrap64 (wrap64 (n:Int)*256))|||BitVec.ofInt 64 (b:Int)).toNat:Int)=wrap64 ((n*256+b:Nat):Int);rw[pG,h1,h2,zu0 _ _ hb,IntKind.wrap_i64];unfold wrap64;omega
def QY(key s:List Nat):List Nat:=xor key ((s.drop 8).take 12) ((s.drop 20).take 201)
def yY(key s:List Nat):List Nat:=((QY key s).drop 1).take (min ((QY key s).getD 0 0) 200)
def yV(s:List Nat):Int:=zfC (Ov (s.take 8))
def TQ(key:List Nat)(id:Int)(s:List Nat):Prop:=LW key id (s.take 221)=(s.drop 221).take 16
abbrev zQ(a b:af):Bool:= @BEq.beq (List UInt8) (@List.instBEq UInt8 instBEqOfDecidableEq) a.toList b.toList
def CJ{a b:af}(h:a≠b):zQ a b=false:=by unfold zQ;rw[eu,dI,dI];exact λe=>h (xJ (by rw[bs,bs,e]))
def BO(a:af):zQ a a=true:=by unfold zQ;exact fF _
def zpB(key:af)(id:Int)(s:af)(hk:key.size=32)(hs:237<=s.size)(JO:s.size<=1000)(hb:¬TQ (bs key) id (bs s))(w:ax)(V:rF w):
  ae 156 #[.string key,.int .i64 id,.string s] w (au (.tuple #[.int .i64 0,.string ⟨#[]⟩,.iface 34 (.int .i64 15)]) w):=by
 have b1:((key.size:Int) !=32)=false:=by rw[hk];rfl
 have b2:decide ((s.size:Int)<237)=false:=by simp;omega
 have b3:(221:Int)<=s.size:=by omega
 have b4:(237:Int)<=s.size:=by omega
 obtain⟨C,hC⟩:=aj (s.extract 0 221);obtain⟨M,hM⟩:=aj (s.extract 221 237);obtain⟨G,hG⟩:=aj (uu (LW (bs key) id (bs C)));have hCs:C.size<=1000:=by rw[hC,fK];omega
 have ht:=zew key id C (by omega) hCs;rw[<-hG]at ht;have Bc:G≠M:=λe=>hb (by have:=dB bs e;rw[hG,rM (Il _ _ _),hC,hM,rQ,rQ,dF]at this;exact this)
 have HC:=ag hC;have HM:=ag hM;have hq:=λX:Ext w=>ht (w.ext X) (V.qm (rZ w X) (λx=>x));rw[hC]at hq;clear hC hM hG hk hb ht;go_enter func156,ntmps156;go_wp2_with fail;refine rX (by kernel_rfl) (by kernel_rfl) ?_
 repeat(quiet_step ((go_at_call 219;exact vw _ (hq _))))
 refine dP ?_;intro X;rw[<-HM.o];have zC:=CJ Bc;unfold zQ at zC;rw[zC,oL];go_wp2_with fail
 go_ret3
 exact⟨rfl,rZ w X⟩
def VU(s:af)(k:Nat)(h:k<s.size):s[k].toNat<256:=s[k].toNat_lt
def zrE(key:af)(id:Int)(s:af)(hk:key.size=32)(hs:237<=s.size)(JO:s.size<=1000)(hb:TQ (bs key) id (bs s))(w:ax)(V:rF w):
  ae 156 #[.string key,.int .i64 id,.string s] w λe w'=>e= .returned (.tuple #[.int .i64 (yV (bs s)),.string (uu (yY (bs key) (bs s))),.nilIface])∧ak w w':=by
 have b1:((key.size:Int) !=32)=false:=by rw[hk];rfl
 have b2:decide ((s.size:Int)<237)=false:=by simp;omega
 have b3:(221:Int)<=s.size:=by omega
 have b4:(237:Int)<=s.size:=by omega
 have b5:(20:Int)<=s.size:=by omega
 obtain⟨C,hC⟩:=aj (s.extract 0 221);obtain⟨M,hM⟩:=aj (s.extract 221 237);obtain⟨NN,hNN⟩:=aj (s.extract 8 20);obtain⟨XX,hXX⟩:=aj (s.extract 20 221);obtain⟨G,hG⟩:=aj (uu (LW (bs key) id (bs C)));obtain⟨T,hT⟩:=aj (uu (xor (bs key) (bs NN) (bs XX)));have hCs:C.size<=1000:=by rw[hC,fK];omega
 have hXs:XX.size=201:=by rw[hXX,fK];omega
 have hTs:T.size=201:=by rw[hT,rH,Eh,ry,hXs]
 have hTe:bs T=QY (bs key) (bs s):=by rw[hT,rM (Qy _ _ _ (yE _)),hNN,hXX,rQ,rQ,QY]
 have ht:=zew key id C (by omega) hCs;rw[<-hG]at ht;have heq:G=M:=xJ (by rw[hG,rM (Il _ _ _),hC,hM,rQ,rQ,dF];exact hb);have hx:=zky key NN XX hk (by rw[hNN,fK];omega) (by omega);rw[<-hT]at hx;have HC:=ag hC;have HM:=ag hM;have HN:=ag hNN;have HX:=ag hXX;have HT:=ag hTe;have NV:=ag hTs;have hq:=λX:Ext w=>ht (w.ext X) (V.qm (rZ w X) (λx=>x));rw[hC]at hq;rw[hNN,hXX]at hx;have hM2:=hM;rw[<-heq]at hM2;have HM2:=ag hM2;clear hC hM hG hk hb ht hNN hXX hT hTe heq hM2 hTs HM hXs;go_enter func156,ntmps156;go_wp2_with fail;refine rX (by kernel_rfl) (by kernel_rfl) ?_
 repeat(quiet_step ((go_at_call 219;exact vw _ (hq _))))
 refine dP ?_;intro X;rw[<-HM2.o];clear hq;have zC:=BO G;unfold zQ at zC;rw[zC,qi];clear zC;go_wp2_with fail;refine qW (λw2=>ak w w2) (rZ w X) ?_;clear X;intro w2 K2
 go_loop [9,31] (λv i=>∃k:Nat,k<=8∧i= .int .i64 k∧v= .int .i64 (zfC (Ov ((bs s).take k)))) (λ_ i=>8-(intOf i).toNat)
 case atStart=>exact⟨0,by omega,rfl,by rw[dD];show _=Value.int .i64 (wrap64 ((0:Nat):Int));unfold wrap64;rfl⟩
 case round=>
  obtain⟨k,hk,rfl,rfl⟩:=hrel;by_cases rE:k<8
  ·have j1:(k:Int)<8:=by omega
   have Tu:k<s.size:=by omega
   have hki:(k:Int)<s.size:=by omega
   have wJ:=QH (bs s) k (by rw[ry];exact Tu);rw[xZ s k Tu]at wJ;have hor:=zor (Ov ((bs s).take k)) s[k].toNat s[k].toNat_lt;rw[<-wJ]at hor;have Jm:=ag wJ;have Hor:=ag hor;clear wJ hor;have hw8:=VU s k Tu;go_wp2_with fail;exact⟨⟨k+1,by omega,by go_num,by rw[Hor.o]⟩,by simp[intOf];omega⟩
  obtain rfl:k=8:=by omega
  go_wp2_with fail;have hq:=λX:Ext w2=>hx (w2.ext X);clear hx;refine rX (by kernel_rfl) (by kernel_rfl) ?_
  repeat(quiet_step ((go_at_call 220;exact vw _ (hq _))))
  refine dP ?_;intro X;clear hq;have t1:(0:Int)<T.size:=by rw[NV.o];decide
  have t2:0<T.size:=by rw[NV.o];decide
  obtain⟨b0,Vd⟩:=aj (T[0].toNat);have hb1:b0<256:=by rw[Vd];exact T[0].toNat_lt
  obtain⟨m,hm⟩:=aj (min b0 200);have YB:m<=200:=by omega
  have YA:min (b0:Int) 200=(m:Int):=by omega
  have hm3:(1:Int)+(m:Int)<=T.size:=by rw[NV.o];omega
  have hbT:bs T=QY (bs key) (bs s):=HT.o;have tN:T.extract 1 (1+m)=uu (yY (bs key) (bs s)):=by
   apply xJ;rw[rQ,hbT,yY,rM (zo (NF (by rw[<-hbT];exact yE T) _) _),<-hbT,xZ T 0 t2,<-Vd,<-hm]
   congr 1
   omega
  have xM:=ag tN;have zz9:T[0].toNat=b0:=Vd.s;have e0:IntKind.i64.wrap (b0:Int)=(b0:Int):=aY _ (by omega);have e4:(0:Int)<=1+(m:Int):=by omega
  have e1:IntKind.i64.wrap (1+(m:Int))=1+(m:Int):=aY _ (by omega);have e2:(1+(m:Int)).toNat=1+m:=by omega
  have e3:(1:Int)<=1+(m:Int):=by omega
  clear tN hbT hm Vd;go_wp2_with fail;refine rX (by kernel_rfl) (by kernel_rfl) ?_
  repeat(quiet_step (fail))
  refine dP ?_;intro Y;go_wp2_with fail
  go_ret3
  refine⟨?_,(K2.qo (rZ w2 X)).qo (rZ _ Y)⟩;rw[<-xM.o];rfl
def JC(s:af)(hs:8<=s.size)(JO:s.size<=1000000)(w:ax):
  ae 205 #[.string s] w λe w'=>e= .returned (.int .i64 (yV (bs s)))∧w'=w:=by
 go_enter func205,ntmps205;go_wp2_with fail
 go_loop [3,5] (λv i=>∃(k N:Nat),k<=8∧i= .int .i64 k∧v= .int .u64 (N:Int)∧Hid (N=Ov ((bs s).take k))) (λ_ i=>8-(intOf i).toNat)
 case atStart=>exact⟨0,0,by omega,rfl,rfl,by show 0=_;rw[dD];rfl⟩
 case round=>
  obtain⟨k,N,hk,rfl,rfl,hN⟩:=hrel;by_cases rE:k<8
  ·have j1:(k:Int)<8:=by omega
   have Tu:k<s.size:=by omega
   have hki:(k:Int)<s.size:=by omega
   have hb8:=VU s k Tu;have hN7:N<72057594037927936:=by
    have h1:=zrI (bs s) (yE s) k (by rw[ry];omega);rw[<-hN.o]at h1;have h2:256^k<=256^7:=mY (by omega) (by omega);have h3:(256:Nat)^7=72057594037927936:=by decide
    omega
   have wJ:=QH (bs s) k (by rw[ry];exact Tu);rw[xZ s k Tu,<-hN.o]at wJ;have Jm:Hid (N*256+s[k].toNat=Ov ((bs s).take (k+1))):=wJ.s;clear wJ;go_wp2_with fail;exact⟨⟨k+1,N*256+s[k].toNat,by omega,by go_num,by congr 1,Jm⟩,by simp[intOf];omega⟩
  obtain rfl:k=8:=by omega
  go_wp2_with fail;go_ret;refine⟨?_,rfl⟩;rw[yV,zfC,<-hN.o]
  try rfl
def zjd(RB:Nat)(key:af)(id:Int)(s:af)(hk:key.size=32)(hs:237<=s.size)(JO:s.size<=1000)(hb:¬TQ (bs key) id (bs s))(w:ax)(RR:D7 w RB):
  ae 142 #[.pointer (some ⟨RB,0,none⟩),.string key,.int .i64 id,.string s] w (au (.tuple #[.int .i64 0,.string ⟨#[]⟩,.int .i64 15]) w):=by
 have b1:((key.size:Int) !=32)=false:=by rw[hk];rfl
 have b2:decide ((s.size:Int)<237)=false:=by simp;omega
 have b3:(221:Int)<=s.size:=by omega
 have b4:(237:Int)<=s.size:=by omega
 obtain⟨C,hC⟩:=aj (s.extract 0 221);obtain⟨M,hM⟩:=aj (s.extract 221 237);obtain⟨A,hA⟩:=aj (uu (sS (vG id)));have bA:bs A=sS (vG id):=by rw[hA,rM (uj _)]
 have hCs:C.size<=1000:=by rw[hC,fK];omega
 have hl2:(rG 103 ([key,A,C].map bs)).length<=100000:=by simp only[bH,dh,bA,rG,dY,iw,aN,bf,cZ,xU,ry];omega
 obtain⟨G,hG⟩:=aj (uu (mark 103 ([key,A,C].map bs)));have hGt:bs G=LW (bs key) id (bs C):=by rw[hG,rM (uN _ _),LW];simp only[bH,dh,bA]
 have Bc:G≠M:=λe=>hb (by have:=dB bs e;rw[hGt,hC,hM,rQ,rQ,dF]at this;exact this)
 have hnA:∀w,ae 118 #[.int .i64 id] w (au (.string A) w):=by rw[hA];exact Ai id
 have HC:=ag hC;have HM:=ag hM;have HG:=ag hG;have HL:=ag hl2;clear hM hG hk hb bA hGt hA hl2;subst hC;go_enter func142,ntmps142;go_wp2_with fail;refine UB [0,1,2,3,4,5,6,8,9,12,13] [7,10,11,14,15] (by kernel_rfl) (by kernel_rfl) (λc a d v w h=>by cases d<;>exact h) ?_;simp only[qC,aF,aH,aI]
 repeat(refine xy (λK hK=> ?_);go_simp;refine hK _ ?_;clear hK K)
 refine yf ?_;go_wp2_with fail;refine(hnA _).m ?_;rintro e w1 ⟨rfl,K1⟩;go_wp2_with fail;have Xl:=(ah qw w).drew.qo K1;refine(y9 RB 103 (by decide) _ [key,A,s.extract 0 221] _ (Keep.heap (Xl.alloc _) RR (λx=>x)) (Strs.lit (w:=w1) [key,A,s.extract 0 221]) HL.o (by simp)).m ?_;rw[<-HG.o];rintro e w2 ⟨rfl,K2⟩;rw[<-HM.o];have zC:=CJ Bc;unfold zQ at zC;go_wp2_with fail
 go_ret3
 exact⟨rfl,(Xl.alloc _).qo K2⟩
def zlN(RB:Nat)(key:af)(id:Int)(s:af)(hk:key.size=32)(hs:237<=s.size)(JO:s.size<=1000)(hb:TQ (bs key) id (bs s))(w:ax)(RR:D7 w RB):
  ae 142 #[.pointer (some ⟨RB,0,none⟩),.string key,.int .i64 id,.string s] w λe w'=>e= .returned (.tuple #[.int .i64 (yV (bs s)),.string (uu (yY (bs key) (bs s))),.int .i64 0])∧ak w w':=by
 have b1:((key.size:Int) !=32)=false:=by rw[hk];rfl
 have b2:decide ((s.size:Int)<237)=false:=by simp;omega
 have b3:(221:Int)<=s.size:=by omega
 have b4:(237:Int)<=s.size:=by omega
 have b5:(20:Int)<=s.size:=by omega
 obtain⟨C,hC⟩:=aj (s.extract 0 221);obtain⟨M,hM⟩:=aj (s.extract 221 237);obtain⟨NN,hNN⟩:=aj (s.extract 8 20);obtain⟨XX,hXX⟩:=aj (s.extract 20 221);obtain⟨A,hA⟩:=aj (uu (sS (vG id)));obtain⟨T,hT⟩:=aj (uu (xor (bs key) (bs NN) (bs XX)));have bA:bs A=sS (vG id):=by rw[hA,rM (uj _)]
 have hCs:C.size<=1000:=by rw[hC,fK];omega
 have hXs:XX.size=201:=by rw[hXX,fK];omega
 have hTs:T.size=201:=by rw[hT,rH,Eh,ry,hXs]
 have hTe:bs T=QY (bs key) (bs s):=by rw[hT,rM (Qy _ _ _ (yE _)),hNN,hXX,rQ,rQ,QY]
 have hl2:(rG 103 ([key,A,C].map bs)).length<=100000:=by simp only[bH,dh,bA,rG,dY,iw,aN,bf,cZ,xU,ry];omega
 obtain⟨G,hG⟩:=aj (uu (mark 103 ([key,A,C].map bs)));have hGt:bs G=LW (bs key) id (bs C):=by rw[hG,rM (uN _ _),LW];simp only[bH,dh,bA]
 have heq:G=M:=xJ (by rw[hGt,hC,hM,rQ,rQ,dF];exact hb);have hnA:∀w,ae 118 #[.int .i64 id] w (au (.string A) w):=by rw[hA];exact Ai id
 have hx:=zaR key NN XX hk (by rw[hNN,fK];omega) (by omega);rw[<-hT]at hx;have FM:=JC s (by omega) (by omega);have HG:=ag hG;have HL:=ag hl2;have HT:=ag hTe;have NV:=ag hTs;rw[hNN,hXX]at hx;have hM2:=hM;rw[<-heq]at hM2;have HM2:=ag hM2;clear hM hG hk hb bA hGt hA hl2 hNN hXX hT hTe heq hM2 hTs hXs;subst hC;go_enter func142,ntmps142;go_wp2_with fail;refine UB [0,1,2,3,4,5,6,8,9,12,13] [7,10,11,14,15] (by kernel_rfl) (by kernel_rfl) (λc a d v w h=>by cases d<;>exact h) ?_;simp only[qC,aF,aH,aI]
 repeat(refine xy (λK hK=> ?_);go_simp;refine hK _ ?_;clear hK K)
 refine yf ?_;go_wp2_with fail;refine(hnA _).m ?_;rintro e w1 ⟨rfl,K1⟩;go_wp2_with fail;have Xl:=(ah qw w).drew.qo K1;refine(y9 RB 103 (by decide) _ [key,A,s.extract 0 221] _ (Keep.heap (Xl.alloc _) RR (λx=>x)) (Strs.lit (w:=w1) [key,A,s.extract 0 221]) HL.o (by simp)).m ?_;rw[<-HG.o];rintro e w2 ⟨rfl,K2⟩;rw[<-HM2.o];have LQ:=(Xl.alloc _).qo K2;clear K1 Xl K2 hnA;go_wp2_with fail;have hq:=λX:Ext w2=>hx (w2.ext X);clear hx;refine rX (by kernel_rfl) (by kernel_rfl) ?_
 repeat(quiet_step ((go_at_call 119;exact vw _ (hq _))))
 refine dP ?_;intro X;clear hq;have t1:(0:Int)<T.size:=by rw[NV.o];decide
 have t2:0<T.size:=by rw[NV.o];decide
 obtain⟨b0,Vd⟩:=aj (T[0].toNat);have hb1:b0<256:=by rw[Vd];exact T[0].toNat_lt
 obtain⟨m,hm⟩:=aj (min b0 200);have YB:m<=200:=by omega
 have hm3:(1:Int)+(m:Int)<=T.size:=by rw[NV.o];omega
 have hbT:bs T=QY (bs key) (bs s):=HT.o;have tN:T.extract 1 (1+m)=uu (yY (bs key) (bs s)):=by
  apply xJ;rw[rQ,hbT,yY,rM (zo (NF (by rw[<-hbT];exact yE T) _) _),<-hbT,xZ T 0 t2,<-Vd,<-hm]
  congr 1
  omega
 have xM:=ag tN;have zz9:T[0].toNat=b0:=Vd.s;have e0:IntKind.i64.wrap (b0:Int)=(b0:Int):=aY _ (by omega);have e1:IntKind.i64.wrap (1+(m:Int))=1+(m:Int):=aY _ (by omega);have e2:(1+(m:Int)).toNat=1+m:=by omega
 have e3:(1:Int)<=1+(m:Int):=by omega
 have e4:(0:Int)<=1+(m:Int):=by omega
 have KX:=LQ.qo (rZ w2 X);have hn3:=λY:Ext (w2.ext X)=>FM ((w2.ext X).ext Y);clear tN hbT Vd FM;by_cases zqI:b0<=200
 ·obtain rfl:m=b0:=by omega
  have d1:decide ((200:Int)<(m:Int))=false:=by simp;omega
  clear hm;go_wp2_with fail;refine rX (by kernel_rfl) (by kernel_rfl) ?_
  repeat(quiet_step ((go_at_call 205;exact Qb _ (hn3 _))))
  refine dP ?_;intro Y;go_wp2_with fail
  go_ret3
  refine⟨?_,KX.qo (rZ _ Y)⟩;rw[<-xM.o];rfl
 ·obtain rfl:m=200:=by omega
  have d1:decide ((200:Int)<(b0:Int))=true:=by simp;omega
  have e5:IntKind.i64.wrap 201=201:=aY _ (by omega);have e6:(201:Int)<=T.size:=by rw[NV.o];decide
  clear hm;go_wp2_with fail;refine rX (by kernel_rfl) (by kernel_rfl) ?_
  repeat(quiet_step ((go_at_call 205;exact Qb _ (hn3 _))))
  refine dP ?_;intro Y;go_wp2_with fail
  go_ret3
  refine⟨?_,KX.qo (rZ _ Y)⟩;rw[<-xM.o];rfl
def zjy(RB:Nat)(key:af)(id rf:Int)(text:af)(hk:key.size=32)(zM:0<=id)(hi1:id<32)(hv0:1<=rf)(hv1:rf<=1099511627776)(ht:text.size<=200)(w:ax)(RR:D7 w RB):
  ae 60 #[.pointer (some ⟨RB,0,none⟩),.string key,.int .i64 id,.int .i64 rf,.string text] w λe w'=>e= .returned (.tuple #[.string (uu (OT (bs key) id rf (bs text))),.int .i64 0])∧ak w w':=by
 obtain⟨BB,N,X,V,C,G,eB,sB,eN,sN,eX,sX,eV,sV,eC,sC,eG,sG,eR⟩:=zaM key id rf text hk ht;obtain⟨A,hA⟩:=aj (uu (sS (vG id)));have bA:bs A=sS (vG id):=by rw[hA,rM (uj _)]
 have bV:bs V=sS (vG rf):=by rw[eV,rM (uj _)]
 obtain⟨M,hM⟩:=aj (uu (mark 110 ([key,A,V,text].map bs)));have hMs:(12:Int)<=M.size:=by rw[hM,rH,Dh];decide
 have hMe:M.extract 0 12=N:=by apply xJ;rw[rQ,hM,rM (uN _ _),dF,eN,AY,rM (zo (uN _ _) _)];simp only[bH,dh,bA,bV]
 have b1:((key.size:Int) !=32)=false:=by rw[hk];rfl
 have j1:(text.size:Int)<=200:=by omega
 have hx:∀w,ae 119 #[.string key,.string N,.string BB] w (au (.tuple #[.string X,.int .i64 0]) w):=by rw[eX];exact zaR key N BB hk sN (by omega)
 have hnV:∀w,ae 118 #[.int .i64 rf] w (au (.string V) w):=by rw[eV];exact Ai rf
 have hnA:∀w,ae 118 #[.int .i64 id] w (au (.string A) w):=by rw[hA];exact Ai id
 have YS:(rG 110 ([key,A,V,text].map bs)).length<=100000:=by simp only[bH,dh,bA,bV,rG,dY,iw,aN,bf,cZ,xU,ry];omega
 have hl2:(rG 103 ([key,A,C].map bs)).length<=100000:=by simp only[bH,dh,bA,rG,dY,iw,aN,bf,cZ,xU,ry];omega
 have hmG:uu (mark 103 ([key,A,C].map bs))=G:=by rw[eG,LW];simp only[bH,dh,bA]
 have zyy:¬(9223372036854775807<V.size+N.size):=by omega
 have zyx:¬(9223372036854775807<V.size+N.size+X.size):=by omega
 have zyw:¬(9223372036854775807<C.size+G.size):=by omega
 rw[<-eR];have EB:=ag eB;have EC:=ag eC;have EM:=ag hM;have EN:=ag hMe;have EG:=ag hmG;have HL1:=ag YS;have HL2:=ag hl2;clear eB sB eN sN eX sX eV sV eC sC eG sG eR hk hA bA bV hM hMe hmG YS hl2;go_enter func60,ntmps60;go_wp2_with fail;refine(MI id 0 31 (by omega) (by omega) w).m ?_;rintro e w1 ⟨rfl,vF⟩;subst w1;go_wp2_with fail;refine(MI rf 1 1099511627776 (by omega) (by omega) w).m ?_;rintro e w1 ⟨rfl,vF⟩;subst w1;go_wp2_with fail;refine(hnA _).m ?_;rintro e w1 ⟨rfl,K1⟩;go_wp2_with fail;refine(hnV _).m ?_;rintro e w2 ⟨rfl,K2⟩;have LQ:=K1.qo K2;go_wp2_with fail;refine(y9 RB 110 (by decide) _ [key,A,V,text] _ (Keep.heap (LQ.alloc _) RR (λx=>x)) (Strs.lit (w:=w2) [key,A,V,text]) HL1.o (by simp)).m ?_;rw[<-EM.o];rintro e w3 ⟨rfl,K3⟩;have K3':=(LQ.alloc _).qo K3;clear K1 K2 LQ K3;go_wp2_with fail;rw[EN.o];have uU:∀w:ax,wU (w.alloc (.cells #[.int .u8 (text.size:Int)] 5)).drew w.heap.size 5 [text.size]:=λw=>⟨_,_,aQ w _,rfl,λi _=>by simp⟩
 have hsB:=λ(w:ax) (b:Nat) (hb:wU w b 5 [text.size])=>yF (P:=prog) (cap:=1) hb dG eQ bK;have hsD:∀w:ax,(convert 153 9 (.slice (some ⟨w.heap.size,0,none⟩) 1 1)).run prog (w.alloc (.cells #[.int .u8 (text.size:Int)] 5)).drew= .ok (.string (uu [text.size])) (w.alloc (.cells #[.int .u8 (text.size:Int)] 5)).drew:=λw=>hsB _ _ (uU w);have hsE:∀w:ax,(convert 153 9 (.slice (some ⟨w.heap.size,0,none⟩) 1 1)).run prog (w.alloc (.cells #[.int .u8 (text.size:Int)] 5))= .ok (.string (uu [text.size])) (w.alloc (.cells #[.int .u8 (text.size:Int)] 5)):=λw=>hsB _ _ ⟨_,_,aQ w _,rfl,λi _=>by simp⟩;have hsU:∀a w2:ax,ak a w2->(∀b,wU a b 5 [text.size]->(convert 153 9 (.slice (some ⟨b,0,none⟩) 1 1)).run prog w2= .ok (.string (uu [text.size])) w2)∧(∀b,wU a b 5 [text.size]->(convert 153 9 (.slice (some ⟨b,0,none⟩) 1 1)).run prog w2.drew= .ok (.string (uu [text.size])) w2.drew):=λa w2 K=>by
  refine⟨λb hb=> ?_,λb hb=> ?_⟩<;>obtain⟨cur,fr,h,r⟩:=hb
  ·exact hsB _ _ ⟨cur,fr,K.heap h (λx=>x),r⟩
  exact hsB _ _ ⟨cur,fr,K.heap h (λx=>x),r⟩
 have e1:IntKind.u8.wrap (text.size:Int)=(text.size:Int):=by rw[IntKind.wrap_u8];omega
 have e2:IntKind.i64.wrap (200-(text.size:Int))=200-(text.size:Int):=aY _ (by omega);have ZN:¬(9223372036854775807<(uu [text.size]).size+text.size):=by rw[rH];simp;omega
 have OW:¬(9223372036854775807<(uu [text.size]).size+text.size+(uu (List.replicate (200-text.size) 0)).size):=by rw[rH,rH];simp;omega
 go_region_law (first
  | (go_simp;go_at_call 34;refine(Ky _ (200-text.size) (by omega) (by omega) _).m ?_;rintro e w4 ⟨rfl,K4⟩;have hsk:=(hsU _ _ K4).1;have zv0:=(hsU _ _ K4).2)
  | (go_simp;go_at_call 119;rw[<-EB.o];refine(hx _).m ?_;rintro e w5 ⟨rfl,K5⟩))
 all_goals have K6:ak w w5:=by first|exact((K3'.alloc _).drew.qo K4).qo K5|exact((K3'.drew.qo K4).alloc _).qo K5
 all_goals clear K3' K4 K5 hx uU hsB hsD hsE hsU hsk zv0 ZN OW e1 e2
 all_goals go_wp2_with fail
 all_goals (refine(hnV _).m ?_;rintro e w6 ⟨rfl,K7⟩)
 all_goals have K8:=K6.qo K7
 all_goals clear hnV K6 K7
 all_goals go_wp2_with fail
 all_goals rw[<-EC.o]
 all_goals (refine(hnA _).m ?_;rintro e w7 ⟨rfl,K9⟩)
 all_goals have BC:=K8.qo K9
 all_goals go_wp2_with fail
 all_goals (refine(y9 RB 103 (by decide) _ [key,A,C] _ (Keep.heap (BC.alloc _) RR (λx=>x)) (Strs.lit (w:=w7) [key,A,C]) HL2.o (by simp)).m ?_;rw[EG.o];rintro e w8 ⟨rfl,K11⟩)
 all_goals go_wp2_with fail
 all_goals go_ret2
 all_goals exact⟨rfl,(BC.alloc _).qo K11⟩
