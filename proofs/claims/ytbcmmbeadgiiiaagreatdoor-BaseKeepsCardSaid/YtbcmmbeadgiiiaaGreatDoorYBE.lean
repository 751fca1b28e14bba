import Derived.Test.YtbcmmbeadgiiiaaGreatDoorYAW
import Derived.Test.YtbcmmbeadgiiiaaGreatDoorYAX
import Derived.Test.YtbcmmbeadgiiiaaGreatDoorYBD
set_option linter.all false
namespace Go.Proofs.YtbcmmbeadgiiiaaGreatDoor
open Go.RowKit Tryz
set_option maxRecDepth 100000
set_option maxHeartbeats 16000000
variable{L:List qP}{base:Nat}{S:Nat->Prop}{w w':ax}{v:ay}{x:qP}
section
open Go.Lib
def zjf{x:sW}(h:MO x):pieces 32 (DY x++ [32,32])=x.1.data.toList::(x.2.1.data.toList::x.2.2.map itoa)++ [[],[]]:=by
 have e:DY x++ [32,32]=x.1.data.toList++(x.2.1.data.toList::x.2.2.map itoa++ [[],[]]).flatMap (λq=>(32:UInt8)::q):=by rw[DY,bC];simp
 rw[e,JF]
 ·rfl
 ·exact Ku h.name (.inr rfl)
 intro q hq;rcases dX.1 hq with hq|hq
 ·rcases dO.1 hq with rfl|hq
  ·exact Ku h.tag (.inr rfl)
  obtain⟨n,_,rfl⟩:=bY.1 hq;exact Y9 n (.inr rfl)
 simp at hq;rw[hq];simp
def zo1(l:List UInt8):trimPrefix (Ec++l) Ec=l:=by have h:hasPrefix (Ec++l) Ec=true:=List.isPrefixOf_iff_prefix.2 (List.prefix_append _ _);rw[trimPrefix,bu h,List.drop_left]
end
def zdT(s:af)(hs:s.size<=1000000)(v:Int)(h:Lib.atoiAll s.data.toList= .ok v)(w:ax):ae 87 #[.string s] w (au (.tuple #[.int .i64 v,.nilIface]) w):=
 (strconv_Atoi_ok s (by omega) v h w).m λe w' h=>⟨h.1,by
  rcases h.2 with rfl|⟨t,rfl⟩
  ·exact ah _ _
  exact(ah _ _).bytesWorld _ _⟩
def J3(w:ax)(x:qP):Prop:=vM w x.av x.ns∧∀g,x.av.ownBlock=some g->∃cs fz,w.heap[g]? =some (.cells cs 3 fz)
def J3.qm(h:J3 w x)(hk:Keep S w w')(hS:∀b c t f,S b->w.heap[b]? =some (.cells c t f)->t≠3):J3 w' x:=by
 have hn:∀b,x.av.ownBlock=some b->¬S b:=λb hb hs=>by obtain⟨cs,fz,hc⟩:=h.2 b hb;exact hS b _ _ _ hs hc rfl
 exact⟨h.1.qm hk hn,λb hb=>by obtain⟨cs,fz,hc⟩:=h.2 b hb;exact⟨cs,fz,hk.heap hc (hn b hb)⟩⟩
def zbl{n:Nat}{xs:List ay}(h:qF w base 3 1 v n xs):∀g,v.ownBlock=some g->∃cs fz,w.heap[g]? =some (.cells cs 3 fz):=λg hg=>tV h hg
structure zfP(w:ax)(base:Nat)(v:ay)(L:List qP):Prop where
 own:qF w base 45 3 v L.length (L.flatMap rC)
 yK:∀x∈L,J3 w x∧∀b,x.av.ownBlock=some b->base<=b
def zfP.items(h:zfP w base v L):zT w v L:=⟨uT.yw zf h.own,λx hx=>(h.yK x hx).1.1⟩
def zfP.rV(h:zfP w base v L)(K:ak w w'):zfP w' base v L:=⟨h.own.qm K (λ_ _ x=>x),λx hx=>⟨(h.yK x hx).1.qm K (λ_ _ _ _ x=>x.elim),(h.yK x hx).2⟩⟩
def zgj(N2:Nat)(nm tg:af)(w:ax):Prop:=w.cell? ⟨N2,0,none⟩=some (.string nm)∧w.cell? ⟨N2,1,none⟩=some (.string tg)
def ze6(qE:Nat)(l:List sW)(zN:uZ qE l=true)(s:af)(hs:s.data.toList=xW qE l)(w:ax)(V:yZ w):
  ae 39 #[.string s] w λe w'=>(∃(v:ay) (L:List qP),e= .returned (.tuple #[.int .i64 qE,v,.int .i64 0])∧L.map qA=l∧zfP w' w.heap.size v L)∧ak w w':=by
 have hl6:=SK zN;have hss:s.size<=6400:=by rw[<-hs]at hl6;exact hl6
 have zd6:=zN;simp only[uZ,bI,aW]at zd6;obtain⟨⟨⟨⟨h1,h8⟩,h60⟩,vz⟩,-⟩:=zd6;have hit:∀x∈l,MO x:=λx hx=>KU (gV.1 vz x hx);have YQ:=NK (qE:=qE) hit;rw[<-hs]at YQ;have hsp:=KH s 10 w (by omega) V;rw[YQ]at hsp;obtain⟨m,hm⟩:=aj l.length;rw[<-hm]at h60;have uF:∀x∈l,x.1.data.toList.length<=10∧x.2.1.data.toList.length<=10∧x.2.2.length<=8:=λx hx=>SY (gV.1 vz x hx);have hln:∀x∈l,(DY x).length<=70:=λx hx=>by have:=zdw (gV.1 vz x hx);rw[Aq,aN]at this;omega
 have Hsp:=ag hsp;have HV:=ag V;have Hit:=ag hit;have Hsz:=ag uF;have Hln:=ag hln;have Hs:=ag hs;have Xn:=ag zN;have Hm:=ag hm;have Hd:=ag (show 1<=(qE:Int)∧(qE:Int)<=8 from⟨by omega,by omega⟩);clear hsp V hit uF hln hs zN hm vz YQ hl6 h1 h8;go_enter func39,ntmps39;go_wp2_with fail;refine Hsp.o.m ?_;rintro e w1 ⟨P,hP,rfl,uU,K1⟩;obtain⟨hd,R,rfl⟩:∃hd R,P=hd::R:=by
  cases P with
  | nil=>cases hP
  | cons a R=>exact⟨a,R,rfl⟩
 have Lt:=(ql hP)
 have hRl:R.length=m+1:=by have:=dB List.length Lt.2;simpa [<-Hm.o]using this
 obtain⟨q,hq⟩:=aj ((hd::R).length);have Zn:(q:Int)=m+2:=by rw[hq,bf,hRl];omega
 obtain⟨N,hN⟩:=aj w.heap.size;rw[<-hq];rw[<-hN]at uU⊢;have cP:∀j t,(hd::R)[j]? =some t->w1.cell? ⟨N,j,none⟩=some (.string t):=λj t ht=>by rw[aO _ _ _ _ _ (0,0) uU,aF,aX,ht];rfl
 have c0:=cP 0 hd rfl;have hcut:=λw=>strings_TrimPrefix hd ⟨#[100,105,109,32]⟩ w;have htr:Lib.trimPrefix hd.data.toList (⟨#[100,105,109,32]⟩:af).data.toList=Lib.itoa qE:=by rw[show hd.data.toList=Ec++Lib.itoa qE from Lt.1];exact zo1 _
 rw[htr]at hcut;obtain⟨tp,htp⟩:∃tp:af,tp=⟨(Lib.itoa qE).toArray⟩:=⟨_,rfl⟩
 rw[<-htp]at hcut;have ziz:tp.data.toList=Lib.itoa qE:=by rw[htp]
 have zvT:tp.size<=10:=by have:=Az qE (by have:=Hd.o;omega);rw[<-ziz]at this;exact bQ this (by omega)
 have zwG:=λw=>zdT tp (by omega) qE (by rw[ziz];exact WL qE (by have:=Hd.o;omega)) w;have zqW:=ag hcut;have zxM:=ag zwG;have HP:=ag Lt.2;have HcP:=ag cP;have HN:=ag hN;have Lu:=ag K1;have Hlo:Hid (w.heap.size<=w1.heap.size):=ag K1.size;clear hcut zwG hP Lt htr htp ziz hq cP hN hRl uU Hsp;have jq:(0:Int)<q:=by omega
 go_wp2_with fail;refine(zqW.o _).m ?_;rintro e w2 ⟨rfl,Gp⟩;subst w2;go_wp2_with fail;refine(zxM.o _).m ?_;rintro e w2 ⟨rfl,K2⟩;clear zqW zxM c0;go_wp2_with fail;obtain⟨ii,hii,hzi,hsi,Rw⟩:=Fg;obtain⟨i0,zM,Ba,D9,D6⟩:=iC Wx
 go_loopw [8,9] (λlv iv wr=>∃(i:Nat) (L:List qP),iv= .int .i64 i∧1<=i∧i<=m+1∧Hid (L.map qA=l.take (i-1)∧L.length=i-1)∧Hid (zfP wr w1.heap.size lv L)∧ak w1 wr) (λ_ iv _=>m+1-(intOf iv).toNat)
 case atStart=>exact⟨1,[],rfl,by omega,by omega,ag ⟨rfl,rfl⟩,ag ⟨qF.nil _ _ _ _,λx hx=>by cases hx⟩,K2⟩
 case round=>
  clear K2;obtain⟨i,L,rfl,hi1,hi,hL,hO,K⟩:=hrel;obtain⟨wo,rfl⟩:=aj wr;have jw:IntKind.i64.wrap ((q:Int)-1)=(m:Int)+1:=by rw[aY _ (by omega)];omega
  obtain⟨pv,cv,Qi⟩:=yJ hO.o.own;have Hwo:Hid (w1.heap.size<=wo.heap.size):=ag K.size;by_cases rE:i<=m
  ·have j1:(i:Int)<(m:Int)+1:=by omega
   have j2:(i:Int)<q:=by omega
   obtain⟨x,hx⟩:∃x,l[i-1]? =some x:=⟨_,aK (by have:=Hm.o;omega)⟩
   have Ls:=bG hx;have hRx:(R.map (·.data.toList))[i-1]? =some (DY x):=by rw[HP.o,dL (by rw[aP];have:=Hm.o;omega),aX,hx];rfl
   rw[aX]at hRx;obtain⟨t,ht,htb⟩:=kS.1 hRx;have ct:wo.cell? ⟨N,i,none⟩=some (.string t):=by have h0:=HcP.o i t (by rw[show i=(i-1)+1 by omega];simpa using ht);exact(K.cell (p:=⟨N,i,none⟩) (Lib.lt_of_cell h0) id).t h0
   have hts:t.size<=70:=by have h0:=Hln.o x Ls;rw[<-htb]at h0;exact h0
   have Oo:(t++⟨#[32,32]⟩:af).size=t.size+2:=by rw[dN];rfl
   have ztv:=KH (t++⟨#[32,32]⟩) 32 wo (by omega) (HV.o.qm (Lu.o.qo K));have htd:(t++⟨#[32,32]⟩:af).data.toList=DY x++ [32,32]:=by rw[eY,jW];exact dB (· ++ [32,32]) htb
   rw[htd,zjf (Hit.o x Ls)]at ztv;obtain⟨xn,xt,ns⟩:=x;have hsx:=Hsz.o _ Ls;have hib:=(Hit.o _ Ls).ns;obtain⟨nl,CV⟩:=aj ns.length;have zwa:nl<=8:=by rw[CV];exact hsx.2.2
   have Hx:=ag hx;have zxv:=ag ztv;have Hib:=ag hib;have Ot:=ag CV;clear hx ztv hib CV htd htb ht hRx Ls hsx;go_wp2_with fail;refine zxv.o.m ?_;rintro e w3 ⟨P2,Lt,rfl,ZK,K3⟩;clear zxv;obtain⟨n0,t0,P3,rfl⟩:∃a b c,P2=a::b::c:=by
    cases P2 with
    | nil=>cases Lt
    | cons a r=>
     cases r with
     | nil=>cases (ql Lt).2
     | cons b c=>exact⟨a,b,c,rfl⟩
   have e1:=ql Lt;have e2:=ql e1.2;obtain rfl:n0=xn:=jk (iR.1 e1.1);obtain rfl:t0=xt:=jk (iR.1 e2.1);have hP3:P3.map (·.data.toList)=ns.map Lib.itoa++ [[],[]]:=e2.2;have zAf:P3.length=nl+2:=by have:=dB List.length hP3;simpa [<-Ot.o]using this
   obtain⟨r,hr⟩:=aj ((n0::t0::P3).length);have hrn:r=nl+4:=by rw[hr,bf,bf,zAf]
   rw[<-hr];obtain⟨N2,hN2⟩:=aj wo.heap.size;rw[<-hN2]at ZK⊢;have L8:zgj N2 n0 t0 w3:=⟨by rw[aO _ _ _ _ _ (0,0) ZK];rfl,by rw[aO _ _ _ _ _ (0,0) ZK];rfl⟩
   have hC8:∀ {W:ax},ak w3 W->zgj N2 n0 t0 W:=λK=>⟨(K.cell (p:=⟨N2,0,none⟩) (lt_of_heap ZK) id).t L8.1,(K.cell (p:=⟨N2,1,none⟩) (lt_of_heap ZK) id).t L8.2⟩
   have l0:∀x:wE (zgj N2 n0 t0),x.w.cell? ⟨N2,0,none⟩=some (.string n0):=λx=>x.h.1;have l1:∀x:wE (zgj N2 n0 t0),x.w.cell? ⟨N2,1,none⟩=some (.string t0):=λx=>x.h.2;have zs4:=ag ZK;have HP3:=ag hP3;have QQ:ak w1 w3:=K.qo K3;have zxT:=ag QQ;have Qm:=ag K3;have r0:0<r:=by omega
   have r01:(0:Int)<r:=by omega
   have r1:1<r:=by omega
   have r11:(1:Int)<r:=by omega
   have r4:4<=r:=by omega
   have jr:IntKind.i64.wrap ((r:Int)-2)=((r-2:Nat):Int):=by rw[aY _ (by omega)];omega
   have jn:r-2-2=nl:=by omega
   have Hrn:=ag hrn;clear e1 e2 Lt hP3 hr ZK QQ K3 K hN2 L8 hrn;go_wp2_with fail
   go_cut [11] (λbv wx=>∃X,bv= .pointer (some ⟨X,0,none⟩)∧Hid (wx.heap[X]? =some (.cells #[.string n0,.string t0,.slice none 0 0] 45 (0,0)))∧Hid (w3.heap.size<=X)∧Hid (ak w3 wx))
   case first=>
    refine zL (zgj N2 n0 t0) (.rd 0 (.rd 1 (.rd 2 (.rd 3 (.rd 4 (.rd 5 (.rd 6 (.alt 7 (.alt 8 .fin .no) .no)))))))) (by kernel_rfl) (by kernel_rfl) (λc a d v w h=>by cases d<;>exact h) ?_
    iterate 7 (unfold wC;simp only[qC,aF,aH,aI];refine qp (λK hK=> ?_);go_simp;(first|refine⟨_,λ_=>rfl,hK _ ?_⟩|refine hK _ ?_);clear hK K)
    unfold wC;simp only[qC,aF,aH,aI];refine⟨hC8 (ah _ _).drew,?_,trivial⟩;go_wp2_with fail;obtain⟨X,JR⟩:=aj w3.heap.size;have Tz:((w3.alloc (.cells #[.string ⟨#[]⟩,.string ⟨#[]⟩,.slice none 0 0] 45)).drew).heap[w3.heap.size]? =some (.cells #[.string ⟨#[]⟩,.string ⟨#[]⟩,.slice none 0 0] 45 (0,0)):=aQ w3 _;have Ka:=((ah qw w3).alloc (.cells #[.string ⟨#[]⟩,.string ⟨#[]⟩,.slice none 0 0] 45)).drew;obtain⟨wa,YP⟩:=aj ((w3.alloc (.cells #[.string ⟨#[]⟩,.string ⟨#[]⟩,.slice none 0 0] 45)).drew);rw[<-JR,<-YP]at Tz;rw[<-YP]at Ka;rw[<-JR,<-YP];have hXn:w3.heap.size<=X:=by rw[JR];exact aS _
    have f0:=bU Tz 0;have f1:=bU Tz 1;have f2:=bU Tz 2;have d0:=aO wa X 0 _ _ (0,0) Tz;have d1:=aO wa X 1 _ _ (0,0) Tz;have d2:=aO wa X 2 _ _ (0,0) Tz;clear JR YP;unfold wC;simp only[qC,aF,aH,aI];refine⟨hC8 Ka,?_,trivial⟩;go_wp2_with fail;have JM:(((wa.setCell ⟨X,0,none⟩ (.string n0)).setCell ⟨X,1,none⟩ (.string t0)).setCell ⟨X,2,none⟩ (.slice none 0 0)).heap[X]? =some (.cells #[.string n0,.string t0,.slice none 0 0] 45 (0,0)):=by rw[qK (qK (qK Tz _) _)];rfl
    have Kb:=((Ka.setCell (p:=⟨X,0,none⟩) (.inr hXn) (.string n0)).setCell (p:=⟨X,1,none⟩) (.inr hXn) (.string t0)).setCell (p:=⟨X,2,none⟩) (.inr hXn) (.slice none 0 0);unfold wC;go_wp2_with fail;go_meet
    exact⟨X,rfl,ag JM,ag hXn,ag Kb⟩
   case rest=>
   obtain⟨X,rfl,hX,hXn,K4⟩:=hcut;obtain⟨w4,rfl⟩:=aj wc;clear l0 l1 hC8;go_wp2_with fail
   go_loopw [54] (λiv wr=>∃(j:Nat) (p2:Option Addr) (c2:Nat),iv= .int .i64 j∧j<=nl∧Hid (wr.heap[X]? =some (.cells #[.string n0,.string t0,.slice p2 j c2] 45 (0,0)))∧Hid (qF wr w4.heap.size 3 1 (.slice p2 j c2) j (yD (ns.take j)))∧Hid (Keep (qJ X) w4 wr)) (λiv _=>nl-(intOf iv).toNat)
   ·exact⟨0,none,0,rfl,by omega,hX,ag (qF.nil _ _ _ _),ag (ah _ _)⟩
   obtain⟨j,p2,c2,rfl,hj,hXj,hOj,Kj⟩:=hrel;obtain⟨w5,rfl⟩:=aj wr;have zfJ:X<w4.heap.size:=lt_of_heap hX.o;by_cases hjn:j<nl
   ·have k1:(j:Int)<nl:=by omega
    obtain⟨y,hy⟩:∃y,ns[j]? =some y:=⟨_,aK (by have:=Ot.o;omega)⟩
    have hu9:(P3.map (·.data.toList))[j]? =some (Lib.itoa y):=by rw[HP3.o,dL (by rw[aP];have:=Ot.o;omega),aX,hy];rfl
    rw[aX]at hu9;obtain⟨u,hu,hub⟩:=kS.1 hu9;have hyb:=Hib.o y (bG hy);have hN2:N2<w3.heap.size:=lt_of_heap zs4.o;have cu:w5.cell? ⟨N2,2+j,none⟩=some (.string u):=by have h9:=Kj.o.heap (K4.o.heap zs4.o id) (λe=>by have h8:N2=X:=e;have:=hXn.o;omega);rw[aO _ _ _ _ _ (0,0) h9,aF,aX,show 2+j=j+1+1 by omega,aH,aH,hu];rfl
    have hus:u.size<=10:=by have h9:=Az y hyb;rw[<-hub]at h9;exact bQ h9 (by omega)
    have NU:=λw=>zdT u (by omega) y (by rw[hub];exact WL y hyb) w;have htk:yD (ns.take (j+1))=yD (ns.take j)++ [.int .i64 y]:=by have h9:=aT.1 hy;rw[aZ h9.1,h9.2,yD,dK];rfl
    have Hat:=ag NU;have Htk:=ag htk;clear NU htk hu9 hu hub hyb hy;go_wp2_with fail;refine(Hat.o _).m ?_;rintro e w6 ⟨rfl,K6⟩;have QX:=K6.heap hXj.o id;have hO6:=hOj.o.qm K6 (λ_ _ x=>x);have x62:w6.cell? ⟨X,2,none⟩=some (.slice p2 j c2):=by rw[aO _ _ _ _ _ (0,0) QX];rfl
    have Vm:=Kj.o.qo K6;have z46:w4.heap.size<=w6.heap.size:=Vm.size;clear Hat cu;go_wp2_with (refine rY _ rfl (.tmp 64) (.tmp 66) 23 rfl w4.heap.size 3 i0 (.int .i64 0) 1 8 jE zM Ba D9 D6 rfl (by decide) (.slice p2 j c2) j (yD (ns.take j)) rfl (hO6.alloc _) ⟨w6.heap.size,0,none⟩ 1 1 [.int .i64 y] rfl rfl (rJ _ _ _) (EL _ _) (by unfold maxLen;omega) (by omega) (by show w4.heap.size<=(w6.heap.push _).size;rw[dW];omega) ?_;intro v7 w7 Dx hg7 _;have K67:Keep (λb=>(Value.slice p2 j c2).ownBlock=some b) w6 w7:=((ah _ _).alloc (.cells #[.int .i64 y] 3)).grown hg7 (λq hq=> .inl hq);have hX7:=K67.heap QX (λe=>by have h9:=(hOj.o.lt X e).1;omega);have f7:=bU hX7 2;have d7:=aO w7 X 2 _ _ (0,0) hX7;obtain⟨p7,c7,rfl⟩:=yJ Dx);have K47:=((Vm.alloc (.cells #[.int .i64 y] 3)).grown hg7 (λq hq=> .inr (hOj.o.lt q hq).1)).tK 2 (.slice p7 (j+1) c7);exact⟨⟨j+1,p7,c7,by go_num,by omega,ag (by rw[qK hX7];rfl),ag (by rw[Htk.o];exact Dx.qm ((ah (qJ X) w7).tK 2 _) (λb hb e=>by have h9:=(Dx.lt b hb).1;have h8:b=X:=e;omega)),ag K47⟩,by simp[intOf];omega⟩
   obtain rfl:j=nl:=by omega
   have x50:w5.cell? ⟨X,0,none⟩=some (.string n0):=by rw[aO _ _ _ _ _ (0,0) hXj.o];rfl
   have x51:w5.cell? ⟨X,1,none⟩=some (.string t0):=by rw[aO _ _ _ _ _ (0,0) hXj.o];rfl
   have x52:w5.cell? ⟨X,2,none⟩=some (.slice p2 j c2):=by rw[aO _ _ _ _ _ (0,0) hXj.o];rfl
   have Xk:Keep (qJ X) w3 w5:=(K4.o.yw (S:=qJ X)).then Kj.o;have zo3:wo.heap.size<=w3.heap.size:=Qm.o.size;have hlX:∀b,(Value.slice pv L.length cv).ownBlock=some b->¬qJ X b:=λb hb e=>by have h9:=(hO.o.own.lt b (by rw[Qi];exact hb)).2;have h8:b=X:=e;have:=hXn.o;omega
   have hO5:=(hO.o.own.qm Qm.o (λ_ _ x=>x)).qm Xk (λb hb=>hlX b (by rw[<-Qi];exact hb));rw[Qi]at hO5;have zw:w1.heap.size<=wo.heap.size:=Hwo.o;have hLl:=hL.o.2;have hnu:∀x∈L,J3 w5 x:=λx hx=>((hO.o.yK x hx).1.qm Qm.o (λ_ _ _ _ x=>x.elim)).qm Xk (λb c t f e hh ht=>by have h9:=lt_of_heap hh;have h8:b=X:=e;have:=hXn.o;omega)
   have hL1:L.length<=60:=by rw[hLl];omega
   have hO6:=hO5.alloc (.cells #[.string n0,.string t0,.slice p2 j c2] 45);go_wp2_with (at_builtin;refine rY _ rfl _ _ 49 rfl w1.heap.size 45 ii _ 3 56 kK hii hzi hsi Rw rfl (by decide) (.slice pv L.length cv) L.length _ rfl hO6 ⟨w5.heap.size,0,none⟩ 1 1 [.string n0,.string t0,.slice p2 j c2] rfl rfl (rJ _ _ _) (Am n0 t0 p2 j c2) (by unfold maxLen;omega) (by omega) (by have:=Xk.size;show w1.heap.size<=(w5.heap.push _).size;rw[dW];omega) ?_;intro v7 w7 Dx hg7 _);have z35:=Xk.size;have z34:=K4.o.size;have K57:Keep (λb=>(Value.slice pv L.length cv).ownBlock=some b) w5 w7:=((ah _ _).alloc (.cells #[.string n0,.string t0,.slice p2 j c2] 45)).grown hg7 (λq hq=> .inl hq);have hk7:∀y:qP,J3 w5 y->J3 w7 y:=λy hy=>hy.qm K57 (λb c t f e hh=>by obtain⟨c9,f9,h9⟩:=tV hO5 e;rw[rD hh h9];decide)
   have zzD:ns.take j=ns:=bg (by have:=Ot.o;omega);have hO9:=hOj.o;rw[zzD]at hO9;have hy0:J3 w5 ⟨n0,t0,.slice p2 j c2,ns⟩:=⟨J7 (by rw[<-Ot.o];exact hO9),zbl hO9⟩
   have K17:=((zxT.o.t Xk (λb hb e=>by have h8:b=X:=e;have h9:=zxT.o.size;have:=hXn.o;omega)).alloc (.cells #[.string n0,.string t0,.slice p2 j c2] 45)).grown hg7 (λq hq=> .inr (hO5.lt q hq).1);refine⟨⟨i+1,L++ [⟨n0,t0,.slice p2 j c2,ns⟩],by go_num,by omega,by omega,ag ⟨?_,by rw[aN,hLl];show i-1+1=i+1-1;omega⟩,ag ⟨?_,λy hy=> ?_⟩,K17⟩,by simp[intOf];omega⟩
   ·have h9:=aT.1 Hx.o;rw[show i+1-1=(i-1)+1 by omega,aZ h9.1,h9.2,dK,hL.o.1];rfl
   ·rw[aN,dU];exact Dx
   rcases dX.1 hy with hy|hy
   ·exact⟨hk7 y (hnu y hy),(hO.o.yK y hy).2⟩
   rw[bJ.1 hy];exact⟨hk7 _ hy0,λb hb=>by have h9:=(hO9.lt b hb).1;omega⟩
  obtain rfl:i=m+1:=by omega
  have j1:¬(((m+1:Nat):Int)<(m:Int)+1):=by omega
  have hLe:L.map qA=l:=by rw[hL.o.1];exact bg (by have:=Hm.o;omega)
  have hit:=hO.o.items;rw[Qi]at hit;have Rq:=UQ qE (.slice pv L.length cv) L wo hit (by rw[hLe];exact Xn.o) (HV.o.qm (Lu.o.qo K)).pow;have hps:(⟨(xW qE (L.map qA)).toArray⟩:af)=s:=by apply jk;apply iR.1;rw[hLe];exact Hs.o.s
  rw[hps]at Rq;have hq1:(@BEq.beq (List UInt8) (@List.instBEq UInt8 instBEqOfDecidableEq) s.toList s.toList)=true:=by simp
  have HO:Hid (zfP wo w.heap.size (.slice pv L.length cv) L):=ag ⟨by rw[<-Qi];exact hO.o.own.down Hlo.o,λx hx=>⟨(hO.o.yK x hx).1,λb hb=>bQ Hlo.o ((hO.o.yK x hx).2 b hb)⟩⟩;have Hpr:=ag Rq;have HLe:=ag hLe;have EJ:Hid (((m+1:Nat):Int)=(m:Int)+1):=ag (by omega);clear Rq hps hLe hit hO hL Hwo;go_wp2_with fail;refine Hpr.o.m ?_;rintro e w6 ⟨rfl,K6⟩;go_wp2_with fail
  go_ret3
  exact⟨⟨_,L,rfl,HLe.o,HO.o.rV K6⟩,(Lu.o.qo K).qo K6⟩
def Dy(l:List qP)(k:af):List qP:=l.filter λx=> !decide (x.name=k)
def za4(l:List qP)(k:af):(Dy l k).map qA=zI (l.map qA) k:=by unfold Dy zI;rw[mM];rfl
def zmw{l:List qP}{i:Nat}(h:l[i]? =some x)(k:af):Dy (l.take (i+1)) k=Dy (l.take i) k++(if x.name=k then []else [x]):=by
 have hi:=aT.1 h;rw[aZ hi.1,hi.2,Dy,nZ,<-Dy];by_cases e:x.name=k
 ·rw[bu e];simp[e]
 rw[aV e];simp[e]
def Qa(v:ay)(l:List qP)(k:af)(w:ax)(I:zT w v l)(hl:l.length<=1000):
  ae 50 #[v,.string k] w λe w'=>(∃v',e= .returned v'∧qF w' w.heap.size 45 3 v' (Dy l k).length ((Dy l k).flatMap rC))∧ak w w':=by
 obtain⟨p,c,rfl⟩:=I.rows.len;obtain⟨n,hn⟩:=aj l.length;rw[<-hn]at I hl⊢;have HI:=ag I;have Hn:=ag hn;obtain⟨ii,hii,hzi,hsi,Rw⟩:=Fg;clear I hn;go_enter func50,ntmps50;go_wp2_with fail
 go_loopw [5,10] (λlv iv wr=>∃i:Nat,iv= .int .i64 i∧i<=n∧Hid (qF wr w.heap.size 45 3 lv (Dy (l.take i) k).length ((Dy (l.take i) k).flatMap rC))∧ak w wr) (λ_ iv _=>n-(intOf iv).toNat)
 case atStart=>exact⟨0,rfl,by omega,ag (qF.nil _ _ _ _),ah _ _⟩
 case round=>
  obtain⟨i,rfl,hi,hO,K⟩:=hrel;obtain⟨wo,rfl⟩:=aj wr;obtain⟨pl,cl,rfl⟩:=yJ hO.o;obtain⟨q,hq⟩:=aj ((Dy (l.take i) k).length);rw[<-hq]at hO⊢;have Hq:=ag hq;clear hq;by_cases rE:i<n
  ·have j1:(i:Int)<n:=by omega
   obtain⟨pb,off,rfl,-,hpb,uw⟩:=(HI.o.rows.qm K (λ_ _ x=>x)).at (by have:=Hn.o;omega);obtain⟨x,hx⟩:∃x,l[i]? =some x:=⟨_,aK (by have:=Hn.o;omega)⟩
   have ET:=uw i x hx;have Nx:=(HI.o.yK x (bG hx)).qm K (λ_ _ x=>x);have yx:=zmw hx k;have hle:(Dy (l.take i) k).length<=1000:=bQ (gQ ..) (by rw[dJ];omega);obtain⟨px,cx,Qi⟩:=Nx.len;obtain⟨xn,xt,xa,xs⟩:=x;simp only at Qi yx;subst Qi;have c0:wo.cell? ⟨pb,off+i*3,none⟩=some (.string xn):=ET 0 _ rfl;have c1:wo.cell? ⟨pb,off+i*3+1,none⟩=some (.string xt):=ET 1 _ rfl;have c2:wo.cell? ⟨pb,off+i*3+2,none⟩=some (.slice px xs.length cx):=ET 2 _ rfl;obtain⟨nx,Bl⟩:=aj xs.length;rw[<-Bl]at c2;have Jm:=ag yx;have JS:=ag Bl;have Hle:=ag hle;have hO1:=hO.o.qm ((ah qw wo).alloc (.cells #[.string xn,.string xt,.slice px nx cx] 45)) (λ_ _ x=>x);have uF:=K.size;have HO1:=ag hO1;clear yx Bl hle ET uw hx Nx hO1;obtain⟨D,hD⟩:=aj (decide (xn=k));have jq:(@BEq.beq (List UInt8) (@List.instBEq UInt8 instBEqOfDecidableEq) xn.toList k.toList)=D:=by rw[zqP,hD]
   have HD:=ag hD;clear hD
   go_upto_if 17 with(fail)
   obtain⟨X,JR⟩:=aj wo.heap.size;obtain⟨wX,hwX⟩:=aj (wo.alloc (.cells #[.string xn,.string xt,.slice px nx cx] 45));have hX:wX.heap[X]? =some (.cells #[.string xn,.string xt,.slice px nx cx] 45 (0,0)):=by rw[hwX,JR];exact aQ wo _
   have KX:ak wo wX:=by rw[hwX];exact(ah _ _).alloc _
   rw[<-hwX,<-JR];rw[<-hwX]at HO1;have x0:wX.cell? ⟨X,0,none⟩=some (.string xn):=by rw[aO _ _ _ _ _ (0,0) hX];rfl
   have x1:wX.cell? ⟨X,1,none⟩=some (.string xt):=by rw[aO _ _ _ _ _ (0,0) hX];rfl
   have x2:wX.cell? ⟨X,2,none⟩=some (.slice px nx cx):=by rw[aO _ _ _ _ _ (0,0) hX];rfl
   have KwX:ak w wX:=K.qo KX;have zX:=KwX.size;clear hwX JR hX KX c0 c1 c2;clear jq;cases D with
   | true=>
    have hk:xn=k:=fM HD.o.s;have yx:=Jm.o;rw[bu hk,dS]at yx;have Hs2:=ag yx;clear hk yx;go_wp2_with fail;exact⟨⟨i+1,by go_num,by omega,ag (by rw[Hs2.o,<-Hq.o];exact HO1.o),KwX⟩,by simp[intOf];omega⟩
   | false=>
    have hk:¬xn=k:=iD HD.o.s;have yx:=Jm.o;rw[aV hk]at yx;have Hs2:=ag yx;have hO3:=HO1.o.alloc (.cells #[.string xn,.string xt,.slice px nx cx] 45);have hle:=Hle.o;rw[<-Hq.o]at hle;clear hk yx;go_wp2_with (at_builtin;refine rY _ rfl _ _ 49 rfl w.heap.size 45 ii _ 3 56 kK hii hzi hsi Rw rfl (by decide) (.slice pl q cl) q _ rfl hO3 ⟨wX.heap.size,0,none⟩ 1 1 [.string xn,.string xt,.slice px nx cx] rfl rfl (rJ _ _ _) (Am xn xt px nx cx) (by unfold maxLen;omega) (by omega) (by show w.heap.size<=(wX.heap.push _).size;rw[dW];omega) ?_;intro v7 w7 Dx hg7 _);exact⟨⟨i+1,by go_num,by omega,ag (by rw[Hs2.o,aN,dU,<-Hq.o,<-JS.o];exact Dx),(KwX.alloc (.cells #[.string xn,.string xt,.slice px nx cx] 45)).grown hg7 (λq hq=> .inr (hO3.lt q hq).1)⟩,by simp[intOf];omega⟩
  obtain rfl:i=n:=by omega
  have hO2:=hO.o;have ht9:l.take i=l:=bg (by have:=Hn.o;omega);rw[Hq.o,ht9]at hO2;rw[Hq.o,ht9];have HO2:=ag hO2;clear hO2 hO;go_wp2_with fail;go_ret;exact⟨⟨_,rfl,HO2.o⟩,K⟩
def wW(w:ax)(BB B:Nat)(qE:Nat)(nv xv:ay):Prop:=w.heap[BB]? =some (.cells #[.pointer (some ⟨B,0,none⟩),.int .i64 qE,nv,xv] 61 (0,0))
section
variable {w:ax}{BB B qE:Nat}{nv xv:ay}
def wW.c0(h:wW w BB B qE nv xv):w.cell? ⟨BB,0,none⟩=some (.pointer (some ⟨B,0,none⟩)):=by rw[aO _ _ _ _ _ (0,0) h];rfl
def wW.c1(h:wW w BB B qE nv xv):w.cell? ⟨BB,1,none⟩=some (.int .i64 qE):=by rw[aO _ _ _ _ _ (0,0) h];rfl
def wW.c2(h:wW w BB B qE nv xv):w.cell? ⟨BB,2,none⟩=some nv:=by rw[aO _ _ _ _ _ (0,0) h];rfl
def wW.c3(h:wW w BB B qE nv xv):w.cell? ⟨BB,3,none⟩=some xv:=by rw[aO _ _ _ _ _ (0,0) h];rfl
def wW.fr(h:wW w BB B qE nv xv)(i:Nat):w.frozen? ⟨BB,i,none⟩=false:=bU h i
def wW.qm(h:wW w BB B qE nv xv)(K:Keep S w w')(hn:¬S BB):wW w' BB B qE nv xv:=K.heap h hn
def wW.zok(h:wW w BB B qE nv xv)(m:Nat):wW (w.setCell ⟨BB,1,none⟩ (.int .i64 m)) BB B m nv xv:=by unfold wW;rw[qK h];rfl
def wW.zh(h:wW w BB B qE nv xv)(u:ay):wW (w.setCell ⟨BB,2,none⟩ u) BB B qE u xv:=by unfold wW;rw[qK h];rfl
def wW.Uc(h:wW w BB B qE nv xv)(u:ay):wW (w.setCell ⟨BB,3,none⟩ u) BB B qE nv u:=by unfold wW;rw[qK h];rfl
def zhL(h:wW w BB B qE nv xv)(m:Int)(b:sH)(hb:b.qE=qE):ae 13 #[.pointer (some ⟨BB,0,none⟩),.int .i64 m] w λe w'=>e= .returned (.int .i64 (yz b m).1)∧wW w' BB B (yz b m).2.qE nv xv∧Keep (qJ BB) w w':=by
 have c1:=h.c1;have f1:=h.fr 1;have HR:=ag h;clear h;subst hb;by_cases h0:b.qE=0
 ·have z0:(b.qE:Int)=0:=by omega
  have yh:=Qu m 1 8;by_cases hm:1<=m∧m<=8
  ·have e:yz b m=(0,{ b with qE:=m.toNat }):=by rw[yz,aV (by omega),aV (by omega)]
   rw[e];simp only[bF hm.1,bF hm.2]at yh;have EJ:=ag yh;have Hm:=ag hm;rw[z0]at c1;clear yh hm e z0 h0;go_enter func13,ntmps13;go_wp2_with fail;refine(EJ.o _).m ?_;rintro e w1 ⟨rfl,vF⟩;subst w1;go_wp2_with fail;go_ret;have em:m=((m.toNat:Nat):Int):=by have:=Hm.o;omega
   refine⟨rfl,?_,(ah (qJ BB) w).tK 1 _⟩;have:=HR.o.zok m.toNat
   rwa [<-em]at this
  have e:yz b m=(1,b):=by rw[yz,aV (by omega),bu (by omega)]
  rw[e];have zC:(decide (1<=m)&&decide (m<=8))=false:=by
   rw[Bool.and_eq_false_iff];by_cases h1:1<=m
   ·exact .inr (cO λh2=>hm ⟨h1,h2⟩)
   exact .inl (cO h1)
  simp only[zC]at yh;have EJ:=ag yh;rw[z0]at c1;clear yh hm e z0 h0 zC;go_enter func13,ntmps13;go_wp2_with fail;refine(EJ.o _).m ?_;rintro e w1 ⟨rfl,vF⟩;subst w1;go_wp2_with fail;go_ret;exact⟨rfl,HR.o,ah _ _⟩
 have z0:((b.qE:Int)==0)=false:=by rw[eu];omega
 have e:yz b m=(6,b):=by rw[yz,bu h0]
 rw[e];clear h0 e;go_enter func13,ntmps13;go_wp2_with fail;go_ret;exact⟨rfl,HR.o,ah _ _⟩
def zhH(h:wW w BB B qE nv xv)(hn:∃p n c,nv= .slice p n c):ae 18 #[.pointer (some ⟨BB,0,none⟩)] w λe w'=>e= .returned (.tuple #[])∧wW w' BB B qE nv nv∧Keep (qJ BB) w w':=by obtain⟨p,n,c,rfl⟩:=hn;have c2:=h.c2;have f3:=h.fr 3;have c3:=h.c3;have HR:=ag h;clear h;go_enter func18,ntmps18;go_wp2_with fail;refine bodyPost_end (lQ (by rfl) _ _ _) (by rfl) ?_;exact⟨rfl,HR.o.Uc _,(ah (qJ BB) w).tK 3 _⟩
def zjB(h:wW w BB B qE nv xv)(l:List qP)(I:zT w xv l)(hl:l.length<=60)(k:af):
  ae 17 #[.pointer (some ⟨BB,0,none⟩),.string k] w λe w'=>(if (Dy l k).length=l.length then e= .returned (.int .i64 7)∧ak w w' else e= .returned (.int .i64 0)∧∃v',wW w' BB B qE nv v'∧qF w' w.heap.size 45 3 v' (Dy l k).length ((Dy l k).flatMap rC))∧Keep (qJ BB) w w':=by
 obtain⟨p,c,rfl⟩:=I.rows.len;have hwo:=Qa (.slice p l.length c) l k w I (by omega);obtain⟨n,hn⟩:=aj l.length;obtain⟨m,hm⟩:=aj ((Dy l k).length);have hmn:m<=n:=by rw[hm,hn];exact gQ ..
 have c3:=h.c3;rw[<-hn]at hwo c3 h hl⊢;rw[<-hm]at hwo⊢;have HR:=ag h;have Hwo:=ag hwo;clear h hwo hn hm I;by_cases e:m=n
 ·have je:((m:Int)==n)=true:=by rw[jZ];omega
  simp only[bu e];clear e;go_enter func17,ntmps17;go_wp2_with fail;refine Hwo.o.m ?_;rintro e w1 ⟨⟨v',rfl,hO⟩,K1⟩;have hR1:=HR.o.qm K1 id;obtain⟨p2,c2,rfl⟩:=yJ hO;have d3:=hR1.c3;have f3:=hR1.fr 3;have HR1:=ag hR1;have HO:=ag hO;clear hR1 hO HR Hwo;go_wp2_with fail;go_ret;exact⟨⟨rfl,K1⟩,K1.yw⟩
 ·have je:((m:Int)==n)=false:=by rw[eu];omega
  simp only[aV e];clear e;go_enter func17,ntmps17;go_wp2_with fail;refine Hwo.o.m ?_;rintro e w1 ⟨⟨v',rfl,hO⟩,K1⟩;have hR1:=HR.o.qm K1 id;obtain⟨p2,c2,rfl⟩:=yJ hO;have d3:=hR1.c3;have f3:=hR1.fr 3;have HR1:=ag hR1;have HO:=ag hO;clear hR1 hO HR Hwo;go_wp2_with fail;go_ret;refine⟨⟨rfl,_,HR1.o.Uc _,HO.o.qm ((ah (qJ BB) w1).tK 3 _) (λb hb e=> ?_)⟩,(K1.yw (S:=qJ BB)).tK 3 _⟩;have h1:=(HO.o.lt b hb).1;have h2:=Lib.lt_of_cell c3;have h3:b=BB:=e;have h4:BB<w.heap.size:=h2;omega
end
def zgi(BB X:Nat)(xv:ay)(nm:af)(w:ax):Prop:=w.cell? ⟨BB,3,none⟩=some xv∧w.cell? ⟨X,0,none⟩=some (.string nm)
def zcb(w w':ax)(BB B qE:Nat)(nv xv:ay)(x:qP)(l:List qP)(e:Ending):Prop:=
 if qE=0 then e= .returned (.int .i64 6)∧ak w w'
 else if uJ (qA x) qE=false then e= .returned (.int .i64 1)∧ak w w'
 else if 60<=(Dy l x.name).length then e= .returned (.int .i64 12)∧ak w w'
 else e= .returned (.int .i64 0)∧∃(v':ay) (y:qP) (d:List qP),wW w' BB B qE nv v'∧qA y=qA x∧J3 w' y∧(∀g,y.av.ownBlock=some g->w.heap.size<=g)∧d.Perm (Dy l x.name++ [y])∧d.Pairwise (λx y=>ltI y x=false)∧qF w' w.heap.size 45 3 v' d.length (d.flatMap rC)
def zmv{g:Nat}{e:aB}(hb:base<=g)(h:w.heap[g]? =some (.cells #[] e (0,0))):qF w base e 1 (.slice (some ⟨g,0,none⟩) 0 0) 0 []:=
 ⟨rfl,.inr ⟨g,0,#[],(0,0),rfl,hb,h,Clear.zero _,aS _,by unfold maxLen;omega,rfl,rfl⟩⟩
def zjz{BB B qE:Nat}{nv xv:ay}(h:wW w BB B qE nv xv)(hd8:qE<=8)(l:List qP)(I:zT w xv l)(hl:l.length<=60)(x:qP)(N:vM w x.av x.ns)(hx:x.ns.length<=1000000)(Qd:x.name.size<=1000000)(Vf:x.tag.size<=1000000):
  ae 15 #[.pointer (some ⟨BB,0,none⟩),.agg (rC x).toArray] w λe w'=>zcb w w' BB B qE nv xv x l e∧Keep (qJ BB) w w':=by
 obtain⟨xn,xt,xa,xs⟩:=x;simp only at N hx Qd Vf;obtain⟨px,cx,rfl⟩:=N.len;rw[show(rC ⟨xn,xt,.slice px xs.length cx,xs⟩).toArray= #[.string xn,.string xt,.slice px xs.length cx]from rfl];have QV:=λw' (K:ak w w')=>zaP ⟨xn,xt,.slice px xs.length cx,xs⟩ qE w' (N.qm K (λ_ _ x=>x)) hx Qd Vf;simp only[show(rC ⟨xn,xt,.slice px xs.length cx,xs⟩).toArray= #[.string xn,.string xt,.slice px xs.length cx]from rfl]at QV;obtain⟨nx,Bl⟩:=aj xs.length;obtain⟨R,hR⟩:=aj (uJ (qA ⟨xn,xt,.slice px xs.length cx,xs⟩) qE);rw[<-hR,<-Bl]at QV;obtain⟨pv,cv,rfl⟩:=I.rows.len;have hwo:=λw' (K:ak w w')=>Qa (.slice pv l.length cv) l xn w' ⟨I.rows.qm K (λ_ _ x=>x),λy hy=>(I.yK y hy).qm K (λ_ _ x=>x)⟩ (by omega);obtain⟨n,hn⟩:=aj l.length;rw[<-hn]at hwo h hl;obtain⟨m,hm⟩:=aj ((Dy l xn).length);have hmn:m<=n:=by rw[hm,hn];exact gQ ..
 rw[<-hm]at hwo;have Hwo:=ag hwo;have Hri:=ag QV;have HR:=ag hR;have Hm:=ag hm;have HN:=ag N;have HI:=ag I;have JS:=ag Bl;rw[<-Bl]at hx⊢;have Hn:=ag hn;have hRX:=h.qm ((ah qw w).alloc (.cells #[.string xn,.string xt,.slice px nx cx] 45)) id;have hX:=aQ w (.cells #[.string xn,.string xt,.slice px nx cx] 45);have K0:=(ah qw w).alloc (.cells #[.string xn,.string xt,.slice px nx cx] 45);have c1:=hRX.c1;have zAj:BB<w.heap.size:=lt_of_heap h;clear Bl hn hm hR h I N;go_enter func15,ntmps15;by_cases h0:qE=0
 ·have z0:(qE:Int)=0:=by omega
  have Hp:Hid (∀w' e,e= .returned (.int .i64 6)->ak w w'->zcb w w' BB B qE nv (.slice pv n cv) ⟨xn,xt,.slice px nx cx,xs⟩ l e):=ag (λw' e h1 h2=>by rw[zcb,bu h0];exact⟨h1,h2⟩);have HK0:=ag K0;rw[z0]at c1;clear h0 z0 hX hRX K0;go_wp2_with fail;go_ret;exact⟨Hp.o _ _ rfl HK0.o,HK0.o.yw⟩
 have z0:((qE:Int)==0)=false:=by rw[eu];omega
 have H0:=ag h0;have HX:=ag hX;have HRX:=ag hRX;have HK0:=ag K0;clear h0 hX hRX K0
 go_upto_if 10 with(fail)
 obtain⟨X,JR⟩:=aj w.heap.size;obtain⟨wX,hwX⟩:=aj (w.alloc (.cells #[.string xn,.string xt,.slice px nx cx] 45));rw[<-hwX]at HRX HX HK0 c1;rw[<-JR]at HX;rw[<-hwX,<-JR];have zfJ:=lt_of_heap HX.o;have zea:=lt_of_heap HRX.o;have hBX:BB<X:=by rw[JR];exact zAj
 have Hxe:Hid (w.heap.size<=X):=ag (by rw[JR];exact aS _);have x0:wX.cell? ⟨X,0,none⟩=some (.string xn):=by rw[aO _ _ _ _ _ (0,0) HX.o];rfl
 have x1:wX.cell? ⟨X,1,none⟩=some (.string xt):=by rw[aO _ _ _ _ _ (0,0) HX.o];rfl
 have x2:wX.cell? ⟨X,2,none⟩=some (.slice px nx cx):=by rw[aO _ _ _ _ _ (0,0) HX.o];rfl
 clear hwX JR;go_upto_region 3 with(fail)
 have zee:=ag (λY:Ext wX=>Hri.o (wX.ext Y) (HK0.o.qo (rZ wX Y)));clear Hri
 go_cut [17] (λbv wz=>bv= .bool (!R)∧Hid (ak wX wz))
 case first=>
  refine rX (by kernel_rfl) (by kernel_rfl) ?_
  repeat((with_reducible refine jK (λK hK=> ?_));go_simp;first|(refine hK _ ?_;clear hK K)|(apply Exists.intro;refine⟨λ_=> ?_,hK _ ?_⟩;(go_at_call 49;exact vw _ (zee.o _));clear hK K))
  refine dP ?_;intro Y;go_wp2_with fail;go_meet
  exact⟨rfl,ag (rZ wX Y)⟩
 case rest=>
 obtain⟨rfl,hK2⟩:=hcut;obtain⟨w2,rfl⟩:=aj wc;have KW2:ak w w2:=HK0.o.qo hK2.o;have hR2:=HRX.o.qm hK2.o id;have YW:=hK2.o.heap HX.o id;have TL:=ag KW2;cases R with
 | false=>
  have Hp:Hid (∀w' e,e= .returned (.int .i64 1)->ak w w'->zcb w w' BB B qE nv (.slice pv n cv) ⟨xn,xt,.slice px nx cx,xs⟩ l e):=ag (λw' e h1 h2=>by rw[zcb,aV H0.o,bu (by rw[JS.o];exact HR.o.s)];exact⟨h1,h2⟩);clear hR2 YW KW2;go_wp2_with fail;go_ret;exact⟨Hp.o _ _ rfl TL.o,TL.o.yw⟩
 | true=>
 have hRn:¬uJ (qA ⟨xn,xt,.slice px nx cx,xs⟩) qE=false:=by rw[JS.o,<-HR.o];exact Bool.noConfusion
 have HRn:=ag hRn;have L5:zgi BB X (.slice pv n cv) xn w2:=⟨hR2.c3,by rw[aO _ _ _ _ _ (0,0) YW];rfl⟩
 have hC5:∀ {W:ax},ak w2 W->zgi BB X (.slice pv n cv) xn W:=λK=>⟨(K.cell (p:=⟨BB,3,none⟩) (lt_of_heap hR2) id).t L5.1,(K.cell (p:=⟨X,0,none⟩) (lt_of_heap YW) id).t L5.2⟩
 have l0:∀x:wE (zgi BB X (.slice pv n cv) xn),x.w.cell? ⟨BB,3,none⟩=some (.slice pv n cv):=λx=>x.h.1;have l1:∀x:wE (zgi BB X (.slice pv n cv) xn),x.w.cell? ⟨X,0,none⟩=some (.string xn):=λx=>x.h.2;have HR2:=ag hR2;have HX2:=ag YW;clear hR2 YW hRn KW2 x0 x1 x2 c1;go_upto_region 5 with(fail)
 go_cut [5] (λbv wz=>∃LB p2 c2,bv= .pointer (some ⟨LB,0,none⟩)∧Hid (wz.heap[LB]? =some (.cells #[.slice p2 m c2] 49 (0,0)))∧Hid (qF wz w.heap.size 45 3 (.slice p2 m c2) m ((Dy l xn).flatMap rC))∧Hid (∀b,(Value.slice p2 m c2).ownBlock=some b->b≠X)∧Hid (w2.heap.size<=LB)∧Hid (ak w2 wz))
 case first=>
  refine zL (zgi BB X (.slice pv n cv) xn) (.rd 0 (.rd 1 (.rd 2 (.rd 3 (.rd 4 (.rd 5 (.alt 6 (.alt 7 (.alt 8 .fin .no) .no) (.alt 7 (.alt 6 (.alt 8 .fin .no) .no) .no)))))))) (by kernel_rfl) (by kernel_rfl) (λc a d v w h=>by cases d<;>exact h) ?_
  iterate 6 (unfold wC;simp only[qC,aF,aH,aI];refine qp (λK hK=> ?_);go_simp;(first|refine⟨_,λ_=>rfl,hK _ ?_⟩|refine hK _ ?_);clear hK K)
  clear l0 l1;have Kd:=(ah qw w2).drew;unfold wC;simp only[qC,aF,aH,aI];refine⟨hC5 Kd,?_,?_⟩
  ·go_wp2_with fail;refine(Hwo.o _ (TL.o.qo Kd)).m ?_;rintro e w3 ⟨⟨v',rfl,hO⟩,K30⟩;obtain⟨p2,c2,rfl⟩:=yJ hO;have K3:=Kd.qo K30;have Bc:∀b,(Value.slice p2 m c2).ownBlock=some b->b≠X:=λb hb e=>by
    have h9:=(hO.lt b hb).1;have h8:=lt_of_heap HX2.o;have h7:=Kd.size;omega
   have Hne:=ag Bc;have hO:=hO.down (show w.heap.size<=w2.drew.heap.size from(TL.o.qo Kd).size);have HO:=ag hO;clear hO Bc;go_wp2_with fail;unfold wC;simp only[qC,aF,aH,aI];refine⟨hC5 K3,?_,trivial⟩;go_wp2_with fail;obtain⟨LB,hLe⟩:=aj w3.heap.size;have hL4:=aQ w3 (.cells #[.slice none 0 0] 49);have K4:=K3.alloc (.cells #[.slice none 0 0] 49);have hO4:=HO.o.alloc (.cells #[.slice none 0 0] 49);obtain⟨w4,LC⟩:=aj (w3.alloc (.cells #[.slice none 0 0] 49));rw[<-LC,<-hLe]at hL4;rw[<-LC]at K4 hO4;rw[<-LC,<-hLe];have hLn:w2.heap.size<=LB:=by rw[hLe];exact K3.size
   have HO4:=ag hO4;clear LC hLe hO4;have cL:=aO w4 LB 0 _ _ (0,0) hL4;have fL:=bU hL4 0;unfold wC;simp only[qC,aF,aH,aI];refine⟨hC5 K4,?_,trivial⟩;go_wp2_with fail;unfold wC;go_wp2_with fail;go_meet
   case rel=>exact⟨LB,p2,c2,rfl,ag (by rw[qK hL4];rfl),ag (HO4.o.qm ((ah (qJ LB) w4).tK 0 _) (λb hb e=>by obtain⟨c9,f9,h9⟩:=tV HO4.o hb;have h8:b=LB:=e;subst h8;exact absurd (rD hL4 h9) (by decide))),Hne,ag hLn,ag (K4.setCell (p:=⟨LB,0,none⟩) (.inr hLn) _)⟩
  unfold wC;simp only[qC,aF,aH,aI];refine⟨?_,trivial⟩;go_wp2_with fail;obtain⟨LB,hLe⟩:=aj w2.heap.size;have hL3:((w2.alloc (.cells #[.slice none 0 0] 49)).drew).heap[w2.heap.size]? =some (.cells #[.slice none 0 0] 49 (0,0)):=aQ w2 (.cells #[.slice none 0 0] 49);have K3:=((ah qw w2).alloc (.cells #[.slice none 0 0] 49)).drew;obtain⟨w3,IM⟩:=aj ((w2.alloc (.cells #[.slice none 0 0] 49)).drew);rw[<-IM,<-hLe]at hL3;rw[<-IM]at K3;rw[<-IM,<-hLe];have hLn:w2.heap.size<=LB:=by rw[hLe];exact aS _
  clear IM hLe;unfold wC;simp only[qC,aF,aH,aI];refine⟨hC5 K3,?_,trivial⟩;go_wp2_with fail;refine(Hwo.o _ (TL.o.qo K3)).m ?_;rintro e w4 ⟨⟨v',rfl,hO⟩,K40⟩;obtain⟨p2,c2,rfl⟩:=yJ hO;have K4:=K3.qo K40;have hL4:=K40.heap hL3 id;have Bc:∀b,(Value.slice p2 m c2).ownBlock=some b->b≠X:=λb hb e=>by have h9:=(hO.lt b hb).1;have h8:=lt_of_heap HX2.o;have h7:=K3.size;omega
  have Hne:=ag Bc;have hO4:=hO.down (show w.heap.size<=w3.heap.size from(TL.o.qo K3).size);have HO4:=ag hO4;clear hO hO4 Bc;go_wp2_with fail;have cL:=aO w4 LB 0 _ _ (0,0) hL4;have fL:=bU hL4 0;unfold wC;simp only[qC,aF,aH,aI];refine⟨hC5 K4,?_,trivial⟩;go_wp2_with fail;unfold wC;go_wp2_with fail;go_meet
  exact⟨LB,p2,c2,rfl,ag (by rw[qK hL4];rfl),ag (HO4.o.qm ((ah (qJ LB) w4).tK 0 _) (λb hb e=>by obtain⟨c9,f9,h9⟩:=tV HO4.o hb;have h8:b=LB:=e;subst h8;exact absurd (rD hL4 h9) (by decide))),Hne,ag hLn,ag (K4.setCell (p:=⟨LB,0,none⟩) (.inr hLn) _)⟩
 case rest=>
 obtain⟨LB,p2,c2,rfl,hLB,hOL,hNX,hLn,hK3⟩:=hcut;obtain⟨w3,rfl⟩:=aj wc;clear l0 l1 hC5 L5;have KW3:ak w w3:=TL.o.qo hK3.o;have hR3:=HR2.o.qm hK3.o id;have JM:=hK3.o.heap HX2.o id;have cL:w3.cell? ⟨LB,0,none⟩=some (.slice p2 m c2):=by rw[aO _ _ _ _ _ (0,0) hLB.o];rfl
 by_cases h60:60<=m
 ·have j60:(60:Int)<=m:=by omega
  have Hp:Hid (∀w' e,e= .returned (.int .i64 12)->ak w w'->zcb w w' BB B qE nv (.slice pv n cv) ⟨xn,xt,.slice px nx cx,xs⟩ l e):=ag (λw' e h1 h2=>by rw[zcb,aV H0.o,aV (by rw[JS.o];rw[JS.o]at HRn;exact HRn.o),bu (by rw[<-Hm.o];exact h60)];exact⟨h1,h2⟩);have ZE:=ag KW3;clear hR3 JM KW3 h60;go_wp2_with fail;go_ret;exact⟨Hp.o _ _ rfl ZE.o,ZE.o.yw⟩
 ·have j60:¬(60:Int)<=m:=by omega
  have zzC:xs.length=qE:=by have h9:=HR.o.s;simp only[uJ,qA,bI,aW]at h9;have:=fM h9.1.2;omega
  obtain⟨bn,on,rfl,-,hbn,hcn⟩:=HN.o.at (by have:=H0.o;omega);have zwz:∀j u,(yD xs)[j]? =some u->∀W,ak w W->W.cell? ((⟨bn,on,none⟩:Addr).add j)=some u:=λj u hu W K=>by
   rw[yD,aX]at hu;obtain⟨y,hy,rfl⟩:=kS.1 hu;have hj:=(aT.1 hy).1;have e9:(⟨bn,on,none⟩:Addr).add j=⟨bn,on+j,none⟩:=by unfold Addr.add;split<;>simp_all
   have h9:=hcn j hj;rw[aG,hy]at h9;rw[e9,K.cell (p:=⟨bn,on+j,none⟩) hbn id];exact h9
  have hX3lt:X<w3.heap.size:=lt_of_heap JM;have hB3lt:BB<w3.heap.size:=lt_of_heap hR3;have hL3lt:LB<w3.heap.size:=lt_of_heap hLB.o;have y2:w3.cell? ⟨X,2,none⟩=some (.slice (some ⟨bn,on,none⟩) nx cx):=by rw[aO _ _ _ _ _ (0,0) JM];rfl
  have fX3:=bU JM 2;obtain⟨i0,zM,Ba,D9,D6⟩:=iC Wx;have Hcn:=ag zwz;have Rz:=ag JM;have HR3:=ag hR3;have ZE:=ag KW3;have zv8:nx<=8:=by rw[JS.o];omega
  clear hcn zwz JM hR3 KW3 h60 zzC;go_upto_region 9 with(refine rY _ rfl (.tmp 28) (.tmp 30) 23 rfl w.heap.size 3 i0 (.int .i64 0) 1 8 jE zM Ba D9 D6 rfl (by decide) _ 0 [] rfl (zmv ZE.o.size (aQ w3 _)) ⟨bn,on,none⟩ nx cx (yD xs) rfl (by rw[yD,aP,JS.o,mi]) (λj u hu=>Hcn.o j u hu _ (ZE.o.alloc _)) (λu hu=>by obtain⟨y,_,rfl⟩:=bY.1 hu;rfl) (by unfold maxLen;omega) (by omega) (bQ ZE.o.size (by show w3.heap.size<=(w3.heap.push _).size;rw[dW];omega)) ?_;intro v7 w7 Dx hg7 _;have K37:ak w3 w7:=((ah qw w3).alloc (.cells #[] 3)).grown hg7 (λq hq=> .inr (by have h9:w3.heap.size=q:=aU hq;omega));have hX7:=K37.heap Rz.o id;have f7:=bU hX7 2;have d7:=aO w7 X 2 _ _ (0,0) hX7;obtain⟨p7,c7,rfl⟩:=yJ Dx)
  have hX8:(w7.setCell ⟨X,2,none⟩ (.slice p7 nx c7)).heap[X]? =some (.cells #[.string xn,.string xt,.slice p7 nx c7] 45 (0,0)):=by rw[qK hX7];rfl
  have K78:Keep (qJ X) w7 (w7.setCell ⟨X,2,none⟩ (.slice p7 nx c7)):=(ah _ _).tK 2 _;obtain⟨w8,hw8⟩:=aj (w7.setCell ⟨X,2,none⟩ (.slice p7 nx c7));rw[<-hw8]at hX8 K78⊢;have KW8:ak w w8:=(ZE.o.qo K37).t K78 (λb hb e=>by have h8:b=X:=e;have:=Hxe.o;omega);rw[fZ,eH]at Dx;have zm9:=Dx.qm K78 (λb hb e=>by obtain⟨c9,f9,h9⟩:=tV Dx hb;have h8:b=X:=e;subst h8;exact absurd (rD hX7 h9) (by decide))
  have hL7:=K37.heap hLB.o id;have hL8:=K78.heap hL7 (λe=>by have h8:LB=X:=e;subst h8;exact absurd (rD hX7 hL7) (by decide))
  have zwY:=(hOL.o.qm K37 (λ_ _ x=>x)).qm K78 (λb hb e=>hNX.o b hb e);have hR8:=(HR3.o.qm K37 id).qm K78 (λe=>by have h8:BB=X:=e;omega);have cL8:w8.cell? ⟨LB,0,none⟩=some (.slice p2 m c2):=by rw[aO _ _ _ _ _ (0,0) hL8];rfl
  have x80:w8.cell? ⟨X,0,none⟩=some (.string xn):=by rw[aO _ _ _ _ _ (0,0) hX8];rfl
  have x81:w8.cell? ⟨X,1,none⟩=some (.string xt):=by rw[aO _ _ _ _ _ (0,0) hX8];rfl
  have x82:w8.cell? ⟨X,2,none⟩=some (.slice p7 nx c7):=by rw[aO _ _ _ _ _ (0,0) hX8];rfl
  have zL8:LB<w8.heap.size:=lt_of_heap hL8;have zX8:X<w8.heap.size:=lt_of_heap hX8;have zW8:=KW8.size;obtain⟨ii,hii,hzi,hsi,Rw⟩:=Fg;obtain⟨y,hy⟩:∃y:qP,y=⟨xn,xt,.slice p7 nx c7,xs⟩:=⟨_,rfl⟩
  have HN8:Hid (J3 w8 y∧∀g,y.av.ownBlock=some g->w.heap.size<=g):=ag (by rw[hy];rw[JS.o]at zm9⊢;exact⟨⟨J7 zm9,zbl zm9⟩,λg hg=>(zm9.lt g hg).1⟩)
  have Hy:=ag hy;have znC:=ag zwY;have HL8:=ag hL8;have HR8:=ag hR8;have zBj:=ag KW8;have m60:m<60:=by omega
  clear hw8 K78 Dx zm9 hX7 hX8 hL7 hL8 zwY hR8 KW8 K37 f7 d7 hg7 y2 fX3 hy Rz HR3 cL hLB hOL;go_wp2_with (at_builtin;refine rY _ rfl _ _ 49 rfl w.heap.size 45 ii _ 3 56 kK hii hzi hsi Rw rfl (by decide) (.slice p2 m c2) m _ rfl (znC.o.alloc _) ⟨w8.heap.size,0,none⟩ 1 1 [.string xn,.string xt,.slice p7 nx c7] rfl rfl (rJ _ _ _) (Am xn xt p7 nx c7) (by unfold maxLen;omega) (by omega) (by show w.heap.size<=(w8.heap.push _).size;rw[dW];omega) ?_;intro v9 w9 zqq hg9 _;have K89:Keep (λb=>(Value.slice p2 m c2).ownBlock=some b) w8 w9:=((ah _ _).alloc (.cells #[.string xn,.string xt,.slice p7 nx c7] 45)).grown hg9 (λq hq=> .inl hq);have hL9:=K89.heap HL8.o (λe=>by obtain⟨c9,f9,h9⟩:=tV znC.o e;exact absurd (rD HL8.o h9) (by decide));have f9:=bU hL9 0;have d9:=aO w9 LB 0 _ _ (0,0) hL9;obtain⟨p9,c9,rfl⟩:=yJ zqq);obtain⟨v9,hv9⟩:=aj (Value.slice p9 (m+1) c9);have hLs:(w9.setCell ⟨LB,0,none⟩ (.slice p9 (m+1) c9)).heap[LB]? =some (.cells #[.slice p9 (m+1) c9] 49 (0,0)):=by rw[qK hL9];rfl
  have Ks:Keep (qJ LB) w9 (w9.setCell ⟨LB,0,none⟩ (.slice p9 (m+1) c9)):=(ah _ _).tK 0 _;obtain⟨AV,zvO⟩:=aj (w9.setCell ⟨LB,0,none⟩ (.slice p9 (m+1) c9));rw[<-zvO]at hLs Ks⊢;have tL:∀ {W:ax} {b:Nat} {c:Array ay} {t:aB} {f g:Nat×Nat} {d:Array ay},W.heap[LB]? =some (.cells d 49 g)->W.heap[b]? =some (.cells c t f)->t≠49->¬qJ LB b:=λhl hb ht e=>by have h8:_=LB:=e;subst h8;exact ht (rD hb hl)
  have TP:qF AV w.heap.size 45 3 (.slice p9 (m+1) c9) (Dy l xn++ [y]).length ((Dy l xn++ [y]).flatMap rC):=by have h9:=zqq.qm Ks (λb hb e=>by obtain⟨c8,f8,h8⟩:=tV zqq hb;exact tL hL9 h8 (by decide) e);rw[aN,<-Hm.o,dU,Hy.o];exact h9
  have hN9:J3 w9 y:=HN8.o.1.qm K89 (λb c t f e hh=>by obtain⟨c8,f8,h8⟩:=tV znC.o e;rw[rD hh h8];decide)
  have zwZ:J3 AV y:=hN9.qm Ks (λb c t f e hh=>by have h8:b=LB:=e;subst h8;rw[rD hh hL9];decide)
  have zxj:ak w AV:=(zBj.o.t K89 (λb hb e=>by have:=(znC.o.lt b e).1;omega)).t Ks (λb hb e=>by have h8:b=LB:=e;have:=hLn.o;have:=TL.o.size;omega);have hR9:=HR8.o.qm K89 (λe=>by obtain⟨c8,f8,h8⟩:=tV znC.o e;exact absurd (rD HR8.o h8) (by decide))
  have zwV:=hR9.qm Ks (λe=>tL hL9 hR9 (by decide) e);have H5:=zhN (.slice p9 (m+1) c9) (Dy l xn++ [y]) w.heap.size LB AV TP (by rw[aN,<-Hm.o];show m+1<=1000000;omega) (by rw[aN];show 0<_+1;omega) (λz hz=>by
   rcases dX.1 hz with hz|hz
   ·obtain⟨p,c,h9⟩:=(HI.o.yK z (gy.1 hz).1).len;exact⟨p,_,c,h9⟩
   rw[bJ.1 hz,Hy.o];exact⟨_,_,_,rfl⟩) (by rw[aO _ _ _ _ _ (0,0) hLs];rfl) (λe=>by obtain⟨c8,f8,h8⟩:=tV TP e;exact absurd (rD hLs h8) (by decide))
  have I4:=ag H5;have HLs:=ag hLs;have zBg:=ag zwZ;have zy4:=ag zxj;have zxO:=ag zwV;have zeq:=ag TP;clear H5 hLs hN9 zwZ zxj hR9 zwV TP zqq hg9 K89 hL9 f9 d9 Ks zvO hv9 tL;refine I4.o.m ?_;rintro e Xb ⟨rfl,d,hdp,IQ,hdo,K11⟩;have zw2:=K11.heap HLs.o (λe=>by obtain⟨c8,f8,h8⟩:=tV zeq.o e;exact absurd (rD HLs.o h8) (by decide))
  have zlr:=zxO.o.qm K11 (λe=>by obtain⟨c8,f8,h8⟩:=tV zeq.o e;exact absurd (rD zxO.o h8) (by decide))
  have znu:J3 Xb y:=zBg.o.qm K11 (λb c t f e hh=>by obtain⟨c8,f8,h8⟩:=tV zeq.o e;rw[rD hh h8];decide)
  have cL11:Xb.cell? ⟨LB,0,none⟩=some (.slice p9 (m+1) c9):=by rw[aO _ _ _ _ _ (0,0) zw2];rfl
  have f11:=zlr.fr 3;have d11:=zlr.c3;have zsR:ak w Xb:=zy4.o.t K11 (λb hb e=>by have:=(zeq.o.lt b e).1;omega);have KB:Keep (qJ BB) Xb (Xb.setCell ⟨BB,3,none⟩ (.slice p9 (m+1) c9)):=(ah _ _).tK 3 _;have hdl:d.length=(Dy l xn++ [y]).length:=hdp.length_eq;have tN:zcb w (Xb.setCell ⟨BB,3,none⟩ (.slice p9 (m+1) c9)) BB B qE nv (.slice pv n cv) ⟨xn,xt,.slice (some ⟨bn,on,none⟩) nx cx,xs⟩ l (.returned (.int .i64 0)):=by
   rw[zcb,aV H0.o,aV (by rw[JS.o];rw[JS.o]at HRn;exact HRn.o),aV (by rw[<-Hm.o];omega)];refine⟨rfl,.slice p9 (m+1) c9,y,d,zlr.Uc _,by rw[Hy.o];rfl,znu.qm KB (λb c t f e hh=>by
    have h8:b=BB:=e;subst h8;rw[rD hh zlr];decide),HN8.o.2,hdp,IQ,by
    rw[hdl];exact hdo.qm KB (λb hb e=>by obtain⟨c8,f8,h8⟩:=tV hdo hb;have h9:b=BB:=e;subst h9;exact absurd (rD zlr h8) (by decide))⟩
  have xM:=ag tN;have HKB:=ag ((zsR.yw (S:=qJ BB)).then KB);clear tN hdl KB zsR znu zlr zw2 hdp IQ hdo K11;go_wp2_with fail;go_ret;exact⟨xM.o,HKB.o⟩
