import Derived.Test.YtbcmmbeadgiiiaaGreatDoorYAY
import Derived.Sort.OwnSortedInts
set_option linter.all false
namespace Go.Proofs.YtbcmmbeadgiiiaaGreatDoor
open Go.RowKit Tryz
set_option maxRecDepth 100000
set_option maxHeartbeats 16000000
variable{e:Ending}{ep n qR rf v:Int}{W wait:List (Nat×af)}{M:List Entry}{l sn:List Int}{T marks qy:List af}{B C D RN S X i k mb nm:Nat}{f:Nat->Option af}{mo:Option Nat}{w w':ax}{R:ax->Prop}{av sv tv wv:ay}{V:qI}{x:uX}{d:vN}
def zcF(w:ax):ae 295 #[.slice none 0 0,.int .i64 0,.int .i64 0] w λe w'=>e= .returned (.tuple #[])∧w'=w:=by go_enter func295,ntmps295;go_wp2_with fail;refine lX 1 ?_;rw[mX];go_wp2_with fail;go_end0;exact⟨rfl,rfl⟩
def zrB(w:ax)(l:Int):ae 249 #[.slice none 0 0,.int .i64 0,.int .i64 0,.int .i64 l] w λe w'=>e= .returned (.tuple #[])∧w'=w:=by go_enter func249,ntmps249;go_wp2_with fail;refine lX 1 ?_;rw[mX];go_wp2_with fail;refine(zcF _).m ?_;rintro e w1 ⟨rfl,hw⟩;subst hw;go_wp2_with fail;(try simp only[Exit.inBlock,Exit.then]);refine eF (lQ rfl _ _ _) rfl ?_;exact⟨rfl,rfl⟩
def zpf(w:ax):ae 189 #[.slice none 0 0] w (au (.tuple #[]) w):=by go_enter func189,ntmps189;go_wp2_with fail;refine(bits_Len 0 w (by decide) (by decide)).m ?_;rintro e w1 ⟨rfl,hw⟩;subst hw;go_wp2_with fail;refine(zrB _ _).m ?_;rintro e w2 ⟨rfl,hw⟩;subst hw;go_wp2_with fail;go_end0;exact⟨rfl,ah _ _⟩
def EK(L:List Int):List Int:=L.mergeSort λx y=>decide (x<=y)
def zpg(w:ax)(base:Nat)(v:ay)(L:List Int)(h:w.ownsRow base 3 1 v L.length (L.map (Value.int .i64)))(hl:L.length<=1000000)(Zv:L= []->v= .slice none 0 0):
  ae 189 #[v] w λe w'=>e= .returned (.tuple #[])∧w'.ownsRow base 3 1 v L.length ((EK L).map (Value.int .i64))∧Keep (λb=>v.ownBlock=some b) w w':=by
 by_cases h0:L= []
 ·have hv:=Zv h0;subst h0;subst hv;refine(zpf w).m ?_;rintro e w' ⟨rfl,K⟩;exact⟨rfl,⟨by simp[EK],.inl ⟨rfl,rfl⟩⟩,K.yw⟩
 ·have zlg:0<L.length:=pM.2 h0;rcases h.2 with⟨_,hz⟩|⟨g,cap,cur,hv,hg,hb,hn,Ci,uF,ht⟩
  ·omega
  subst hv;have hH:=holds_of_blockI (ss:=L) hb (by simpa using ht);have Jl:(EK L).length=L.length:=oP _;refine(slices_Sort_int g 0 cap L w hH (lt_of_heap hb) (by omega)).m ?_;rintro e w' ⟨rfl,n,os,rfl⟩;have ru:=ownsRow_sortedI (n:=n) (os:=os) (ts:=EK L) Jl hg hb hn Ci uF;have hgr:=grownBy_sortedI (w:=w) (g:=g) (n:=n) (os:=os) (EK L).toArray;exact⟨rfl,ru,(ah _ _).grown hgr (λk hk=> .inl (by rw[<-hk];rfl))⟩
def zb9(p:Entry):Bool:=decide (p.1<0)||decide (32<=p.1)
def Xp(p:Entry):Bool:=decide (200<p.2.size)
def Jq(p:Entry):Bool:=zb9 p||Xp p
def uf(M:List Entry)(o:Entry->Bool):List (Nat×af):=(EK ((M.filter o).map (·.1))).map λk=>(k.toNat,(getM M k).getD ⟨#[]⟩)
def zjq{a b:List Int}(h:a.Perm b):EK a=EK b:=by
 have hle:∀l:List Int,(EK l).Pairwise (λx y=>x<=y):=λl=>by have:=oq (le:=λx y:Int=>decide (x<=y)) (λa b c h1 h2=>by simp only[aW]at*;omega) (λa b=>by simp only[fA,aW];omega) l;exact this.imp λh=>by simpa using h
 have hp:(EK a).Perm (EK b):=(jC a _).t (h.t (jC b _).s);exact hp.eq_of_pairwise (λx y _ _ h1 h2=>by omega) (hle a) (hle b)
def zhU{o:Entry->Bool}{L:List Int}(h:L.Perm ((M.filter o).map (·.1))):(uf M o).length=L.length:=by rw[uf,aP,EK,oP,<-h.length_eq]
def Jf{o:Entry->Bool}(hp:M.Pairwise (λp q=>p.1≠q.1))(hg:∀p∈M,Jq p=false):∀q∈uf M o,((q.1:Nat):Int)∈(M.filter o).map (·.1)∧getM M (q.1:Int)=some q.2∧q.1<32∧q.2.size<=200:=by
 intro q hq;obtain⟨k,hk,rfl⟩:=bY.1 hq;have Xf:k∈(M.filter o).map (·.1):=(jC _ _).mem_iff.1 hk;obtain⟨p,Xc,rfl⟩:=bY.1 Xf;have hpM:=(gy.1 Xc).1;have hb:=hg p hpM;simp only[Jq,zb9,Xp,kD,gq]at hb;have Jn:=Dj hp (k:=p.1) (s:=p.2) hpM;have e1:((p.1.toNat:Nat):Int)=p.1:=by omega
 simp only[e1,Jn,nN];exact⟨Xf,by first|rfl|trivial,by omega,by omega⟩
def XZ{o:Entry->Bool}(hg:∀p∈M,Jq p=false):(uf M o).map (λp=>(p.1:Int))=EK ((M.filter o).map (·.1)):=by
 rw[uf,iy]
 conv=>rhs;rw[<-List.map_id (EK ((M.filter o).map (·.1)))]
 apply gU;intro k hk;have Xf:k∈(M.filter o).map (·.1):=(jC _ _).mem_iff.1 hk;obtain⟨p,Xc,rfl⟩:=bY.1 Xf;have hb:=hg p (gy.1 Xc).1;simp only[Jq,zb9,Xp,kD,gq]at hb;simp only[Function.comp,id];omega
def zj0(h:ak w w')(row:Option Nat):w.grownBy w' row:=⟨h.os,h.tape,h.output,h.size,λi hi _=>h.block i hi (λx=>x)⟩
def size_set(w:ax)(b i:Nat)(v:ay):(w.setCell ⟨b,i,none⟩ v).heap.size=w.heap.size:=by show(w.heap.modify b _).size=_;exact Array.size_modify ..
def zpR:∃i,prog.info? 3=some i∧i.zero=some (.int .i64 0)∧i.size=1∧i.bytes=8:=by
 have h:(prog.info? 3).map (λi=>(i.zero,i.size,i.bytes))=some (some (.int .i64 0),1,8):=by kernel_rfl
 cases hi:prog.info? 3 with
 | none=>rw[hi]at h;cases h
 | some i=>
  rw[hi]at h;simp only[gW,jD,jH]at h;exact⟨i,rfl,h.1,h.2.1,h.2.2⟩
def zdj{base:Nat}{e:aB}{size:Nat}{v:ay}{n:Nat}{xs:List ay}(h:w.ownsRow base e size v n xs):∃p c,v= .slice p n c:=by
 rcases h.2 with⟨h,hn⟩|⟨_,_,_,h,_⟩
 ·exact⟨none,0,by rw[h,hn]⟩
 exact⟨_,_,h⟩
def vK.zpj(h:vK w X x)(n:Int):vK (w.setCell ⟨X,0,none⟩ (.int .i64 n)) X { x with count:=n } :=by refine⟨?_,h.2⟩;rw[qK h.1];rfl
def vK.zpi(h:vK w X x)(n:Int):vK (w.setCell ⟨X,1,none⟩ (.int .i64 n)) X { x with qB:=n } :=by refine⟨?_,h.2⟩;rw[qK h.1];rfl
def vK.qB(h:vK w X x):w.cell? ⟨X,1,none⟩=some (.int .i64 x.qB):=by rw[aO _ _ _ _ _ (0,0) h.1];rfl
def VO(w:ax):(zeroValue 9).run prog w= .ok (.string ⟨#[]⟩) w:=by
 have h:(prog.info? 9).map (·.zero)=some (some (.string ⟨#[]⟩)):=by kernel_rfl
 cases hi:prog.info? 9 with
 | none=>rw[hi]at h;cases h
 | some i=>
  rw[hi]at h;have hz:=aU h;simp only at hz;simp only[zeroValue,typeInfo];simp[hi,hz]
def yB.look{n:Nat}(h:yB w mb n M):∃o:Obj,w.heap[mb]? =some o∧∀w':ax,w'.heap[mb]? =some o->∀(k:Int) (s:af),(Lit.int .i64 k).wf=true->getM M k=some s->(Instr.lookup 130 (.map (some mb)) (.int .i64 k) false).run prog w'= .ok (.string s) w':=by
 obtain⟨es,clock,hb,F,hs,hD⟩:=h;refine⟨_,hb,λw' JQ k s hk hg=> ?_⟩;have h':yB w' mb n M:=⟨es,clock,JQ,F,hs,hD⟩
 have hz:(zeroValue 9).run prog w'= .ok (.string ⟨#[]⟩) w':=VO w';have hu:=bK;obtain⟨v,ps,G7,hv⟩:=World.ownsMap.lookup h' zdY iZ hz (zd:= .lit (.string [])) (zp:= []) (by simp[plainElem,hu,show(ByteArray.mk #[]).size<=maxLen from by decide]) (key:= .int .i64 k) (kl:= .int .i64 k) (mP fG hk);obtain⟨c,rfl,hc⟩:=Ji hv;rw[WM,hg]at hc
 have:s=c:=by
  have h3:s.data.toList=c.data.toList:=by simpa using hc
  exact jk (iR.1 h3)
 rw[G7,this]
def D8.look{n:Nat}(h:D8 w mo n M):∃o:Obj,MP mo o w∧∀w':ax,MP mo o w'->∀(k:Int) (s:af),(Lit.int .i64 k).wf=true->getM M k=some s->(Instr.lookup 130 (.map mo) (.int .i64 k) false).run prog w'= .ok (.string s) w':=by
 cases mo with
 | none=>
  have h:M= []:=h;exact⟨.map #[] 0,(λb hb=>(by cases hb)),(λw' _ k s _ hg=>(by rw[h]at hg;cases hg))⟩
 | some mb=>
  obtain⟨o,h1,h2⟩:=yB.look h;exact⟨o,(λb hb=>(by cases hb;exact h1)),(λw' hw' k s hk hg=>h2 w' (hw' mb rfl) k s hk hg)⟩
def zpG{b:Nat}{v:ay}{n:Nat}(h:w.ownsRow b 3 1 v n (l.map (Value.int .i64)))(hn:n=l.length):vM w v l:=by
 obtain⟨hl,h⟩:=h;rcases h with⟨hv,h0⟩|⟨g,cap,cur,hv,_,hg,hc,_,hs,ht⟩
 ·refine .inl ⟨List.length_eq_zero_iff.1 (by omega),none,0,by rw[hv]⟩
 refine .inr ⟨g,0,cap,by rw[hv,hn],lt_of_heap hg,λi hi=> ?_⟩;rw[eH,aO _ _ i _ _ (0,0) hg,<-lD];have h1:=dB (λx=>x[i]?) ht;simp only[mi]at h1;rw[List.getElem?_take_of_lt (by omega),aX]at h1;rw[h1];simp[aG,hi]
def Kt(hd:wY w D S wv d):∀b,xN D S wv b->∃c t f,w.heap[b]? =some (.cells c t f)∧(t=96∨t=9∨t=289):=by
 rintro b (rfl|rfl|hb)
 ·obtain⟨c,h2,_⟩:=hd.head;exact⟨_,_,_,h2,.inl rfl⟩
 ·obtain⟨c,h2,_⟩:=hd.row;exact⟨_,_,_,h2,.inr (.inl rfl)⟩
 rcases hd.waits.2 with⟨hv,_⟩|⟨g,cap,cur,fz,hv,_,hg,_⟩
 ·rw[hv]at hb;cases hb
 rw[hv]at hb;obtain rfl:g=b:=aU hb;exact⟨_,_,_,hg,.inr (.inr rfl)⟩
def zeF(hd:wY w D S wv d):∀b,xN D S wv b->b<w.heap.size:=λb hb=>by obtain⟨c,t,f,h,_⟩:=Kt hd b hb;exact lt_of_heap h
def NC(hd:wY w D S wv d)(hc:um w C n):¬xN D S wv C:=λhb=>by obtain⟨c,t,f,h,ht⟩:=Kt hd C hb;rw[hc]at h;have:=aU h;simp only[nS]at this;rw[<-this.2.1]at ht;exact absurd ht (by decide)
def Px(h:qU w B D C V)(hc:um w C n):C≠B:=λe=>by have h1:=h.row;rw[<-e,hc]at h1;have:=aU h1;simp only[nS]at this;exact absurd this.2.1 (by decide)
def zeP{secret:af}{x0:uX} :(zg secret x0 marks d W).x.count=x0.count:=by
 unfold zg;simp only[]
 repeat' split
 all_goals rfl
def zcZ(VB B C XB:Nat)(rf:Int)(w:ax):Prop:=w.cell? ⟨VB,0,none⟩=some (.pointer (some ⟨B,0,none⟩))∧w.cell? ⟨B,1,none⟩=some (.pointer (some ⟨C,0,none⟩))∧w.cell? ⟨XB,0,none⟩=some (.int .i64 rf)
def zku(VB B XB KB:Nat)(cx ck:Array ay)(w:ax):Prop:=w.cell? ⟨VB,0,none⟩=some (.pointer (some ⟨B,0,none⟩))∧w.heap[XB]? =some (.cells cx 66 (0,0))∧w.heap[KB]? =some (.cells ck 67 (0,0))
def zgh(VB MB B:Nat)(mo:Option Nat)(ob:Obj)(w:ax):Prop:=w.cell? ⟨VB,0,none⟩=some (.pointer (some ⟨B,0,none⟩))∧w.cell? ⟨MB,0,none⟩=some (.map mo)∧MP mo ob w
def zcB(T:List af)(W:List (Nat×af))(k:Nat)(p:Nat×af)(h:W[k]? =some p):ui T (W.take (k+1))=(ui T (W.take k)).set p.1 p.2:=by have hk:=aT.1 h;rw[aZ hk.1,hk.2];unfold ui;rw[iL];rfl
def zdc{qB:Int}{t:zcY}(ht:t=zg V.secret ⟨V.now.count+1,qB,V.now.qx,V.now.root⟩ V.marks d W)(h:t.err≠0):xE V d n qB W=⟨t.err,VC V,t.dev,n⟩:=by unfold xE;simp only[<-ht];rw[bu h]
def zjj{qB:Int}{t:zcY}(ht:t=zg V.secret ⟨V.now.count+1,qB,V.now.qx,V.now.root⟩ V.marks d W)(h:t.err=0)(hn:V.now.count+1<=n):xE V d n qB W=⟨10,VC V,t.dev,n⟩:=by unfold xE;simp only[<-ht];rw[aV (λx=>x h),bu hn]
def zgw{qB:Int}{t:zcY}(ht:t=zg V.secret ⟨V.now.count+1,qB,V.now.qx,V.now.root⟩ V.marks d W)(h:t.err=0)(hn:¬V.now.count+1<=n):xE V d n qB W=⟨0,⟨V.secret,t.x,ui V.texts W,t.marks,V.dead⟩,t.dev,V.now.count+1⟩:=by unfold xE;simp only[<-ht];rw[aV (λx=>x h),aV hn]
def zpS:(prog.info? 67).map (λi=>(i.zero,i.size))=some (some (.agg ((List.replicate 32 (⟨#[]⟩:af)).map Value.string).toArray),32):=by kernel_rfl
def Tc:(prog.info? 67).map (·.size)=some 32:=by kernel_rfl
def TY(VB MB EB IB B:Nat)(mo:Option Nat)(ep:Int)(lv:ay)(w:ax):Prop:=
 w.heap[VB]? =some (.cells #[.pointer (some ⟨B,0,none⟩)] 102 (0,0))∧w.heap[MB]? =some (.cells #[.map mo] 130 (0,0))∧w.heap[EB]? =some (.cells #[.int .i64 ep] 3 (0,0))∧w.heap[IB]? =some (.cells #[lv] 23 (0,0))
def zJ(w w':ax)(B D C S:Nat)(V:qI)(wv:ay)(d:vN)(n:Int)(qB:Int)(M:List Entry)(o:Entry->Bool)(e:Ending):Prop:=
 (V.dead=true∧e= .returned (qY 6)∧qU w' B D C V∧wY w' D S wv d∧um w' C n)∨
 (V.dead=false∧(∃p∈M,Jq p=true)∧((e= .returned (qY 2)∧∃p∈M,zb9 p=true)∨(e= .returned (qY 4)∧∃p∈M,Xp p=true))∧qU w' B D C V∧wY w' D S wv d∧um w' C n)∨
 (V.dead=false∧(∀p∈M,Jq p=false)∧e= .returned (qY (xE V d n qB (uf M o)).err)∧qU w' B D C (xE V d n qB (uf M o)).v∧(∃zV,wY w' D S zV (xE V d n qB (uf M o)).dev∧Gx w wv zV)∧um w' C (xE V d n qB (uf M o)).n)
def Q7(qB:Int)(g:FuncId)(cb:Array ay)(o:Entry->Bool)
  (h:qU w B D C V) (hd:wY w D S wv d) (hc:um w C n) (hm:D8 w mo nm M) (F8:nm<=1000) (zcT:0<=V.now.count) (zcS:V.now.count<1099511627776) (hdw:d.wait.length<=800000) (yR:V.secret.size<=1000) (zlk:∀m∈V.marks,m.size=16)
  (eg:∀args w,(callFunc g args).run prog w= .ok (.enter g args) w)
  (ho:∀(p:Entry),p∈M->Jq p=false->∀W,ak w W->ae g (#[.int .i64 p.1,.string p.2]++cb) W λe w'=>e= .returned (.bool (o p))∧ak W w') (R:rF w) (hR:∀b,xN D S wv b->b≠4):
  ae 114 #[.pointer (some ⟨B,0,none⟩),.map mo,.int .i64 qB,.func (.func g) #[] cb] w λe w'=>zJ w w' B D C S V wv d n qB M o e∧Keep (λb=>xN D S wv b∨b=B∨b=C) w w':=by
 have cd:=h.dead;have rE:=h.lt;obtain⟨dd,hdd⟩:=aj V.dead;rw[<-hdd]at cd;have ziF:=D8.lt hm;have hMl:M.length<=1000:=bQ (D8.len hm) F8;have hpw:=D8.TN hm;have HV:=ag h;have Hd:=ag hd;have Hc:=ag hc;have Hm:=ag hm;have Ho:=ag ho;have HR:=ag R;have HR2:=ag hR;have Hdd:=ag hdd;have Hpw:=ag hpw;have zof:=ag zcT;have zoe:=ag zcS;have Hdw:=ag hdw;have ZA:=ag yR;have zAW:=ag zlk;have HMl:=ag hMl;clear h hd hc hm ho R hR hdd hpw hMl zcT zcS hdw yR zlk;go_enter func114,ntmps114;go_upto_region 1 with(fail)
 obtain⟨w1,vF⟩:=aj (((w.alloc (.cells #[.pointer (some ⟨B,0,none⟩)] 102)).alloc (.cells #[.map mo] 130)).alloc (.cells #[.int .i64 qB] 3));have K1:ak w w1:=by rw[vF];exact(((ah _ _).alloc _).alloc _).alloc _
 obtain⟨VB,hVB⟩:=aj w.heap.size;have sz1:(w.alloc (.cells #[.pointer (some ⟨B,0,none⟩)] 102)).heap.size=VB+1:=by rw[hVB];exact dW _
 have sz2:((w.alloc (.cells #[.pointer (some ⟨B,0,none⟩)] 102)).alloc (.cells #[.map mo] 130)).heap.size=VB+2:=by rw[show VB+2=VB+1+1 from rfl,<-sz1];exact dW _
 have sz3:w1.heap.size=VB+3:=by rw[vF,show VB+3=VB+2+1 from rfl,<-sz2];exact dW _
 have r1:w1.heap[VB]? =some (.cells #[.pointer (some ⟨B,0,none⟩)] 102 (0,0)):=by rw[vF,hVB];exact(((ah qw _).alloc _).alloc _).heap (aQ w _) (λx=>x)
 have r2:w1.heap[VB+1]? =some (.cells #[.map mo] 130 (0,0)):=by rw[vF,<-sz1];exact((ah qw _).alloc _).heap (aQ _ _) (λx=>x)
 have r3:w1.heap[VB+2]? =some (.cells #[.int .i64 qB] 3 (0,0)):=by rw[vF,<-sz2];exact aQ _ _
 rw[<-vF,<-hVB];have HVB:=ag hVB;have zxs:=ag sz3;have c1:w1.cell? ⟨VB,0,none⟩=some (.pointer (some ⟨B,0,none⟩)):=by rw[aO _ _ _ _ _ (0,0) r1];rfl
 have cd1:=(K1.cell (p:=⟨B,102,none⟩) rE (λx=>x)).t cd;clear vF sz1 sz2 hVB cd;obtain⟨MB,hMB⟩:=aj (VB+1);obtain⟨EB,hEB⟩:=aj (VB+2);rw[<-hMB]at r2;rw[<-hEB]at r3;rw[show VB+1+1=EB from hEB.s,<-hMB];have HMB:=ag hMB;have HEB:=ag hEB;clear hMB hEB sz3;cases dd with
 | true=>
  go_wp2_with fail;go_ret;exact⟨.inl ⟨Hdd.o.s,rfl,HV.o.qm K1 (λx=>x),Hd.o.qm K1 (λ_ _ x=>x),Hc.o.qm K1 (λx=>x)⟩,K1.yw⟩
 | false=>
  have YB:=Hm.o.qm K1;have c2:w1.cell? ⟨MB,0,none⟩=some (.map mo):=by rw[aO _ _ _ _ _ (0,0) r2];rfl
  go_upto_region 4 with(fail)
  have K2:ak w1 (w1.alloc (.cells #[.slice none 0 0] 23)):=(ah _ _).alloc _;have r4:(w1.alloc (.cells #[.slice none 0 0] 23)).heap[w1.heap.size]? =some (.cells #[.slice none 0 0] 23 (0,0)):=aQ w1 _;have sz4:(w1.alloc (.cells #[.slice none 0 0] 23)).heap.size=VB+4:=by rw[show VB+4=VB+3+1 from rfl,<-zxs.o];exact dW _
  obtain⟨w2,Gp⟩:=aj (w1.alloc (.cells #[.slice none 0 0] 23));obtain⟨IB,hIB⟩:=aj w1.heap.size;rw[<-Gp,<-hIB]at r4;rw[<-Gp]at K2 sz4⊢;rw[<-hIB];have L2:TY VB MB EB IB B mo qB (.slice none 0 0) w2:=⟨K2.heap r1 (λx=>x),K2.heap r2 (λx=>x),K2.heap r3 (λx=>x),r4⟩
  have c5:w2.cell? ⟨MB,0,none⟩=some (.map mo):=by rw[aO _ _ _ _ _ (0,0) L2.2.1];rfl
  have YA:=YB.qm K2;have zw4:IB=VB+3:=by rw[hIB];exact zxs.o
  have HIB:=ag zw4;have K02:=K1.qo K2;clear Gp hIB zw4 r1 r2 r3 r4 c1 cd1 YB c2 K1 K2;go_wp2_with (first|(at_range;refine U8 rfl _ rfl rfl YA ?_;intro w3 zym hg3 hs3))
  go_frame
  obtain⟨cnt3,ziC⟩:=zym;rw[sz4]at ziC hs3⊢;have L3:TY VB MB EB IB B mo qB (.slice none 0 0) w3:=⟨hg3.heap L2.1 (λx=>x),hg3.heap L2.2.1 (λx=>x),hg3.heap L2.2.2.1 (λx=>x),hg3.heap L2.2.2.2 (λx=>x)⟩
  have K03:ak w w3:=K02.qo hg3;clear L2 c5 YA hg3 sz4 K02
  go_loopw [10] (λ_ wr=>∃(left:Lit->Bool) (Ea:Nat) (L:List Int) (lv:ay),Hid (Eu wr mo (VB+4) nm M left Ea)∧Hid (Seen M o Jq left L)∧Hid (TY VB MB EB IB B mo qB lv wr)∧Hid (wr.ownsRow (VB+5) 3 1 lv L.length (L.map (Value.int .i64)))∧Hid (L= []->lv= .slice none 0 0)∧Hid (VB+5<=wr.heap.size)∧ak w wr) (λ_ wr=>Nq wr mo (VB+4))
  ·exact⟨_,_,[],_,ag ziC,ag (Seen.start M o Jq),ag L3,ag ⟨rfl,.inl ⟨rfl,rfl⟩⟩,ag (λ_=>rfl),ag (by omega),K03⟩
  clear ziC hs3 L3 K03;obtain⟨left,Ea,L,lv,hrg,ZJ,hL,ru,Zv,uF,K⟩:=hrel;obtain⟨wo,rfl⟩:=aj wr;have zb5:=hrg.o;go_wp2_with (first|(at_next;refine WR rfl _ rfl rfl zb5 ?_ ?_))
  ·intro Va;obtain⟨ZL,zkl⟩:=ZJ.o.finish Va;have hLl:L.length<=1000:=by
    have h1:=ZL.length_eq;rw[aP]at h1;have h2:=gQ o M;have:=HMl.o;omega
   have H5:=zpg wo (VB+5) lv L ru.o (by omega) Zv.o;have hI:EK L=(uf M o).map (λp=>(p.1:Int)):=by rw[XZ zkl,zjq ZL]
   have hWl:(uf M o).length=L.length:=zhU ZL;have hWm:=Jf (o:=o) Hpw.o zkl;obtain⟨W,hW⟩:=aj (uf M o);rw[<-hW]at hI hWl hWm;rw[hI]at H5;have HLl:=ag hLl;have I4:=ag H5;have HW:=ag hW;have HWl:=ag hWl;have HWm:=ag hWm;have zs7:=ag zkl;have ci:wo.cell? ⟨IB,0,none⟩=some lv:=by rw[aO _ _ _ _ _ (0,0) hL.o.2.2.2];rfl
   have Hrgo:=ag zb5;clear ZL zkl hLl H5 hI hW hWl hWm ZJ Zv Va hrg zb5;go_wp2_with fail;refine I4.o.m ?_;rintro e w5 ⟨rfl,xq,K5⟩;have nq:∀b,b<VB+5->¬(lv.ownBlock=some b):=λb hb e=>by have h1:=(ig ru.o b e).1;omega
   have L5:TY VB MB EB IB B mo qB lv w5:=⟨K5.heap hL.o.1 (nq VB (by omega)),K5.heap hL.o.2.1 (nq MB (by have:=HMB.o;omega)),K5.heap hL.o.2.2.1 (nq EB (by have:=HEB.o;omega)),K5.heap hL.o.2.2.2 (nq IB (by have:=HIB.o;omega))⟩
   have K05:ak w w5:=K.t K5 (λi hi hs=>nq i (by have:=HVB.o;omega) hs);have hV5:=HV.o.qm K05 (λx=>x);have c1:w5.cell? ⟨VB,0,none⟩=some (.pointer (some ⟨B,0,none⟩)):=by rw[aO _ _ _ _ _ (0,0) L5.1];rfl
   have zqu:VB+5<=w5.heap.size:=bQ uF.o K5.size;clear ci K hL ru K5 uF I4;obtain⟨cx0,znn⟩:=aj ((qG V.now).toArray);have znq:cx0.size=35:=by rw[znn,bZ,uk V.now HV.o.lens.qx]
   have zsu:cx0.all (·.oneCell')=true:=by rw[znn];exact sU _
   have zw9:(prog.info? 66).map (·.size)=some cx0.size:=by rw[znq];exact sK
   have zov:∀(j:Nat) (v:ay),cx0[j]? =some v->(qM D C V).toArray[3+j]? =some v:=λj v hv=>by
    have hj:j<35:=by have:=(iI.1 hv).1;omega
    rw[aF,zlK HV.o.lens j hj];rw[znn,aF]at hv;exact hv
   have yh:=xP;have AP:=Au;obtain⟨cz,JL⟩:=aj ((qG sZ).toArray);have uF:tH sZ= .agg cz:=by rw[JL];rfl
   rw[uF]at yh;rw[<-JL]at AP;have EJ:=ag yh;have zxX:=ag zw9;have zyV:=ag zsu;have zvv:=ag zov;have zA5:=ag znn;have HL5:=ag L5;have zgk:=ag xq;have Hnq:=ag nq;clear yh zw9 zsu zov znn uF JL L5 xq nq;obtain⟨XB,hXB⟩:=aj w5.heap.size;have HXB:=ag hXB;go_upto_region 15 with(first|(refine Fz rfl 66 (.tmp 55) rfl B 3 rfl 164 (qM D C V).toArray (0,0) cx0 _ hV5.row zvv.o dM rfl zxX.o ?_)|(refine qN rfl 66 rfl EJ.o ?_;refine qQ (λw6=>w6.heap[w5.heap.size]? =some (.cells cz 66 (0,0))∧ak w5 w6∧w6.heap.size=w5.heap.size+1) ⟨aQ w5 _,(ah qw w5).alloc _,dW _⟩ ?_;rintro w6 ⟨YV,K6,z6⟩)|(refine qL rfl 66 (.tmp 12) (.tmp 56) rfl w5.heap.size 66 cz cx0 rfl rfl YV zxX.o 35 AP znq zyV.o ?_;refine qQ (λw7=>w7.heap[w5.heap.size]? =some (.cells cx0 66 (0,0))∧ak w5 w7∧w7.heap.size=w5.heap.size+1) ⟨qO (c':=cx0) YV,K6.setRow (g:=w5.heap.size) (.inr (aS _)) cx0,by rw[<-z6];simp[World.setRow]⟩ ?_;clear YV K6 z6;rintro w7 ⟨hY7,K7,z7⟩))
   rw[<-hXB]at hY7 z7⊢;clear hXB
   go_frame
   have hx7:vK w7 XB V.now:=⟨by rw[hY7,zA5.o],HV.o.lens.qx⟩
   obtain⟨ct,Vj⟩:=aj V.now.count;have zz2:IntKind.i64.wrap (ct+1)=ct+1:=aY _ (by have:=zof.o;have:=zoe.o;omega);have zyv:wrap64 (ct+1)=ct+1:=by have:=zof.o;have:=zoe.o;unfold wrap64;omega
   have d7:w7.cell? ⟨EB,0,none⟩=some (.int .i64 qB):=by rw[aO _ _ _ _ _ (0,0) (K7.heap HL5.o.2.2.1 (λx=>x))];rfl
   have x7:w7.cell? ⟨XB,0,none⟩=some (.int .i64 ct):=by rw[Vj];exact hx7.count
   have fx:=hx7.free 0;have p1:∀y:wE (λW':ax=>W'.cell? ⟨XB,0,none⟩=some (.int .i64 ct)),y.w.cell? ⟨XB,0,none⟩=some (.int .i64 ct):=λy=>y.h;have p2:∀y:wE (λW':ax=>W'.cell? ⟨EB,0,none⟩=some (.int .i64 qB)),y.w.cell? ⟨EB,0,none⟩=some (.int .i64 qB):=λy=>y.h;have Hct:=ag Vj;clear Vj;refine Iz 5 (λW':ax=>W'.cell? ⟨EB,0,none⟩=some (.int .i64 qB)) (λW':ax=>W'.cell? ⟨XB,0,none⟩=some (.int .i64 ct)) [(2,0),(1,1),(2,2),(2,3),(2,4),(0,5),(2,6),(0,7)] (by kernel_rfl) (by kernel_rfl) (λc a d v w h=>by cases d<;>exact h) ?_;simp only[EY,qC,aF,aH,aI]
   repeat(refine qp (λK hK=> ?_);go_simp;(first|refine⟨_,λ_=>rfl,hK _ ?_⟩|refine hK _ ?_);clear hK K)
   clear p1 p2;refine⟨d7,λ_=>x7,?_⟩;go_wp2_with fail;have Bc:EB≠XB:=by have:=HEB.o;have:=HXB.o;omega
   have hx8:vK (w7.setCell ⟨XB,0,none⟩ (.int .i64 (ct+1))).drew XB { V.now with count:=ct+1 } :=hx7.zpj (ct+1);have K8:Keep (qJ XB) w7 (w7.setCell ⟨XB,0,none⟩ (.int .i64 (ct+1))).drew:=((ah (qJ XB) w7).tK 0 _).drew;obtain⟨w8,hw8⟩:=aj ((w7.setCell ⟨XB,0,none⟩ (.int .i64 (ct+1))).drew);have z8:w8.heap.size=w7.heap.size:=by rw[hw8];exact size_set w7 XB 0 _
   rw[<-hw8]at hx8 K8⊢;have d8:w8.cell? ⟨EB,0,none⟩=some (.int .i64 qB):=(K8.cell (p:=⟨EB,0,none⟩) (iK d7) Bc).t d7;have e8:=hx8.qB;simp only at e8;have fx8:=hx8.free 1;clear hw8 d7 x7 fx zz2 zyv hx7;simp only[EY,qC,aF,aH,aI]
   repeat(refine qp (λK hK=> ?_);go_simp;(first|refine⟨_,λ_=>rfl,hK _ ?_⟩|refine hK _ ?_);clear hK K)
   refine⟨d8,λh=>(by cases h),?_⟩;go_upto_region 16 with(fail)
   have hx9:=hx8.zpi qB;have K9:Keep (qJ XB) w7 (w8.setCell ⟨XB,1,none⟩ (.int .i64 qB)):=K8.then ((ah (qJ XB) w8).tK 1 _);obtain⟨w9,hw9⟩:=aj (w8.setCell ⟨XB,1,none⟩ (.int .i64 qB));rw[<-hw9]at hx9 K9⊢;have K59:ak w5 w9:=K7.t K9 (λi hi hs=>by have h1:i=XB:=hs;have:=HXB.o;omega);have zvX:w9.heap.size=XB+1:=by rw[hw9,size_set,z8,z7,HXB.o]
   have hV9:=hV5.qm K59 (λx=>x);have c9:w9.cell? ⟨VB,0,none⟩=some (.pointer (some ⟨B,0,none⟩)):=by rw[aO _ _ _ _ _ (0,0) (K59.heap HL5.o.1 (λx=>x))];rfl
   clear hw9 d8 e8 fx8 hx8 K8 K9 K7 hY7 z7 c1 hV5;obtain⟨cm,hcm⟩:=aj ((V.marks.map Value.string).toArray);have zwA:cm.size=32:=by rw[hcm,bZ,aP,HV.o.lens.marks]
   have zst:cm.all (·.oneCell')=true:=by rw[hcm];exact Ub _
   have h32:(prog.info? 67).map (·.size)=some cm.size:=by rw[zwA];exact Tc
   have zou:∀(j:Nat) (v:ay),cm[j]? =some v->(qM D C V).toArray[70+j]? =some v:=λj v hv=>by
    have hj:j<32:=by have:=(iI.1 hv).1;omega
    rw[aF,zaH HV.o.lens j hj];rw[hcm,aF,aX,aK (by rw[HV.o.lens.marks];exact hj)]at hv;rw[<-hv];simp[aG,HV.o.lens.marks,hj]
   have ztP:=zpS;obtain⟨cq,hcq⟩:=aj (((List.replicate 32 (⟨#[]⟩:af)).map Value.string).toArray);have zz4:cq.size=32:=by rw[hcq];simp
   rw[<-hcq]at ztP;have zAZ:=ag ztP;have H32:=ag h32;have zyT:=ag zst;have zvu:=ag zou;have Hcm:=ag hcm;clear ztP h32 zst zou hcm hcq;obtain⟨KB,hKB⟩:=aj w9.heap.size;have HKB:=ag hKB;go_upto_region 17 with(first|(refine Fz rfl 67 (.tmp 65) rfl B 70 rfl 164 (qM D C V).toArray (0,0) cm _ hV9.row zvu.o kL rfl H32.o ?_)|(refine qN rfl 67 rfl zAZ.o ?_;refine qQ (λw6=>w6.heap[w9.heap.size]? =some (.cells cq 67 (0,0))∧ak w9 w6∧w6.heap.size=w9.heap.size+1) ⟨aQ w9 _,(ah qw w9).alloc _,dW _⟩ ?_;rintro w6 ⟨YV,K6,z6⟩)|(refine qL rfl 67 (.tmp 13) (.tmp 66) rfl w9.heap.size 67 cq cm rfl rfl YV H32.o 32 zz4 zwA zyT.o ?_;refine qQ (λw7=>w7.heap[w9.heap.size]? =some (.cells cm 67 (0,0))∧ak w9 w7∧w7.heap.size=w9.heap.size+1) ⟨qO (c':=cm) YV,K6.setRow (g:=w9.heap.size) (.inr (aS _)) cm,by rw[<-z6];simp[World.setRow]⟩ ?_;clear YV K6 z6;rintro AV ⟨zt1,BC,z10⟩))
   rw[<-hKB]at zt1 z10⊢;clear hKB
   go_frame
   have zly:ak w5 AV:=K59.qo BC;have zlz:ak w AV:=K05.qo zly;have L10:TY VB MB EB IB B mo qB lv AV:=⟨zly.heap HL5.o.1 (λx=>x),zly.heap HL5.o.2.1 (λx=>x),zly.heap HL5.o.2.2.1 (λx=>x),zly.heap HL5.o.2.2.2 (λx=>x)⟩
   have zfK:=hV9.qm BC (λx=>x);have zvK:=hx9.qm BC (λx=>x);have zwj:zB AV KB V.marks:=⟨by rw[zt1,Hcm.o],HV.o.lens.marks⟩
   have TP:=zly.ownsRow zgk.o (λb hb e=>e);obtain⟨pl,cl,hlv⟩:=zdj TP;have znT:vM AV lv (W.map λp=>(p.1:Int)):=zpG TP (by rw[aP,HWl.o]);obtain⟨ob,hob,znW⟩:=D8.look (Hm.o.qm zlz);have hXl:VB+5<=XB:=by have:=HXB.o;omega
   have hKX:KB=XB+1:=by rw[HKB.o,zvX]
   have hdl:=zeF Hd.o;have zt2:=HVB.o;have zt5:=HMB.o;have zAh:=HEB.o;have zue:=HIB.o;have Xj:∀b,b=B∨b=IB∨b=VB∨b=EB∨b=MB∨mo=some b->¬Ar D S wv XB KB b:=by
    rintro b hb (hd'|hd'|hd')
    ·have h1:=hdl b hd';rcases hb with rfl|rfl|rfl|rfl|rfl|hb
     ·exact Ue HV.o Hd.o _ hd' rfl
     ·omega
     ·omega
     ·omega
     ·omega
     obtain⟨c0,t0,f0,h0,_⟩:=Kt Hd.o b hd';exact Hm.o.xI h0 hb
    ·rcases hb with rfl|rfl|rfl|rfl|rfl|hb<;>first|omega|(have:=ziF b hb;omega)
    rcases hb with rfl|rfl|rfl|rfl|rfl|hb<;>first|omega|(have:=ziF b hb;omega)
   have zsQ:∀i,i<w.heap.size->Ar D S wv XB KB i->xN D S wv i:=by
    rintro i hi (h1|h1|h1)
    ·exact h1
    ·omega
    omega
   have hE:Zc AV B D C S V wv IB VB EB XB MB mo KB ob W ⟨V.now.count+1,qB,V.now.qx,V.now.root⟩:=
    {
     G9:=zfK
     ids:=⟨pl,cl,by rw[aO _ _ _ _ _ (0,0) L10.2.2.2,hlv,HWl.o];rfl,by rw[HWl.o,<-hlv];exact znT,λb hb=>by
      rw[HWl.o,<-hlv]at hb;have h1:=(ig TP b hb).1;rintro(h2|h2|h2)
      ·have:=hdl b h2;omega
      ·have h3:=(ig zgk.o b hb).2;have:=HXB.o;omega
      have h3:=(ig zgk.o b hb).2;have:=HXB.o;omega⟩
     v:=by rw[aO _ _ _ _ _ (0,0) L10.1];rfl
     qB:=by rw[aO _ _ _ _ _ (0,0) L10.2.2.1];rfl
     map:=by rw[aO _ _ _ _ _ (0,0) L10.2.1];rfl
     obj:=hob
     look:=λw' hw' p hp=>znW w' hw' _ _ (by have:=(HWm.o p hp).2.2.1;simp[Lit.wf,show IntKind.i64.min= -9223372036854775808 from rfl,show IntKind.i64.max=9223372036854775807 from rfl];omega) (HWm.o p hp).2.1
     apart:=Xj
     zqO:=λb hb=>by have:=hdl b hb;omega
     xk:=by omega
     small:=λp hp=>(HWm.o p hp).2.2 }
   have zwy:=Hct.o;have h1t:=zl4 hE (Hd.o.qm zlz (λ_ _ x=>x)) (by rw[<-zwy];exact zvK) zwj zAW.o (by have:=HWl.o;have:=HLl.o;have:=Hdw.o;omega) ZA.o (by show 1<=V.now.count+1;have:=zof.o;omega) (by show V.now.count+1<=1099511627776;have:=zoe.o;omega) (by have:=HWl.o;have:=HLl.o;omega) (HR.o.qm zlz (λx=>x)) (by
    have hr:4<w.heap.size:=iK (HR.o 0 (by omega));rintro(h2|h2|h2)
    ·exact HR2.o _ h2 rfl
    ·omega
    omega)
   obtain⟨t,ht⟩:=aj (zg V.secret ⟨V.now.count+1,qB,V.now.qx,V.now.root⟩ V.marks d W);rw[<-ht]at h1t;have H1t:=ag h1t;have Ht:=ag ht;have HE:=ag hE;have zy2:=ag zsQ;have zyY:=ag znW;have Hlv:=ag hlv;have zyW:=ag znT;have HKX:=ag hKX;have HXl:=ag hXl;have znD:=ag L10;have zBc:=ag zfK;have hCw:=lt_of_heap Hc.o;have hCn:¬Ar D S wv XB KB C:=by
    rintro(h2|h2|h2)
    ·exact NC Hd.o Hc.o h2
    ·omega
    omega
   have HCn:=ag hCn;have HCw:=ag hCw;clear h1t ht hE zsQ znW hlv znT hKX hXl L10 zfK hCn hCw zwy zt2 zt5 zAh zue Xj hdl zvK zwj TP hob zt1 z10 zvX hV9 hx9 K59 c9 zqu;go_wp2_with fail;refine H1t.o.m ?_;rintro e Xb ⟨⟨rfl,⟨zV,zqF,zw0⟩,Ls⟩,K11⟩;have zxk:Keep (λb=>xN D S wv b∨b=B∨b=C) w Xb:=zlz.yw.t K11 (λi hi hs=> .inl (zy2.o i hi hs));have zw7:¬Ar D S wv XB KB B:=HE.o.apart B (.inl rfl);have Zw:qU Xb B D C V:=zBc.o.qm K11 zw7;have zqH:um Xb C n:=Hc.o.qm (zlz.yw.t K11 (S:=Ar D S wv XB KB) (λi hi hs=>hs)) HCn.o;have zn3:Gx w wv zV:=Jg (SX w wv) zw0 zlz.size;have L11:TY VB MB EB IB B mo qB lv Xb:=⟨K11.heap znD.o.1 (HE.o.apart VB (by simp)),K11.heap znD.o.2.1 (HE.o.apart MB (by simp)),K11.heap znD.o.2.2.1 (HE.o.apart EB (by simp)),K11.heap znD.o.2.2.2 (HE.o.apart IB (by simp))⟩
   have c1:Xb.cell? ⟨VB,0,none⟩=some (.pointer (some ⟨B,0,none⟩)):=by rw[aO _ _ _ _ _ (0,0) L11.1];rfl
   have f11:=Zw.free 102;have g11:=Zw.dead;have hnB:=Ue Zw zqF;have hnC:=NC zqF zqH;have hCB:=Px Zw zqH;have tN:∀(er:Int) W',er≠0->xE V d n qB W=⟨er,VC V,t.dev,n⟩->Keep (qJ C) Xb W'->qU W' B D C V->wY W' D S zV t.dev->um W' C n->zJ w (W'.setCell ⟨B,102,none⟩ (.bool true)) B D C S V wv d n qB M o (.returned (qY er))∧Keep (λb=>xN D S wv b∨b=B∨b=C) w (W'.setCell ⟨B,102,none⟩ (.bool true)):=by
    intro er W' her htv KW hVW hdW hcW;have Ks:Keep (qJ B) W' (W'.setCell ⟨B,102,none⟩ (.bool true)):=(ah (qJ B) W').tK 102 _;refine⟨.inr (.inr ⟨Hdd.o.s,zs7.o,?_⟩),?_⟩
    ·rw[<-HW.o,htv];exact⟨rfl,hVW.zrr,⟨zV,hdW.qm Ks (λb hb e=>Ue hVW hdW b hb e),zn3⟩,hcW.qm Ks (λe=>Px hVW hcW e)⟩
    exact(zxk.t KW (λi hi hs=> .inr (.inr hs))).t Ks (λi hi hs=> .inr (.inl hs))
   have xM:=ag tN;have zfT:=ag Zw;have znB:=ag zqF;have ziV:=ag zqH;have zy3:=ag zn3;have zuB:=ag L11;have zy5:=ag zxk;have zxU:=ag K11;clear tN Zw zqF zqH zn3 L11 zw7 hnB hnC hCB K11 zw0 H1t;by_cases h0:t.err=0
   ·rw[h0];rw[show qY 0=Value.nilIface from rfl];obtain⟨ztr,zwi⟩:=Ls h0;obtain⟨rf,TC⟩:=aj (V.now.count+1);have htc:t.x.count=rf:=by rw[Ht.o,zeP,TC]
    have xc:=ztr.count;rw[htc]at xc;have cC:=zfT.o.Ea;have L19:zcZ VB B C XB rf Xb:=⟨c1,cC,xc⟩
    have zxn:=ag ztr;have zxD:=ag zwi;have JX:=ag TC;have Htc:=ag htc;have H0:=ag h0;clear ztr zwi TC htc xc cC Ls h0;go_upto_region 19 with(fail)
    have p1:∀y:wE (zcZ VB B C XB rf),y.w.cell? ⟨VB,0,none⟩=some (.pointer (some ⟨B,0,none⟩)):=λy=>y.h.1;have p2:∀y:wE (zcZ VB B C XB rf),y.w.cell? ⟨B,1,none⟩=some (.pointer (some ⟨C,0,none⟩)):=λy=>y.h.2.1;have p3:∀y:wE (zcZ VB B C XB rf),y.w.cell? ⟨XB,0,none⟩=some (.int .i64 rf):=λy=>y.h.2.2;refine qX (zcZ VB B C XB rf) [(true,0),(true,1),(true,2),(true,3),(true,4),(true,5),(false,6),(false,7)] ?_;simp only[uy,qC,aF,aH,aI]
    repeat(refine qp (λK hK=> ?_);go_simp;(first|refine⟨_,λ_=>rfl,hK _ ?_⟩|refine hK _ ?_);clear hK K)
    clear p1 p2 p3;refine⟨L19,?_⟩;have hBt:=HE.o.apart B (.inl rfl);have zAb:=HE.o.apart VB (by simp);have zea:=zfT.o.lt;have zsP:=iK c1;have zw1:∀W',Keep (qJ C) Xb W'->zcZ VB B C XB rf W':=λW' KW=>
     ⟨(KW.cell (p:=⟨VB,0,none⟩) zsP (λe=>by have h1:VB=C:=e;have:=HCw.o;have:=HVB.o;omega)).t L19.1,(KW.cell (p:=⟨B,1,none⟩) zea (λe=>Px zfT.o ziV.o e.s)).t L19.2.1,(KW.cell (p:=⟨XB,0,none⟩) (iK L19.2.2) (λe=>HCn.o (.inr (.inl e.s)))).t L19.2.2⟩
    have zxP:=ag zw1;clear hBt zAb zea zsP L19 zw1;by_cases hvn:rf<=n
    ·have hrs:=zpu (ziV.o.qm (ah qw Xb).drew (λx=>x)) rf hvn;have tN:=λW' KW=>xM.o 10 W' (by decide) (zjj Ht.o H0.o (by rw[<-JX.o];exact hvn)) KW;rw[show qY 10=Value.iface 34 (.int .i64 10)from rfl]at tN;have Hrs:=ag hrs;have Hf:=ag tN;clear hrs tN hvn;go_wp2_with fail;refine Hrs.o.m ?_;rintro e yH ⟨rfl,e12⟩;have FB:ak Xb yH:=by rw[e12];exact(ah qw Xb).drew
     have L12:=zxP.o yH FB.yw;have c12:=L12.1;have V12:=zfT.o.qm FB (λx=>x);have f12:=V12.free 102;have g12:=V12.dead;have zwq:=Hf.o yH FB.yw V12 (znB.o.qm FB (λ_ _ x=>x)) (ziV.o.qm FB (λx=>x));have zA3:=ag zwq;clear e12 zwq V12 c1 f11 g11;go_wp2_with fail;refine⟨L12,?_⟩;go_wp2_with fail;go_ret;exact zA3.o
    have hrs:=zdl (ziV.o.qm (ah qw Xb).drew (λx=>x)) rf (by omega);have Hrs:=ag hrs;have Hvn:=ag hvn;clear hrs hvn;go_wp2_with fail;refine Hrs.o.m ?_;rintro e yH ⟨rfl,zwC,FB⟩;have FB:Keep (qJ C) Xb yH:=(ah qw Xb).drew.yw.t FB (λi hi hs=>hs);have L12:=zxP.o yH FB;have V12:=zfT.o.qm FB (λe=>Px zfT.o ziV.o e.s);clear c1 f11 g11;go_wp2_with fail;refine⟨L12,?_⟩;have c12:=L12.1;go_upto_region 23 with(fail)
    obtain⟨cx,Ru⟩:=aj ((qG t.x).toArray);obtain⟨ck,QN⟩:=aj ((t.marks.map Value.string).toArray);have Zk:=zxn.o.2;have Jl:=zxD.o.2;have ztW:cx.size=35:=by rw[Ru,bZ,uk t.x Zk]
    have ztY:ck.size=32:=by rw[QN,bZ,aP,Jl]
    have QP:(prog.info? 66).map (·.size)=some cx.size:=by rw[ztW];exact sK
    have h32:(prog.info? 67).map (·.size)=some ck.size:=by rw[ztY];exact Tc
    have zv6:cx.all (·.oneCell')=true:=by rw[Ru];exact sU _
    have zv7:ck.all (·.oneCell')=true:=by rw[QN];exact Ub _
    have EW:yH.heap[XB]? =some (.cells cx 66 (0,0)):=by rw[Ru];exact FB.heap zxn.o.1 (λe=>HCn.o (.inr (.inl e.s)))
    have zt8:yH.heap[KB]? =some (.cells ck 67 (0,0)):=by rw[QN];exact FB.heap zxD.o.1 (λe=>HCn.o (.inr (.inr e.s)))
    have L23:zku VB B XB KB cx ck yH:=⟨c12,EW,zt8⟩
    have h23:∀W',Keep (qJ B) yH W'->zku VB B XB KB cx ck W':=λW' KW=>by have hb:=HE.o.apart B (.inl rfl);have hv:=HVB.o;exact⟨(KW.cell (p:=⟨VB,0,none⟩) (iK c12) (λe=>by have h1:VB=B:=e;omega)).t c12,KW.heap EW (λe=>hb (.inr (.inl e.s))),KW.heap zt8 (λe=>hb (.inr (.inr e.s)))⟩
    have zuj:=V12.qm (ah qw yH).drew (λx=>x);have OC:3+cx.size<=(qM D C V).toArray.size:=by rw[ztW,bZ,IA HV.o.lens];omega
    have Dw:70+ck.size<=(qM D C (zh V t.x)).toArray.size:=by rw[ztY,bZ,IA (HV.o.lens.now Zk)];omega
    have Ro:=zuj.zh Zk;rw[<-Ru]at Ro;have JO:∀W',qU W' B D C (zh V t.x)->qU (W'.setRow B (vU (qM D C (zh V t.x)).toArray 70 ck)) B D C (FT (zh V t.x) t.marks):=λW' h=>by rw[QN];exact h.FT Jl
    have H23:=ag h23;have Gf:=ag QP;have zxY:=ag h32;have zAO:=ag zv6;have zAP:=ag zv7;have Hn1:=ag OC;have Hn2:=ag Dw;have Hs1:=ag Ro;have Hs2:=ag JO;have p1:∀y:wE (zku VB B XB KB cx ck),y.w.cell? ⟨VB,0,none⟩=some (.pointer (some ⟨B,0,none⟩)):=λy=>y.h.1;clear Ru QN Zk Jl ztW ztY QP h32 zv6 zv7 EW zt8 h23 OC Dw Ro JO c12;refine qX (zku VB B XB KB cx ck) [(true,0),(true,1),(true,2),(true,3),(true,4),(true,5),(false,6),(true,7),(true,8),(false,9)] ?_;simp only[uy,qC,aF,aH,aI]
    iterate 2 (refine qp (λK hK=> ?_);go_simp;(first|refine⟨_,λ_=>rfl,hK _ ?_⟩|refine hK _ ?_);clear hK K)
    refine rO (by rfl) 66 (.tmp 12) rfl XB 0 rfl 66 cx (0,0) cx _ (λy=>y.h.2.1) (λj v hv=>by rw[eH];exact hv) dM rfl Gf.o ?_;refine tY ?_;refine rO (by rfl) 67 (.tmp 13) rfl KB 0 rfl 67 ck (0,0) ck _ (λy=>y.h.2.2) (λj v hv=>by rw[eH];exact hv) kL rfl zxY.o ?_;refine tY ?_
    iterate 2 (refine qp (λK hK=> ?_);go_simp;(first|refine⟨_,λ_=>rfl,hK _ ?_⟩|refine hK _ ?_);clear hK K)
    refine⟨L23,?_⟩;refine uG rfl 66 (.tmp 89) (.tmp 86) rfl B 3 164 (qM D C V).toArray cx rfl rfl zuj.row Gf.o Hn1.o zAO.o ?_;refine qQ (λW'=>qU W' B D C (zh V t.x)∧Keep (qJ B) yH W') ⟨Hs1.o,(ah (qJ B) yH).drew.setRow (g:=B) (.inl rfl) _⟩ ?_;rintro w13 ⟨V13,QQ⟩;go_wp2_with fail
    iterate 2 (refine qp (λK hK=> ?_);go_simp;(first|refine⟨_,λ_=>rfl,hK _ ?_⟩|refine hK _ ?_);clear hK K)
    clear p1;refine⟨H23.o w13 QQ,?_⟩;refine uG rfl 67 (.tmp 91) (.tmp 87) rfl B 70 164 (qM D C (zh V t.x)).toArray ck rfl rfl V13.row zxY.o Hn2.o zAP.o ?_;refine qQ (λW'=>qU W' B D C (FT (zh V t.x) t.marks)∧Keep (qJ B) yH W') ⟨Hs2.o _ V13,QQ.setRow (g:=B) (.inl rfl) _⟩ ?_;rintro w14 ⟨V14,K14⟩;have hBw:=HV.o.lt;have hCw:=HCw.o;have zt2:=HVB.o;have zt5:=HMB.o;have zue:=HIB.o;have zwh:mo≠some B:=Hm.o.xI HV.o.row;have zwg:mo≠some C:=Hm.o.xI Hc.o;have uU:∀ {b:Nat} {x:Obj},Xb.heap[b]? =some x->b≠B->b≠C->∀W',Keep (qJ B) yH W'->W'.heap[b]? =some x:=λh hb hc W' KW=>KW.heap (FB.heap h (λe=>hc e)) (λe=>hb e);have hI:∀W',Keep (qJ B) yH W'->W'.cell? ⟨IB,0,none⟩=some lv:=λW' KW=>by rw[aO _ _ _ _ _ (0,0) (uU zuB.o.2.2.2 (by omega) (by omega) W' KW)];rfl
    have hP:∀W',Keep (qJ B) yH W'->zgh VB MB B mo ob W':=λW' KW=>
     ⟨by rw[aO _ _ _ _ _ (0,0) (uU zuB.o.1 (by omega) (by omega) W' KW)];rfl,by rw[aO _ _ _ _ _ (0,0) (uU zuB.o.2.1 (by omega) (by omega) W' KW)];rfl,λb hb=>uU (zxU.o.heap (HE.o.obj b hb) (HE.o.apart b (by simp[hb]))) (λe=>zwh (e▸hb)) (λe=>zwg (e▸hb)) W' KW⟩
    have znu:vM Xb lv (W.map λp=>(p.1:Int)):=zyW.o.qm zxU.o (λb hb=>by
     obtain⟨p,c,h1,h2,h3⟩:=HE.o.ids;have h4:lv= .slice p W.length c:=by
      have h5:AV.cell? ⟨IB,0,none⟩=some lv:=by rw[aO _ _ _ _ _ (0,0) znD.o.2.2.2];rfl
      rw[h5]at h1;exact aU h1
     exact h3 b (h4▸hb))
    have hNr:∀W',Keep (qJ B) yH W'->vM W' lv (W.map λp=>(p.1:Int)):=λW' KW=>(znu.qm FB (λb hb e=>by
     have h1:=(ig zgk.o b hb).1;have h2:b=C:=e;omega)).qm KW (λb hb e=>by
     have h1:=(ig zgk.o b hb).1;have h2:b=B:=e;omega)
    have zwx:wY yH D S zV t.dev:=znB.o.qm FB (λb hb e=>NC znB.o ziV.o (e▸hb));have zsy:∀b,xN D S zV b->b≠B:=Ue zfT.o znB.o;have tN:∀W',Keep (qJ B) yH W'->qU W' B D C ⟨V.secret,t.x,ui V.texts W,t.marks,V.dead⟩->zJ w W' B D C S V wv d n qB M o (.returned .nilIface)∧Keep (λb=>xN D S wv b∨b=B∨b=C) w W':=by intro W' KW hVW;have htv:=zgw (d:=d) (n:=n) (qB:=qB) Ht.o H0.o (by have h5:=Hvn.o;rw[JX.o]at h5;omega);refine⟨.inr (.inr ⟨Hdd.o.s,zs7.o,?_⟩),(zy5.o.t FB (λi hi hs=> .inr (.inr hs))).t KW (λi hi hs=> .inr (.inl hs))⟩;rw[<-HW.o,htv];refine⟨rfl,hVW,⟨zV,zwx.qm KW (λb hb e=>zsy b hb e),zy3.o⟩,?_⟩;have h5:=zwC.qm KW (λe=>Px HV.o Hc.o e);rw[JX.o]at h5;exact h5
    obtain⟨m,hmL⟩:=aj L.length;have hWm:W.length=m:=by rw[hmL];exact HWl.o
    have zqA:=Hlv.o;rw[<-hmL]at zqA;have hci:=hI w14 K14;rw[zqA]at hci;have hml:m<=1000:=by rw[hmL];exact HLl.o
    have HI:=ag hI;have HP:=ag hP;have HNr:=ag hNr;have Hfn:=ag tN;have zAX:=ag zqA;have zqY:=ag hWm;have zBb:=ag V14;clear hBw hCw zt2 zt5 zue zwh zwg uU hI hP znu hNr zwx zsy tN hmL zqA hWm V14 V13 QQ zuj V12 zwC L23 L12;go_wp2_with fail
    go_loopw [94] (λiv wr=>∃k:Nat,iv= .int .i64 k∧k<=m∧Hid (qU wr B D C ⟨V.secret,t.x,ui V.texts (W.take k),t.marks,V.dead⟩)∧Keep (qJ B) yH wr) (λiv _=>m-(intOf iv).toNat)
    ·exact⟨0,rfl,by omega,ag zBb.o,K14⟩
    obtain⟨k,rfl,hk,hVr,KR⟩:=hrel;obtain⟨wo,rfl⟩:=aj wr;by_cases rE:k<m
    ·have j1:(k:Int)<m:=by omega
     obtain⟨p,hp⟩:∃p,W[k]? =some p:=⟨_,aK (by have:=zqY.o;omega)⟩
     obtain⟨id,s⟩:=p;have TA:=HWm.o _ (bG hp);have TV:id<32:=TA.2.2.1;have jid:(id:Int)<32:=by omega
     have hN:=HNr.o wo KR;rw[zAX.o]at hN;obtain⟨bi,oi,hpi,-,Rw,znr⟩:=hN.at (by rw[aP];have:=zqY.o;omega);have zzT:wo.cell? ⟨bi,oi+k,none⟩=some (.int .i64 (id:Int)):=by rw[znr k (by rw[aP];have:=zqY.o;omega),aG,aX,hp];rfl
     subst hpi;have zwk:=zyY.o;have L27:=HP.o wo KR;have q1:∀y:wE (zgh VB MB B mo ob),y.w.cell? ⟨VB,0,none⟩=some (.pointer (some ⟨B,0,none⟩)):=λy=>y.h.1;have q2:∀y:wE (zgh VB MB B mo ob),y.w.cell? ⟨MB,0,none⟩=some (.map mo):=λy=>y.h.2.1;have q3:∀y:wE (zgh VB MB B mo ob),(Instr.lookup 130 (.map mo) (.int .i64 (id:Int)) false).run prog y.w= .ok (.string s) y.w:=λy=>zwk y.w y.h.2.2 _ _ (by simp[Lit.wf,show IntKind.i64.min= -9223372036854775808 from rfl,show IntKind.i64.max=9223372036854775807 from rfl];omega) TA.2.1;have fB:=hVr.o.free (38+id);have gB:=hVr.o.text id TV;have zun:=ag (hVr.o.Ag id TV s);have Hp:=ag hp;have Hsm:=ag TA;clear hN znr zwk hp TA hVr;go_upto_region 27 with(fail)
     refine qX (zgh VB MB B mo ob) [(true,0),(true,1),(true,2),(true,3),(true,4),(true,5),(true,6),(true,7),(false,8)] ?_;simp only[uy,qC,aF,aH,aI]
     repeat(refine qp (λK hK=> ?_);go_simp;(first|refine⟨_,λ_=>rfl,hK _ ?_⟩|refine hK _ ?_);clear hK K)
     clear q1 q2 q3;refine⟨L27,?_⟩;have KR2:Keep (qJ B) yH (wo.setCell ⟨B,38+id,none⟩ (.string s)):=KR.then ((ah (qJ B) wo).tK (38+id) _);have zBk:=ag KR2;clear KR2;go_wp2_with fail;refine⟨⟨k+1,by rw[show((k+1:Nat):Int)=(k:Int)+1 from by omega],by omega,ag ?_,zBk.o.drew⟩,?_⟩
     ·rw[zcB _ _ _ _ Hp.o];exact zun.o.qm (ah qw _).drew (λx=>x)
     show m-((k:Int)+1).toNat<m-(k:Int).toNat;omega
    obtain rfl:k=m:=by omega
    have j1:¬(k:Int)<k:=by omega
    have hfn:=Hfn.o wo KR (by have h5:=hVr.o;rw[bg (by have:=zqY.o;omega)]at h5;exact h5);have Hf2:=ag hfn;clear hfn hVr;go_wp2_with fail;go_ret;exact Hf2.o
   ·obtain⟨er,her⟩:=aj t.err;have htv:=zdc (n:=n) Ht.o h0;rw[<-her]at h0 htv⊢;have Oy:qY er= .iface 34 (.int .i64 er):=aV h0;have tN:=xM.o er Xb h0 htv (ah _ _) zfT.o znB.o ziV.o;rw[Oy]at tN⊢;have Hf:=ag tN;clear tN Oy htv her h0;go_wp2_with fail;go_ret;exact Hf.o
  intro x c w4 zlt zfG NS ziB zll hg4 hs4 hen;have zwK:=HVB.o;have K4:ak w w4:=K.t hg4 (λk hk e=>by have h1:k=VB+4:=e;omega);have Kx:Keep (qJ (VB+4)) wo w4:=hg4;have L4:TY VB MB EB IB B mo qB lv w4:=⟨Kx.heap hL.o.1 (λe=>by have h1:VB=VB+4:=e;omega),Kx.heap hL.o.2.1 (λe=>by have h1:MB=VB+4:=e;have:=HMB.o;omega),Kx.heap hL.o.2.2.1 (λe=>by have h1:EB=VB+4:=e;have:=HEB.o;omega),Kx.heap hL.o.2.2.2 (λe=>by have h1:IB=VB+4:=e;have:=HIB.o;omega)⟩
  have Ou:=Kx.ownsRow ru.o (λb hb e=>by have h1:=(ig ru.o b hb).1;have h2:b=VB+4:=e;omega)
  have znd:VB+5<=w4.heap.size:=by have:=uF.o;have:=Kx.size;omega
  have hLl:L.length<=1000:=by have h1:=ZJ.o.perm.length_eq;rw[aP]at h1;have h2:=gQ (λp:Entry=> !left (.int .i64 p.1)&&o p) M;have:=HMl.o;omega
  have zfR:=ag zfG;have Hlk:=ag NS;have zxE:=ag (show Nq w4 mo (VB+4)<Nq wo mo (VB+4)by rw[ziB.left_eq,zb5.left_eq];exact zll);have HL4:=ag L4;have zyS:=ag Ou;have zAB:=ag znd;have zuo:=ag ziB;have HLl:=ag hLl;have zgd:∀W',ak w W'->qU W' B D C V∧wY W' D S wv d∧um W' C n:=λW' KW=>⟨HV.o.qm KW (λx=>x),Hd.o.qm KW (λ_ _ x=>x),Hc.o.qm KW (λx=>x)⟩
  have ztd:=ag zgd;clear zfG NS zll hs4 hg4 Kx L4 Ou znd ziB zb5 hLl zgd zwK;by_cases hf:x<0∨32<=x
  ·have Jo:zb9 (x,c)=true:=by simp only[zb9,fA,aW];exact hf
   have tN:∀W',ak w W'->zJ w W' B D C S V wv d n qB M o (.returned (.iface 34 (.int .i64 2))):=λW' KW=>
    .inr (.inl ⟨Hdd.o.s,⟨_,zfR.o,by rw[Jq,Jo];rfl⟩,.inl ⟨rfl,_,zfR.o,Jo⟩,ztd.o W' KW⟩)
   have xM:=ag tN;clear Jo tN;rcases hf with hf|hf
   ·have e0:decide (x<0)=true:=by simpa using hf
    go_wp2_with fail;go_ret;exact⟨xM.o _ K4,K4.yw⟩
   have e0:decide (x<0)=false:=by simp;omega
   have e1:decide (32<=x)=true:=by simpa using hf
   go_wp2_with fail;go_ret;exact⟨xM.o _ K4,K4.yw⟩
  have e0:decide (x<0)=false:=by simp;omega
  have e1:decide (32<=x)=false:=by simp;omega
  have Jo:zb9 (x,c)=false:=by rw[zb9,e0,e1];rfl
  by_cases hw:200<c.size
  ·have zcQ:Xp (x,c)=true:=bF hw;have tN:∀W',ak w W'->zJ w W' B D C S V wv d n qB M o (.returned (.iface 34 (.int .i64 4))):=λW' KW=>
    .inr (.inl ⟨Hdd.o.s,⟨_,zfR.o,by rw[Jq,zcQ,Bool.or_true]⟩,.inr ⟨rfl,_,zfR.o,zcQ⟩,ztd.o W' KW⟩)
   have xM:=ag tN;have w0:(200:Int)<c.size:=by omega
   clear zcQ tN hf Jo hw;go_wp2_with fail;go_ret;exact⟨xM.o _ K4,K4.yw⟩
  have zcQ:Xp (x,c)=false:=cO hw;have ziJ:Jq (x,c)=false:=by rw[Jq,Jo,zcQ];rfl
  have w0:¬(200:Int)<c.size:=by omega
  have hoc:=Ho.o (x,c) zfR.o ziJ;have wJ:=ZJ.o.step Hpw.o zfR.o Hlk.o ziJ;obtain⟨ob,hob⟩:=aj (o (x,c));rw[<-hob]at hoc wJ;have Hoc:=ag hoc;have zsZ:=ag wJ;clear hf Jo hw zcQ ziJ hoc wJ hob;go_wp2_with fail;refine(Hoc.o w4 K4).m ?_;rintro e w5 ⟨rfl,K5⟩;have K05:=K4.qo K5;have zqw:=zuo.o.qm K5 (λ_ _ x=>x) (λx=>x);have L5:TY VB MB EB IB B mo qB lv w5:=⟨K5.heap HL4.o.1 (λx=>x),K5.heap HL4.o.2.1 (λx=>x),K5.heap HL4.o.2.2.1 (λx=>x),K5.heap HL4.o.2.2.2 (λx=>x)⟩
  have xq:=K5.ownsRow zyS.o (λ_ _ x=>x);have zqu:VB+5<=w5.heap.size:=bQ zAB.o K5.size;cases ob with
  | false=>
   go_wp2_with fail;go_roundw
   case rel=>
    refine⟨_,zlt,L,lv,ag zqw,ag zsZ.o,ag L5,ag xq,Zv,ag zqu,K05⟩
   rw[zqw.left_eq,<-zuo.o.left_eq];exact zxE.o
  | true=>
   have ci:w5.cell? ⟨IB,0,none⟩=some lv:=by rw[aO _ _ _ _ _ (0,0) L5.2.2.2];rfl
   have fi:w5.frozen? ⟨IB,0,none⟩=false:=bU L5.2.2.2 0;obtain⟨i0,zM,Ba,D9,D6⟩:=zpR;have zx6:=xq.alloc (.cells #[.int .i64 x] 3);have HL5:=ag L5;have zAK:=ag zqw;have zxr:=ag zqu;clear L5 zqw;go_wp2_with (first|(at_builtin;refine ik _ rfl _ _ 23 rfl (VB+5) 3 i0 (.int .i64 0) 1 8 jE zM Ba D9 D6 rfl (by decide) lv L.length _ rfl zx6 ⟨w5.heap.size,0,none⟩ 1 1 [.int .i64 x] rfl rfl (rJ _ _ _) (by intro u hu;rw[bJ.1 hu];rfl) (by have:=HLl.o;unfold maxLen;omega) (by have:=HLl.o;omega) (by have:=zxr.o;simp;omega) ?_;intro v6 w6 EH zwo zb8;have KQ:Keep (λb=>lv.ownBlock=some b) w5 w6:=((ah _ w5).alloc _).grown zwo (λk hk=> .inl hk);have nq:¬(lv.ownBlock=some IB):=(λe=>by have h1:=(ig xq IB e).1;have:=HIB.o;omega);have ci6:w6.cell? ⟨IB,0,none⟩=some lv:=(KQ.cell (p:=⟨IB,0,none⟩) (iK ci) nq).t ci;have fi6:w6.frozen? ⟨IB,0,none⟩=false:=(KQ.frozen (p:=⟨IB,0,none⟩) (iK ci) nq).t fi;obtain⟨p6,c6,hv6⟩:=zdj EH;subst hv6)|fail);have zwK:=HVB.o;have hIBs:=HIB.o;have KQ5:Keep (λb=>lv.ownBlock=some b) w5 w6:=KQ;have n1:∀b,mo=some b->¬lv.ownBlock=some b:=λb hb e=>by have h1:=(ig xq b e).1;have h2:=ziF b hb;omega
   have n2:¬lv.ownBlock=some (VB+4):=λe=>by have h1:=(ig xq (VB+4) e).1;omega
   have zzv:=zAK.o.qm KQ5 n1 n2;have zv2:=zzv.qm (S:=qJ IB) ((ah (qJ IB) w6).tK 0 (.slice p6 (L.length+1) c6)) (λb hb e=>by have h1:b=IB:=e;have h2:=ziF b hb;omega) (λe=>by have h1:VB+4=IB:=e;omega);have Ks:Keep (qJ IB) w6 (w6.setCell ⟨IB,0,none⟩ (.slice p6 (L.length+1) c6)):=(ah (qJ IB) w6).tK 0 _;have nb:∀b,b<VB+3->VB<=b->∀ob,w5.heap[b]? =some ob->(w6.setCell ⟨IB,0,none⟩ (.slice p6 (L.length+1) c6)).heap[b]? =some ob:=λb hb zC ob h5=>Ks.heap (KQ.heap h5 (λe=>by have h1:=(ig xq b e).1;omega)) (λe=>by have h1:b=IB:=e;omega);have L7:TY VB MB EB IB B mo qB (.slice p6 (L.length+1) c6) (w6.setCell ⟨IB,0,none⟩ (.slice p6 (L.length+1) c6)):=
    ⟨nb VB (by omega) (by omega) _ HL5.o.1,nb MB (by have:=HMB.o;omega) (by have:=HMB.o;omega) _ HL5.o.2.1,nb EB (by have:=HEB.o;omega) (by have:=HEB.o;omega) _ HL5.o.2.2.1,by rw[qK (KQ.heap HL5.o.2.2.2 nq)];rfl⟩
   have Dx:=Ks.ownsRow EH (λb hb e=>by have h1:=(ig EH b hb).1;have h2:b=IB:=e;omega);have K7:ak w (w6.setCell ⟨IB,0,none⟩ (.slice p6 (L.length+1) c6)):=((K05.alloc _).grown zwo (λk hk=> .inr (by have h1:=(ig xq k hk).1;omega))).t Ks (λi hi hs=>by have h1:i=IB:=hs;omega);refine⟨⟨_,zlt,L++ [x],_,ag zv2,ag (by have h:=zsZ.o;simpa using h),ag L7,ag (by rw[aN,dK];exact Dx),ag (λe=>by simp at e),ag ?_,K7⟩,?_⟩
   ·have h1:=zxr.o;have h2:=KQ.size;have h3:=Ks.size;omega
   rw[zv2.left_eq,<-zuo.o.left_eq];exact zxE.o
def zpW{l:List af}{P:af->Prop}(h:∀m∈l,P m)(i:Nat)(hi:i<l.length):P (l.getD i ⟨#[]⟩):=by rw[aG,aK hi];exact h _ (fO _)
def Tj{P:af->Prop} :∀(W:List (Nat×af)) (L:List af),(∀p∈W,P p.2)->(∀s∈L,P s)->∀s∈sQ L W,P s
 | [],L,_,h,s,hs=>h s hs
 | p::W,L,hW,h,s,hs=>by
  rw[sQ,dY,<-sQ]at hs;refine Tj W (L.set p.1 p.2) (λq hq=>hW q (bD _ hq)) (λt ht=> ?_) s hs;rcases List.mem_or_eq_of_mem_set ht with ht|rfl
  ·exact h t ht
  exact hW p (bW ..)
def zfd :∀p∈(W.map λp=>(p.1,uI p.1 rf p.2)),p.2.size=16:=by intro p hp;obtain⟨q,_,rfl⟩:=bY.1 hp;exact FY _ _ _
def za9(h:∀m∈marks,m.size=16):∀m∈CB rf marks W,m.size=16:=Tj (P:=λm=>m.size=16) _ _ zfd h
def X9(rf:Int)(marks:List af)(W:List (Nat×af)):(CB rf marks W).length=marks.length:=DU _ _
def Je(texts:List af)(W:List (Nat×af)):ui texts W=sQ texts W:=rfl
def zmD{α:Type}(f:Nat×af->af)(h:W.Pairwise (λp q=>p.1≠q.1)):(W.map λp=>(p.1,f p)).Pairwise (λp q=>p.1≠q.1):=by rw[fE];exact h
def zlH{key:af}{qx:List Bool}(h:W.Pairwise (λp q=>p.1≠q.1)):(wrV key rf qx W).Pairwise (λp q=>p.1≠q.1):=by rw[wrV,fE];exact h.imp λhab e=>hab (zaX e).1
def zdr{secret:af}{B:List af}{n:Nat}(h:xR secret V B n)(hn:n<1000000)(he1:1<=ep)(he2:ep<=n+2)(W:List (Nat×af)):uV (vV V.secret) (xG V ep W).now=true:=by
 have h1:(vS (CB (V.now.count+1) V.marks W)).size=16:=zjv (by rw[X9];exact h.marks) (za9 h.m16);have h2:=h.Ea;have h3:=zaK V.secret;have h4:1<=V.now.count+1:=by omega
 have h5:V.now.count+1<=1099511627776:=by omega
 have h6:ep<=1099511627776:=by omega
 show(decide ((vV V.secret).size=32)&&(decide (1<=V.now.count+1)&&decide (V.now.count+1<=1099511627776)&&decide (1<=ep)&&decide (ep<=1099511627776)&&decide ((vS (CB (V.now.count+1) V.marks W)).size=16)))=true;rw[bF h3,bF h4,bF h5,bF he1,bF h6,bF h1];rfl
def Ur{secret:af}{B:List af}{n:Nat}(h:xR secret V B n)(hn:n<1000000)(hW:WOk W)(he:ep=V.now.qB∨(ep=V.now.qB+1∧∀i,i<32->∃s,(i,s)∈W)):xR secret (xG V ep W) (DX V B ep W) (n+1):=by
 have hc:=h.Ea;have yR:=h.sec;have e1:1<=ep:=by have:=h.ep1;omega
 have e2:ep<=n+2:=by have:=h.ep2;omega
 have QS:xR secret V (zdX V B ep W) n:=Ws h (PN _ _) (zer hW);have YD:=zdr h hn e1 e2 W;have Zm:(xG V ep W).now.qx.length=32:=(zU _ _).t h.qx;have hslot:((V.now.count+1) % 2).toNat<2:=by omega
 have uF:=QA Zm YD;have LP:=QS.zug;have hpw:=zcD (vV V.secret) (xG V ep W).now Zm YD;have zyp:∀i,i<32->∀b,(DX V B ep W).getD (vI i b) ⟨#[]⟩=(zdX V B ep W).getD (vI i b) ⟨#[]⟩:=λi hi b=>by rw[DX,wR,aV];rintro⟨x,_⟩;have:=zdo i b;omega
 refine⟨yR,h.alive,?_,e1,?_,Zm,(DU _ _).t h.texts,(X9 _ _ _).t h.marks,za9 h.m16,Tj (P:=λs=>s.size<=200) _ _ hW.small h.t200,(fC ..).t LP,λi hi=> ?_,λi hi=> ?_,λe=>absurd e (by omega),λ_=> ?_,λ_=>rfl,λc hcn=> ?_⟩
 ·show V.now.count+1=_;omega
 ·show ep<=_;omega
 ·rw[DX,wR];split
  ·exact VY _ (by omega)
  exact QS.bsz i hi
 ·show BL (CQ secret ep) _ (uB V.now.qx W) i=some ((sQ V.texts W).getD i ⟨#[]⟩,(CB (V.now.count+1) V.marks W).getD i ⟨#[]⟩);rw[BL,zyp i hi];by_cases yh:∃s,(i,s)∈W
  ·obtain⟨s,hs⟩:=yh;have t1:=Lh i s W V.texts hW.apart hs (by rw[h.texts];exact hi);have t2:=Lh i (uI i (V.now.count+1) s) (W.map λp=>(p.1,uI p.1 (V.now.count+1) p.2)) V.marks (zmD (α:=Nat) _ hW.apart) (bY.2 ⟨(i,s),hs,rfl⟩) (by rw[h.marks];exact hi);have t3:=zaL i s W V.now.qx hW.apart hs (by rw[h.qx];exact hi);have t4:(zdX V B ep W).getD (vI i (!V.now.qx.getD i false)) ⟨#[]⟩=BD (IW (CQ V.secret ep) i (V.now.count+1) s):=
    Lh _ _ _ B (zlH hW.apart) (bY.2 ⟨(i,s),hs,rfl⟩) (by rw[h.zug];exact Ff hi _)
   rw[t1,CB,t2,t3,t4,yR];exact zhW _ i _ s (by omega) (by omega) (hW.small _ hs)
  have ztF:∀p∈W,p.1≠i:=λp hp e=>yh ⟨p.2,by rw[<-e];exact hp⟩;have hep:ep=V.now.qB:=by
   rcases he with he|⟨_,he⟩
   ·exact he
   ·exact absurd (he i hi) yh
  have t1:=Fv V.texts i W V.texts ztF;have t2:=Fv V.marks i (W.map λp=>(p.1,uI p.1 (V.now.count+1) p.2)) V.marks (λp hp=>by obtain⟨q,hq,rfl⟩:=bY.1 hp;exact ztF q hq);have t3:=Jb i W V.now.qx ztF;rw[t1,CB,t2,t3,hep];have:=QS.Xr i hi;rw[BL,hep]at this;exact this
 ·rw[DC];have hb:(DX V B ep W).getD ((((n+1:Nat):Int)) % 2).toNat ⟨#[]⟩=BD (Cf (vV V.secret) (xG V ep W).now):=by
   rw[DX,wR,bu ⟨by omega,by omega⟩]
  rw[hb,<-yR,bu ⟨hpw.1,by rw[hpw.2];show V.now.count+1=_;omega⟩,hpw.2]
 by_cases hs:(c % 2).toNat=((V.now.count+1) % 2).toNat
 ·have hb:(DX V B ep W).getD (c % 2).toNat ⟨#[]⟩=BD (Cf (vV V.secret) (xG V ep W).now):=by
   rw[DX,wR,bu ⟨hs.s,by omega⟩]
  rw[DC,hb,<-yR,aV];rintro⟨_,hx⟩;rw[hpw.2]at hx;have hx:V.now.count+1=c:=hx;omega
 have hb:(DX V B ep W).getD (c % 2).toNat ⟨#[]⟩=(zdX V B ep W).getD (c % 2).toNat ⟨#[]⟩:=by
  rw[DX,wR,aV (λx=>hs x.1.s)]
 rw[PH hb];exact QS.old c (by omega)
def zl1{secret:af}{n:Nat}(h:xR secret V d.qy n)(hw:d.wait= [])(hn:n<1000000)(hW:WOk W)(he:ep=V.now.qB∨(ep=V.now.qB+1∧∀i,i<32->∃s,(i,s)∈W)):
  ((xE V d n ep W).err=0∧(xE V d n ep W).n=((n+1:Nat):Int)∧(xE V d n ep W).v=xG V ep W∧(xE V d n ep W).dev.qy=DX V d.qy ep W∧(xE V d n ep W).dev.wait= []∧(d.qR<0->(xE V d n ep W).dev.qR=d.qR))∨
  ((xE V d n ep W).err=14∧(xE V d n ep W).n=n∧(xE V d n ep W).v=VC V∧0<=d.qR∧∀keeps,xR secret V (wO (xE V d n ep W).dev.qy (xE V d n ep W).dev.wait keeps (xE V d n ep W).dev.wait.length) n∨xR secret (xG V ep W) (wO (xE V d n ep W).dev.qy (xE V d n ep W).dev.wait keeps (xE V d n ep W).dev.wait.length) (n+1)):=by
 have hc:=h.Ea;have NZ:=Ur h hn hW he;have QS:xR secret V (zdX V d.qy ep W) n:=Ws h (PN _ _) (zer hW);have YD:=zdr h hn (ep:=ep) (by have:=h.ep1;omega) (by have:=h.ep2;omega) W;obtain⟨k,hk⟩:=zdd (CQ V.secret ep) (V.now.count+1) W ⟨V.now.qx,V.marks,d⟩ hW.apart;obtain⟨r,hr⟩:=aj (wZ (CQ V.secret ep) (V.now.count+1) W ⟨V.now.qx,V.marks,d⟩);rw[<-hr]at hk;obtain⟨st,ok⟩:=r;have zkm:∀(t:zcY),t=zg V.secret ⟨V.now.count+1,ep,V.now.qx,V.now.root⟩ V.marks d W->t.err=14->0<=d.qR->(∀keeps,xR secret V (wO t.dev.qy t.dev.wait keeps t.dev.wait.length) n∨xR secret (xG V ep W) (wO t.dev.qy t.dev.wait keeps t.dev.wait.length) (n+1))->
   ((xE V d n ep W).err=14∧(xE V d n ep W).n=n∧(xE V d n ep W).v=VC V∧0<=d.qR∧∀keeps,xR secret V (wO (xE V d n ep W).dev.qy (xE V d n ep W).dev.wait keeps (xE V d n ep W).dev.wait.length) n∨xR secret (xG V ep W) (wO (xE V d n ep W).dev.qy (xE V d n ep W).dev.wait keeps (xE V d n ep W).dev.wait.length) (n+1)):=by
  intro t ht h14 hf hkk;rw[zdc ht (by rw[h14];decide)];exact⟨h14,rfl,rfl,hf,hkk⟩
 have Gu:∀keeps,xR secret V (wO st.dev.qy st.dev.wait keeps st.dev.wait.length) n:=λkeeps=>by
  have hs:st.dev.qy=d.qy:=hk.qy;have IE:st.dev.wait=wrV (CQ V.secret ep) (V.now.count+1) V.now.qx (W.take k):=by rw[hk.wait,hw];rfl
  rw[hs,IE];exact Ws h (X8 _ _ keeps _ (aS _)) (zer (hW.take k))
 have zqy:0<=d.qR∨d.qR<0:=by omega
 cases ok with
 | false=>
  right;have hf:0<=d.qR:=by
   rcases zqy with h1|h1
   ·exact h1
   have:=(hk.free h1).1;cases this
  exact zkm _ (XD (secret:=V.secret) (x0:=⟨V.now.count+1,ep,V.now.qx,V.now.root⟩) (marks:=V.marks) (d:=d) (W:=W) hr.s).s rfl hf λkeeps=> .inl (Gu keeps)
 | true=>
  have hkW:k=W.length:=hk.all rfl;rw[hkW]at hk;have hkw:=hk.wait;have Tu:=hk.qx;have hkm:=hk.marks;rw[nM]at hkw Tu hkm;have hfz:st.dev.qR=0->0<=d.qR:=λh0=>by
   rcases zqy with h1|h1
   ·exact h1
   have h2:st.dev.qR=d.qR:=(hk.free h1).2;omega
  have hfn:d.qR<0->st.dev.qR=d.qR:=λh1=>(hk.free h1).2;have hs:st.dev.qy=d.qy:=hk.qy;have IE:st.dev.wait=wrV (CQ V.secret ep) (V.now.count+1) V.now.qx W:=by rw[hkw,hw];rfl
  have hsy:st.dev.sync.qy=zdX V d.qy ep W:=by show sQ st.dev.qy st.dev.wait=_;rw[hs,IE];rfl
  have Yx:st.dev.sync.wait= []:=rfl;have hsf:st.dev.sync.qR=x9 st.dev.qR:=rfl;have hx:(⟨V.now.count+1,ep,st.qx,vS st.marks⟩:uX)=(xG V ep W).now:=by rw[Tu,hkm];rfl
  by_cases h1:st.dev.qR=0
  ·right;exact zkm _ (zgA (secret:=V.secret) (x0:=⟨V.now.count+1,ep,V.now.qx,V.now.root⟩) (marks:=V.marks) (d:=d) (W:=W) hr.s h1).s rfl (hfz h1) λkeeps=> .inl (Gu keeps)
  have h2:uV (vV V.secret) ⟨V.now.count+1,ep,st.qx,vS st.marks⟩=true:=by rw[hx];exact YD
  by_cases h3:st.dev.sync.qR=0
  ·right;refine zkm _ (zgz (secret:=V.secret) (x0:=⟨V.now.count+1,ep,V.now.qx,V.now.root⟩) (marks:=V.marks) (d:=d) (W:=W) hr.s h1 h2 h3).s rfl ?_ λkeeps=> .inl ?_
   ·rcases zqy with h4|h4
    ·exact h4
    have:=hfn h4;rw[hsf]at h3;unfold x9 at h3;split at h3<;>omega
   show xR secret V (wO st.dev.sync.qy st.dev.sync.wait keeps 0) n;rw[hsy];exact QS
  obtain⟨d3,Zo⟩:=aj (st.dev.sync.put ((V.now.count+1) % 2).toNat (Cf (vV V.secret) ⟨V.now.count+1,ep,st.qx,vS st.marks⟩));have zwv:d3.qy=zdX V d.qy ep W:=by rw[Zo];exact hsy
  have zwu:d3.wait= [(((V.now.count+1) % 2).toNat,BD (Cf (vV V.secret) (xG V ep W).now))]:=by rw[Zo,<-hx];rfl
  have zww:d3.qR=x9 (x9 st.dev.qR):=by rw[Zo];rfl
  by_cases h4:d3.qR=0
  ·right;refine zkm _ (zgy (secret:=V.secret) (x0:=⟨V.now.count+1,ep,V.now.qx,V.now.root⟩) (marks:=V.marks) (d:=d) (W:=W) hr.s h1 h2 h3 (by rw[<-Zo];exact h4)).s rfl ?_ λkeeps=> ?_
   ·rcases zqy with h5|h5
    ·exact h5
    have:=hfn h5;rw[zww]at h4;unfold x9 at h4;split at h4<;>(try split at h4)<;>omega
   show xR secret V (wO (vN.put _ _ _).qy (vN.put _ _ _).wait keeps (vN.put _ _ _).wait.length) n∨xR secret _ (wO (vN.put _ _ _).qy (vN.put _ _ _).wait keeps (vN.put _ _ _).wait.length) (n+1);rw[<-Zo,zwv,zwu];show xR secret V (wO _ [_] keeps 1) n∨xR secret _ (wO _ [_] keeps 1) (n+1);rw[wO];split
   ·right;exact NZ
   left;exact QS
  left;have ht:=(zgx (secret:=V.secret) (x0:=⟨V.now.count+1,ep,V.now.qx,V.now.root⟩) (marks:=V.marks) (d:=d) (W:=W) hr.s h1 h2 h3 (by rw[<-Zo];exact h4)).s;rw[zgw ht rfl (by omega)];refine⟨rfl,(show V.now.count+1=_ by omega),?_,?_,rfl,λh5=> ?_⟩
  ·show(⟨V.secret,⟨V.now.count+1,ep,st.qx,vS st.marks⟩,ui V.texts W,st.marks,V.dead⟩:qI)=_;rw[hx,hkm];rfl
  ·show sQ (vN.put _ _ _).qy (vN.put _ _ _).wait=_;rw[<-Zo,zwv,zwu];rfl
  show x9 (vN.put _ _ _).qR=_;rw[<-Zo,zww];have:=hfn h5;unfold x9
  repeat(first|(rw[aV (by omega)])|omega)
def zn6(VB B id:Nat)(t:af)(w:ax):Prop:=w.cell? ⟨VB,0,none⟩=some (.pointer (some ⟨B,0,none⟩))∧w.cell? ⟨B,38+id,none⟩=some (.string t)
def zcp{VB:Nat}(h:qU w B D C V)(hv:w.cell? ⟨VB,0,none⟩=some (.pointer (some ⟨B,0,none⟩)))(id:Nat)(hid:id<32)(s:af):
  ae 115 #[.int .i64 id,.string s,.pointer (some ⟨VB,0,none⟩)] w λe w'=>e= .returned (.bool (!(s.toList==(V.texts.getD id ⟨#[]⟩).toList)))∧ak w w':=by
 obtain⟨t,ht⟩:=aj (V.texts.getD id ⟨#[]⟩);have L1:zn6 VB B id t w:=⟨hv,by rw[ht];exact h.text id hid⟩
 rw[<-ht];clear ht;have jid:(id:Int)<32:=by omega
 have q1:∀y:wE (zn6 VB B id t),y.w.cell? ⟨VB,0,none⟩=some (.pointer (some ⟨B,0,none⟩)):=λy=>y.h.1;have q2:∀y:wE (zn6 VB B id t),y.w.cell? ⟨B,38+id,none⟩=some (.string t):=λy=>y.h.2;go_enter func115,ntmps115;have c1:=L1.1;have c2:=L1.2;clear q1 q2 L1;go_wp2_with fail;go_ret;exact⟨rfl,(ah qw w)⟩
def zyK(VB B:Nat)(ep:Int)(w:ax):Prop:=w.cell? ⟨VB,0,none⟩=some (.pointer (some ⟨B,0,none⟩))∧w.cell? ⟨B,4,none⟩=some (.int .i64 ep)
def zJ.ret{qB:Int}{o:Entry->Bool}(h:zJ w w' B D C S V wv d n qB M o e):∃v,e= .returned v:=by rcases h with⟨_,h,_⟩|⟨_,_,⟨h,_⟩|⟨h,_⟩,_⟩|⟨_,_,h,_⟩<;>exact⟨_,h⟩
def zJ.back{w0:ax}{qB:Int}{o:Entry->Bool}(h:zJ w w' B D C S V wv d n qB M o e)(hs:w0.heap.size<=w.heap.size):zJ w0 w' B D C S V wv d n qB M o e:=by
 rcases h with h|h|⟨h1,h2,h3,h4,⟨zV,h5,h6⟩,h7⟩
 ·exact .inl h
 ·exact .inr (.inl h)
 exact .inr (.inr ⟨h1,h2,h3,h4,⟨zV,h5,Jg (SX w0 wv) h6 hs⟩,h7⟩)
def zi(V:qI)(p:Entry):Bool:= !(p.2.toList==(V.texts.getD p.1.toNat ⟨#[]⟩).toList)
def zhm
  (h:qU w B D C V) (hd:wY w D S wv d) (hc:um w C n) (hm:D8 w mo nm M) (F8:nm<=1000) (zcT:0<=V.now.count) (zcS:V.now.count<1099511627776) (hdw:d.wait.length<=800000) (yR:V.secret.size<=1000) (zlk:∀m∈V.marks,m.size=16) (R:rF w) (hR:∀b,xN D S wv b->b≠4):
  ae 56 #[.pointer (some ⟨B,0,none⟩),.map mo] w λe w'=>zJ w w' B D C S V wv d n V.now.qB M (zi V) e∧Keep (λb=>xN D S wv b∨b=B∨b=C) w w':=by
 obtain⟨VB,hVB⟩:=aj w.heap.size;go_enter func56,ntmps56;go_upto_region 1 with(fail)
 have r1:=aQ w (.cells #[.pointer (some ⟨B,0,none⟩)] 102);have K1:ak w (w.alloc (.cells #[.pointer (some ⟨B,0,none⟩)] 102)):=(ah _ _).alloc _;rw[<-hVB]at r1⊢;obtain⟨w1,vF⟩:=aj (w.alloc (.cells #[.pointer (some ⟨B,0,none⟩)] 102));rw[<-vF]at r1 K1⊢;have h1:=h.qm K1 (λx=>x);have c1:w1.cell? ⟨VB,0,none⟩=some (.pointer (some ⟨B,0,none⟩)):=by rw[aO _ _ _ _ _ (0,0) r1];rfl
 have IZ:=λ(eg:∀args w,(callFunc 115 args).run prog w= .ok (.enter 115 args) w) (W:ax) (KW:ak w1 W)=>
  Q7 (w:=W) V.now.qB 115 #[.pointer (some ⟨VB,0,none⟩)] (zi V) (h1.qm KW (λx=>x)) (hd.qm (K1.qo KW) (λ_ _ x=>x)) (hc.qm (K1.qo KW) (λx=>x)) (hm.qm (K1.qo KW)) F8 zcT zcS hdw yR zlk eg (λp hp hb W' KW'=>by
   simp only[Jq,zb9,Xp,kD,gq]at hb;obtain⟨i,hi⟩:∃i:Nat,p.1=i:=⟨p.1.toNat,by omega⟩
   have h3:=zcp (h1.qm (KW.qo KW') (λx=>x)) (((KW.qo KW').cell (p:=⟨VB,0,none⟩) (iK c1) (λx=>x)).t c1) i (by omega) p.2;rw[zi,hi];exact h3) (R.qm (K1.qo KW) (λx=>x)) hR
 have L1:zyK VB B V.now.qB w1:=⟨c1,h1.qB⟩
 obtain⟨ep,hep⟩:=aj V.now.qB;rw[<-hep]at IZ L1;have Hep:=ag hep;clear hep;have ZP:=ag IZ;have hVn:¬(xN D S wv VB∨VB=B∨VB=C):=by
  have:=h.lt;have:=lt_of_heap hc;rintro(h2|h2|h2)
  ·have:=zeF hd VB h2;omega
  ·omega
  omega
 have HVn:=ag hVn;have Lu:=ag K1;have q1:∀y:wE (λW':ax=>W'.cell? ⟨VB,0,none⟩=some (.pointer (some ⟨B,0,none⟩))),y.w.cell? ⟨VB,0,none⟩=some (.pointer (some ⟨B,0,none⟩)):=λy=>y.h;have q2:∀y:wE (λW':ax=>W'.cell? ⟨B,4,none⟩=some (.int .i64 ep)),y.w.cell? ⟨B,4,none⟩=some (.int .i64 ep):=λy=>y.h;have Lc:=ag L1;clear IZ vF r1 c1 h1 h hd hc hm R hVB hVn K1 L1;refine Iz 8 (λW':ax=>W'.cell? ⟨VB,0,none⟩=some (.pointer (some ⟨B,0,none⟩))) (λW':ax=>W'.cell? ⟨B,4,none⟩=some (.int .i64 ep)) [(2,0),(2,1),(2,2),(2,3),(2,4),(2,5),(1,6),(2,7),(0,8),(0,9)] (by kernel_rfl) (by kernel_rfl) (λc a d v w h=>by cases d<;>exact h) ?_;simp only[EY,qC,aF,aH,aI]
 repeat(refine qp (λK hK=> ?_);go_simp;(first|refine⟨_,λ_=>rfl,hK _ ?_⟩|refine hK _ ?_);clear hK K)
 clear q1 q2;refine⟨Lc.o.1,λ_=>Lc.o.2,?_⟩;go_wp2_with fail;refine(ZP.o (λ_ _=>rfl) w1.drew (ah qw w1).drew).m ?_;rintro e w2 ⟨hs,K2⟩;obtain⟨v,rfl⟩:=hs.ret;have K02:=Lu.o.yw.t ((ah qw w1).drew.yw.t K2 (λi hi hs=>hs)) (λi hi hs=>hs);have c2:w2.cell? ⟨VB,0,none⟩=some (.pointer (some ⟨B,0,none⟩)):=(K2.cell (p:=⟨VB,0,none⟩) (iK Lc.o.1) HVn.o).t Lc.o.1;have JO:=hs.back (w0:=w) Lu.o.size;have Hs2:=ag JO;clear hs JO K2;go_wp2_with fail;simp only[EY,qC,aF,aH,aI];refine⟨c2,λh=>(by cases h),?_⟩;go_wp2_with fail;go_ret;rw[<-Hep.o];exact⟨Hs2.o,K02⟩
def ug(T:List af)(k:Nat):List Entry:=(List.range k).map λ(i:Nat)=>(((i:Nat):Int),T.getD i ⟨#[]⟩)
def YJ{P:Program}{T E:aB}{len:Nat}{d:TypeDesc}(hu:P.underlying T=some (.array len E))(hE:P.underlying E=some d)(hd:d= .string)(hs:(P.info? E).map (·.size)=some 1)
  (l:List af) (i:Nat) (hl:l.length=len) (hi:i<len) (w:ax):(Instr.index T (.agg (l.map Value.string).toArray) (.int .i64 i)).run P w= .ok (.string (l.getD i ⟨#[]⟩)) w:=by
 subst hd;cases hq:P.info? E with
 | none=>simp[hq]at hs
 | some inf=>
  have h1:inf.size=1:=by simpa [hq]using hs
  have hi':i<l.length:=by omega
  have hc:((l.map Value.string).toArray)[i]? =some (.string (l.getD i ⟨#[]⟩)):=by simp[hi']
  have hii:(i:Int)<(len:Int):=by omega
  simp[Instr.index,asIntOf,fU hu,fU hE,sizeOf,typeInfo,hq,h1,part,isAgg,hc,hi,aK hi']
def Yd(x:Lit×DataW Unit):∀l:List (Lit×DataW Unit),(∀p∈l,x.1.before p.1=false)->DataW.insert x l=l++ [x]
 | [],_=>rfl
 | p::l,h=>by rw[DataW.insert,h p (bW ..),aV (by decide),Yd x l λq hq=>h q (bD _ hq)];rfl
def SQ(T:List af)(k:Nat):(JW (ug T k)).put (.int .i64 k) (.lit (.string (T.getD k ⟨#[]⟩).data.toList))=JW (ug T (k+1)):=by
 have rE:∀p∈(ug T k).map Vz,∃i:Nat,i<k∧p.1= .int .i64 i:=by intro p hp;obtain⟨q,hq,rfl⟩:=bY.1 hp;obtain⟨i,hi,rfl⟩:=bY.1 hq;exact⟨i,iJ.1 hi,rfl⟩
 have hf:((ug T k).map Vz).filter (λp=> !p.1.sameKey (.int .i64 k))=(ug T k).map Vz:=by rw[pK];intro p hp;obtain⟨i,hi,he⟩:=rE p hp;rw[he];show(!decide (IntKind.i64=IntKind.i64∧(i:Int)=k))=true;simp;omega
 unfold DataW.put JW;simp only[hf];rw[Yd _ _ λp hp=>by obtain⟨i,hi,he⟩:=rE p hp;rw[he];show decide ((k:Int)<i)=false;simp;omega]
 rw[show ug T (k+1)=ug T k++ [((k:Int),T.getD k ⟨#[]⟩)]by rw[ug,lH,dK];rfl,dK];rfl
def zhl(a b:ay)(w:ax):ae 116 #[a,b] w (au (.bool true) w):=by go_enter func116,ntmps116;go_wp2_with fail;go_ret;exact⟨rfl,ah _ _⟩
def zhk
  (h:qU w B D C V) (hd:wY w D S wv d) (hc:um w C n) (zcT:0<=V.now.count) (zcS:V.now.count<1099511627776) (hep0:0<=V.now.qB) (hep1:V.now.qB<=1099511627776) (hdw:d.wait.length<=800000) (yR:V.secret.size<=1000) (zlk:∀m∈V.marks,m.size=16) (zyi:∀s∈V.texts,s.size<=200) (R:rF w) (hR:∀b,xN D S wv b->b≠4):
  ae 58 #[.pointer (some ⟨B,0,none⟩)] w λe w'=>zJ w w' B D C S V wv d n (V.now.qB+1) (ug V.texts 32) (λ_=>true) e∧Keep (λb=>xN D S wv b∨b=B∨b=C) w w':=by
 go_enter func58,ntmps58;have hmm:= @run_makeMap prog;go_upto_region 2 with(fail)
 clear hmm;obtain⟨w1,vF⟩:=aj (w.alloc (Obj.map #[] 0));have K1:ak w w1:=by rw[vF];exact(ah _ _).alloc _
 have m1:yB w1 w.heap.size 0 (ug V.texts 0):=by rw[vF];exact nU _ _ _ _
 rw[<-vF];obtain⟨mb,Qe⟩:=aj w.heap.size;rw[<-Qe]at m1⊢;have hV1:=h.qm K1 (λx=>x);obtain⟨ct,Vj⟩:=aj ((V.texts.map Value.string).toArray);have zd8:ct.size=32:=by rw[Vj,bZ,aP,h.lens.texts]
 have h32:(prog.info? 67).map (·.size)=some ct.size:=by rw[zd8];exact Tc
 have Gu:∀(j:Nat) (v:ay),ct[j]? =some v->(qM D C V).toArray[38+j]? =some v:=λj v hv=>by
  have hj:j<32:=by have:=(iI.1 hv).1;omega
  rw[aF,zaG h.lens j hj];rw[Vj,aF,aX,aK (by rw[h.lens.texts];exact hj)]at hv;rw[<-hv];simp[aG,h.lens.texts,hj]
 have zoa:=ag Gu;have H32:=ag h32;have Hmb:=ag Qe;have Hct:=ag Vj;clear Gu h32 vF Qe Vj;go_wp2_with (first|(refine Fz rfl 67 (.tmp 9) rfl B 38 rfl 164 (qM D C V).toArray (0,0) ct _ hV1.row zoa.o kL rfl H32.o ?_))
 go_loopw [11] (λiv wr=>∃k:Nat,iv= .int .i64 k∧k<=32∧Hid (yB wr mb k (ug V.texts k))∧ak w wr) (λiv _=>32-(intOf iv).toNat)
 case atStart=>exact⟨0,rfl,by omega,ag m1,K1⟩
 case round=>
  obtain⟨k,rfl,hk,hmr,KR⟩:=hrel;obtain⟨wo,rfl⟩:=aj wr;by_cases rE:k<32
  ·have j1:(k:Int)<32:=by omega
   obtain⟨s,hs⟩:=aj (V.texts.getD k ⟨#[]⟩);have Qg:∀W:ax,(Instr.index 67 (.agg ct) (.int .i64 k)).run prog W= .ok (.string s) W:=λW=>by rw[Hct.o,hs];exact YJ kL bK rfl (by have:=BP;cases hq:prog.info? 9 with|none=>rw[hq]at this;cases this|some i=>rw[hq]at this;simp only[gW,jD,jH]at this;rw[gW,this.2.1]) V.texts k h.lens.texts rE W
   have Hs:=ag hs;clear hs;have uF:s.size<=maxLen:=by
    have h5:s∈V.texts:=by rw[Hs.o,aG,aK (by rw[h.lens.texts];exact rE)];exact fO _
    have:=zyi s h5;unfold maxLen;omega
   have zq:keyOf prog 3 (.int .i64 k)=some (.int .i64 k):=mP fG (by simp[Lit.wf,show IntKind.i64.min= -9223372036854775808 from rfl,show IntKind.i64.max=9223372036854775807 from rfl];omega);have TD:plainElem (H:=Unit) prog 9 (.string s)=some (.lit (.string s.data.toList),[]):=by simp[plainElem,bK,uF]
   have hmo:=hmr.o;go_wp2_with (first|(at_mapUpdate;refine wpList_mapUpdate_own _ rfl _ _ _ 130 rfl 3 9 zdY iZ _ mb k _ rfl hmo (by unfold maxLen;omega) _ _ _ rfl rfl zq _ [] TD ?_));intro w2 YA hg2;rw[Hs.o,SQ]at YA;have K2:ak w w2:=KR.grown hg2 (λq hq=> .inr (by have:=aU hq;have:=Hmb.o;omega));have Hm2:=ag YA;clear YA hg2 hmo hmr TD zq Qg uF;go_wp2_with fail;refine⟨⟨k+1,by rw[show((k+1:Nat):Int)=(k:Int)+1 from by omega],by omega,Hm2,K2⟩,?_⟩;show 32-((k:Int)+1).toNat<32-(k:Int).toNat;omega
  obtain⟨q,hq⟩:∃q:Nat,q=32:=⟨_,rfl⟩
  obtain rfl:k=q:=by omega
  have j1:¬(k:Int)<32:=by omega
  have ziG:=hmr.o;rw[hq]at ziG;have zAV:=ag ziG;have hVo:=h.qm KR (λx=>x);have ce:=hVo.qB;clear ziG hmr hq;have Gn:wrap64 (V.now.qB+1)=V.now.qB+1:=by unfold wrap64;omega
  have hwi:IntKind.i64.wrap (V.now.qB+1)=V.now.qB+1:=aY _ (by omega);have IZ:=λ(eg:∀args w,(callFunc 116 args).run prog w= .ok (.enter 116 args) w)=>
   Q7 (w:=wo) (mo:=some mb) (V.now.qB+1) 116 #[] (λ_=>true) hVo (hd.qm KR (λ_ _ x=>x)) (hc.qm KR (λx=>x)) zAV.o (by omega) zcT zcS hdw yR zlk eg (λp _ _ W' _=>zhl _ _ W') (R.qm KR (λx=>x)) hR
  go_wp2_with fail;refine(IZ (λ_ _=>rfl)).m ?_;rintro e w2 ⟨hs,K2⟩;obtain⟨v,rfl⟩:=hs.ret;have JO:=hs.back (w0:=w) KR.size;go_wp2_with fail;go_ret;exact⟨JO,KR.yw.t K2 (λi hi h=>h)⟩
def Uw{α:Type}(d:α){a b:List α}(hl:a.length=b.length)(h:∀i,i<a.length->a.getD i d=b.getD i d):a=b:=by
 apply kV hl;intro i h1 h2;have:=h i h1
 simpa [aG,h1,h2]using this
def Iq{o:Entry->Bool}(hp:M.Pairwise (λp q=>p.1≠q.1))(hg:∀p∈M,Jq p=false):WOk (uf M o):=by
 refine⟨λq hq=>(Jf hp hg q hq).2.2.1,λq hq=>(Jf hp hg q hq).2.2.2,?_⟩;have h1:((M.filter o).map (·.1)).Pairwise (λa b=>a≠b):=by rw[fE];exact hp.filter o
 have h2:(EK ((M.filter o).map (·.1))).Pairwise (λa b=>a≠b):=((jC _ _).pairwise_iff (λh=>Ne.s h)).2 h1;rw[<-XZ hg,fE]at h2;exact h2.imp λh e=>h (by rw[e])
def zaY{o:Entry->Bool}(hp:M.Pairwise (λp q=>p.1≠q.1)){s:af}(hm:((i:Int),s)∈M)(ho:o ((i:Int),s)=true):(i,s)∈uf M o:=by refine bY.2 ⟨(i:Int),(jC _ _).mem_iff.2 (bY.2 ⟨((i:Int),s),gy.2 ⟨hm,ho⟩,rfl⟩),?_⟩;rw[Dj hp hm];rfl
def XY{o:Entry->Bool}(hp:M.Pairwise (λp q=>p.1≠q.1))(hg:∀p∈M,Jq p=false)(h:∀s,((i:Int),s)∈M->o ((i:Int),s)=false):∀q∈uf M o,q.1≠i:=by intro q hq e;have h1:=(Jf hp hg q hq).1;obtain⟨p,hpf,he⟩:=bY.1 h1;have h2:=gy.1 hpf;have h3:p=((i:Int),p.2):=Prod.ext (by rw[he,e]) rfl;have h4:=h p.2 (by rw[<-h3];exact h2.1);rw[<-h3,h2.2]at h4;cases h4
def MQ(T:List af)(M:List Entry):List af:=(List.range 32).map λ(i:Nat)=>(getM M (i:Int)).getD (T.getD i ⟨#[]⟩)
def FW(T:List af)(M:List Entry):(MQ T M).length=32:=by simp[MQ]
def Sz(T:List af)(M:List Entry)(i:Nat)(hi:i<32):(MQ T M).getD i ⟨#[]⟩=(getM M (i:Int)).getD (T.getD i ⟨#[]⟩):=by rw[MQ,aG,aX,kP hi];rfl
def XR{o:Entry->Bool}(hT:T.length=32)(hp:M.Pairwise (λp q=>p.1≠q.1))(hg:∀p∈M,Jq p=false)(ho:∀(i:Nat) (s:af),((i:Int),s)∈M->o ((i:Int),s)=false->s=T.getD i ⟨#[]⟩):ui T (uf M o)=MQ T M:=by
 refine Uw ⟨#[]⟩ ((DU _ _).t (hT.t (FW T M).s)) λi hi=> ?_;have hi:i<32:=by rw[Je,DU,hT]at hi;exact hi
 rw[Sz T M i hi,Je];cases hk:getM M (i:Int)with
 | none=>
  rw[Fv T i _ T (XY hp hg λs hs=>by rw[Dj hp hs]at hk;cases hk)];rfl
 | some s=>
  have hm:=zgU hk;cases hos:o ((i:Int),s)with
  | true=>rw[Lh i s _ T (Iq hp hg).apart (zaY hp hm hos) (by rw[hT];exact hi)];rfl
  | false=>
   rw[Fv T i _ T (XY hp hg λs' hs'=> ?_)]
   ·rw[<-ho i s hm hos];rfl
   have h1:=Dj hp hs';rw[hk]at h1;rw[<-aU h1];exact hos
def zhZ{s:af}(h:zi V ((i:Int),s)=false):s=V.texts.getD i ⟨#[]⟩:=by simp only[zi,Bool.not_eq_false',jZ]at h;rw[show((i:Int)).toNat=i from rfl]at h;exact xJ (by rw[bs,bs,<-dI,<-dI,h])
def Fp{p:Entry} :p∈ug T k↔∃i:Nat,i<k∧p=((i:Int),T.getD i ⟨#[]⟩):=by
 rw[ug,bY];constructor
 ·rintro⟨i,hi,rfl⟩;exact⟨i,iJ.1 hi,rfl⟩
 rintro⟨i,hi,rfl⟩;exact⟨i,iJ.2 hi,rfl⟩
def xA(T:List af)(k:Nat):(ug T k).Pairwise (λp q=>p.1≠q.1):=by rw[ug,fE];exact List.nodup_range.imp λh e=>h (by exact Int.ofNat.inj e)
def D5(ht:∀s∈T,s.size<=200)(hT:T.length=32):∀p∈ug T 32,Jq p=false:=by intro p hp;obtain⟨i,hi,rfl⟩:=Fp.1 hp;have h2:=zpW (P:=λs=>s.size<=200) ht i (by rw[hT];exact hi);simp only[Jq,zb9,Xp,kD,gq];omega
def zeO(hT:T.length=32):MQ T (ug T 32)=T:=by refine Uw ⟨#[]⟩ ((FW _ _).t hT.s) λi hi=> ?_;rw[FW]at hi;rw[Sz _ _ i hi,Dj (xA T 32) (Fp.2 ⟨i,hi,rfl⟩)];rfl
def zaZ :∀i,i<32->∃s,(i,s)∈uf (ug T 32) (λ_=>true):=λi hi=>
 ⟨T.getD i ⟨#[]⟩,zaY (xA T 32) (Fp.2 ⟨i,hi,rfl⟩) rfl⟩
def VB(B D C S:Nat)(wv:ay):Nat->Prop:=λb=>xN D S wv b∨b=B∨b=C
structure VN(w0 w:ax)(B D C S:Nat)(wv:ay)(V:qI)(d:vN)(n:Int):Prop where
 G9:qU w B D C V
 dev:wY w D S wv d
 Ea:um w C n
 own:∀b,VB B D C S wv b->w0.heap.size<=b
 qm:ak w0 w
section
variable {w0 w w':ax}{B D C S:Nat}{wv zV:ay}{V V':qI}{d d':vN}{n n':Int}
def VN.lt(h:VN w0 w B D C S wv V d n):∀b,VB B D C S wv b->b<w.heap.size:=by
 rintro b (hb|rfl|rfl)
 ·exact zeF h.dev b hb
 ·exact h.G9.lt
 exact lt_of_heap h.Ea
def VN.rV(h:VN w0 w B D C S wv V d n)(hk:ak w w'):VN w0 w' B D C S wv V d n:=
 ⟨h.G9.qm hk (λx=>x),h.dev.qm hk (λ_ _ x=>x),h.Ea.qm hk (λx=>x),h.own,h.qm.qo hk⟩
def VN.o(h:VN w0 w B D C S wv V d n){X:Nat->Prop}(hk:Keep X w w')(hn:∀b,VB B D C S wv b->¬X b)(hx:∀b,b<w0.heap.size->¬X b):VN w0 w' B D C S wv V d n:=
 ⟨h.G9.qm hk (hn B (.inr (.inl rfl))),h.dev.qm hk (λb hb=>hn b (.inl hb)),h.Ea.qm hk (hn C (.inr (.inr rfl))),h.own,h.qm.t hk (λi hi hs=>absurd hs (hx i hi))⟩
def Pg(h:Gx w wv zV):∀b,VB B D C S zV b->VB B D C S wv b∨w.heap.size<=b:=by
 rintro b ((rfl|rfl|hb)|rfl|rfl)
 ·exact .inl (.inl (.inl rfl))
 ·exact .inl (.inl (.inr (.inl rfl)))
 ·rcases h with h|h
  ·exact .inl (.inl (.inr (.inr (h▸hb))))
  exact .inr (h b hb)
 ·exact .inl (.inr (.inl rfl))
 exact .inl (.inr (.inr rfl))
def VN.step(h:VN w0 w B D C S wv V d n)(hv:qU w' B D C V')(hd:wY w' D S zV d')(hc:um w' C n')(hm:Gx w wv zV)(hk:Keep (VB B D C S wv) w w'):VN w0 w' B D C S zV V' d' n':=
 ⟨hv,hd,hc,λb hb=>by
  rcases Pg hm b hb with hb|hb
  ·exact h.own b hb
  exact bQ h.qm.size hb,h.qm.t hk (λi hi hs=>by have:=h.own i hs;omega)⟩
def VN.rounds(h:VN w0 w B D C S wv V d n)(R:rF w0):∀b,xN D S wv b->b≠4:=by
 intro b hb e;have h1:=h.own b (.inl hb);have h2:=iK (R 0 (by decide));rw[e]at h1
 have:(4:Nat)<w0.heap.size:=h2
 omega
def zn5(w0 w w':ax)(B D C S:Nat)(wv:ay)(secret:af)(V:qI)(d:vN)(n:Nat)(ep:Int)(W:List (Nat×af))(e:Ending):Prop:=
 ∃zV d',Gx w wv zV∧((e= .returned .nilIface∧VN w0 w' B D C S zV (xG V ep W) d' ((n+1:Nat):Int)∧xR secret (xG V ep W) d'.qy (n+1)∧d'.qy=DX V d.qy ep W∧d'.wait= []∧(d.qR<0->d'.qR=d.qR))∨
  (e= .returned (qY 14)∧VN w0 w' B D C S zV (VC V) d' n∧0<=d.qR∧∀keeps,xR secret V (wO d'.qy d'.wait keeps d'.wait.length) n∨xR secret (xG V ep W) (wO d'.qy d'.wait keeps d'.wait.length) (n+1)))
def zkB(h:VN w0 w B D C S wv V d n'){n:Nat}(hn':n'=n){secret:af}(hi:xR secret V d.qy n)(hw:d.wait= [])(hn:n<1000){o:Entry->Bool}(hp:M.Pairwise (λp q=>p.1≠q.1))(hg:∀p∈M,Jq p=false)(he:ep=V.now.qB∨(ep=V.now.qB+1∧∀i,i<32->∃s,(i,s)∈uf M o))
  (hs:zJ w w' B D C S V wv d n' ep M o e) (hk:Keep (VB B D C S wv) w w'):zn5 w0 w w' B D C S wv secret V d n ep (uf M o) e:=by
 subst hn';rcases hs with⟨hd,_⟩|⟨_,⟨p,Xc,hb⟩,_⟩|⟨_,_,he',hv,⟨zV,hdv,hm⟩,hc⟩
 ·rw[hi.alive]at hd;cases hd
 ·rw[hg p Xc]at hb;cases hb
 ·rcases zl1 hi hw (by omega) (Iq hp hg) he with⟨h1,h2,h3,h4,h5,h6⟩|⟨h1,h2,h3,h4,h5⟩
  ·rw[h1]at he';rw[h3]at hv;rw[h2]at hc;refine⟨zV,_,hm,.inl ⟨he',h.step hv hdv hc hm hk,?_,h4,h5,h6⟩⟩;rw[h4];exact Ur hi (by omega) (Iq hp hg) he
  rw[h1]at he';rw[h3]at hv;rw[h2]at hc;exact⟨zV,_,hm,.inr ⟨he',h.step hv hdv hc hm hk,h4,h5⟩⟩
def zrj(h:VN w0 w B D C S wv V d n'){n:Nat}(hn':n'=n){secret:af}(hi:xR secret V d.qy n)(hw:d.wait= [])(hn:n<1000)(yR:secret.size<=1000)(R:rF w0)(hm:yB w mb nm M)(F8:nm<=1000)(hg:∀p∈M,Jq p=false):
  ae 56 #[.pointer (some ⟨B,0,none⟩),.map (some mb)] w λe w'=>zn5 w0 w w' B D C S wv secret V d n V.now.qB (uf M (zi V)) e∧Keep (VB B D C S wv) w w':=by
 have hc:=hi.Ea;refine(zhm (mo:=some mb) h.G9 h.dev h.Ea hm F8 (by omega) (by omega) (by rw[hw];simp) (by rw[hi.sec];exact yR) hi.m16 (R.qm h.qm (λx=>x)) (h.rounds R)).m ?_;rintro e w' ⟨hs,hk⟩;exact⟨zkB h hn' hi hw hn (yB.TN hm) hg (.inl rfl) hs hk,hk⟩
def zrg(h:VN w0 w B D C S wv V d n'){n:Nat}(hn':n'=n){secret:af}(hi:xR secret V d.qy n)(hw:d.wait= [])(hn:n<1000)(yR:secret.size<=1000)(R:rF w0):
  ae 58 #[.pointer (some ⟨B,0,none⟩)] w λe w'=>zn5 w0 w w' B D C S wv secret V d n (V.now.qB+1) (uf (ug V.texts 32) (λ_=>true)) e∧Keep (VB B D C S wv) w w':=by
 have hc:=hi.Ea;have e1:=hi.ep1;have e2:=hi.ep2;refine(zhk h.G9 h.dev h.Ea (by omega) (by omega) (by omega) (by omega) (by rw[hw];simp) (by rw[hi.sec];exact yR) hi.m16 hi.t200 (R.qm h.qm (λx=>x)) (h.rounds R)).m ?_;rintro e w' ⟨hs,hk⟩;exact⟨zkB h hn' hi hw hn (xA _ _) (D5 hi.t200 hi.texts) (.inr ⟨rfl,zaZ⟩) hs hk,hk⟩
def zrD(hd:wY w D S wv d)(hk:ak w0 w)(ru:∀b,xN D S wv b∨b=C->w0.heap.size<=b){n:Nat}(hc:um w C n)(hn:n<1000000)(hb:∀i,i<66->(d.now.getD i ⟨#[]⟩).size=256){secret:af}(hs:secret.size=16)(R:rF w0){V:qI}{m:Int}(ho:IX secret d.now n=some (V,m)):
  ae 40 #[.pointer (some ⟨D,0,none⟩),.pointer (some ⟨C,0,none⟩),.string secret] w λe w'=>(∃B,w.heap.size<=B∧e= .returned (.tuple #[.pointer (some ⟨B,0,none⟩),.nilIface])∧VN w0 w' B D C S wv V d m)∧Keep (qJ C) w w':=by
 refine(zcl hd hb n (by omega) hc secret hs (R.qm hk (λx=>x))).m ?_;rintro e w' ⟨hs,hk'⟩;rw[ho]at hs;obtain⟨B,he,hB,hv,Zq⟩:=hs;refine⟨⟨B,hB,he,hv,hd.qm hk' (λb hb e=>by cases e;exact NC hd hc hb),Zq,?_,hk.t hk' (λi hi e=>by cases e;have:=ru C (.inr rfl);omega)⟩,hk'⟩;rintro b (hb|rfl|rfl)
 ·exact ru b (.inl hb)
 ·exact bQ hk.size hB
 ·exact ru b (.inr rfl)
end
def OG:af:=⟨#[48,49,50,51,52,53,54,55,56,57,97,98,99,100,101,102]⟩
def zgD(i:Nat)(hi:i<66):IU.getD i ⟨#[]⟩=zO:=by rw[IU,aG,jP,bu hi];rfl
section
variable {w0 w w':ax}{B D C S:Nat}{wv zV:ay}{V V':qI}{qy ZG:List af}{n n':Nat}{hv iv hv' iv' x:ay}{hvs ivs:List ay}{H I:List (List af)}{l:List af}
end
section
variable {w0 w:ax}{B D C S:Nat}{wv:ay}{V:qI}{d:vN}{n':Int}
end
def uK(f:Nat->Option af):Nat->List (Nat×af)
 | 0=> []
 | k+1=>uK f k++(match f k with|some t=> [(k,t)]|none=> [])
def xY(rf:Int)(sn:List Int)(W:List (Nat×af)):List Int:=W.foldl (λl p=>l.set p.1 rf) sn
def Ik{t:af}(h:f k=some t):uK f (k+1)=uK f k++ [(k,t)]:=by rw[uK,h]
def Sv(h:f k=none):uK f (k+1)=uK f k:=by rw[uK,h,dS]
def zda{f:Nat->Option af} :∀(k:Nat) {p:Nat×af},p∈uK f k↔p.1<k∧f p.1=some p.2
 | 0,p=>by simp[uK]
 | k+1,p=>by
  rw[uK,dX,zda k];cases h:f k with
  | none=>
   simp only[iT,lN];constructor
   ·rintro⟨h1,h2⟩;exact⟨by omega,h2⟩
   rintro⟨h1,h2⟩;rcases Nat.lt_or_eq_of_le (Nat.le_of_lt_succ h1)with h3|h3
   ·exact⟨h3,h2⟩
   rw[h3,h]at h2;cases h2
  | some t=>
   rw[bJ];constructor
   ·rintro(⟨h1,h2⟩|rfl)
    ·exact⟨by omega,h2⟩
    exact⟨by show k<k+1;omega,h⟩
   rintro⟨h1,h2⟩;rcases Nat.lt_or_eq_of_le (Nat.le_of_lt_succ h1)with h3|h3
   ·exact .inl ⟨h3,h2⟩
   rw[h3,h]at h2;exact .inr (Prod.ext h3 (aU h2).s)
def XI:∀(W:List (Nat×af)) (rf:Int) (sn:List Int),(xY rf sn W).length=sn.length
 | [],_,_=>rfl
 | p::W,rf,sn=>by rw[xY,dY,<-xY,XI W,fC]
def P9(rf:Int)(sn:List Int)(A B:List (Nat×af)):xY rf sn (A++B)=xY rf (xY rf sn A) B:=by rw[xY,iL];rfl
def zh5(hs:sn.length=32)(ht:T.length=32)(i:Nat)(rf:Int)(t:af):marksOf (sn.set i rf) (T.set i t)=(marksOf sn T).set i (uI (i:Int) rf t):=by
 refine Uw ⟨#[]⟩ (by rw[fC,Jh,Jh]) λj hj=> ?_;rw[Jh]at hj;rw[zba _ _ j hj,wR,wR,wR,zba _ _ j hj,Jh,hs,ht];by_cases e:i=j
 ·subst e;rw[bu ⟨rfl,hj⟩,bu ⟨rfl,hj⟩,bu ⟨rfl,hj⟩]
 rw[aV (λh=>e h.1),aV (λh=>e h.1),aV (λh=>e h.1)]
def PO(rf:Int):∀(W:List (Nat×af)) {sn:List Int} {T:List af},sn.length=32->T.length=32->CB rf (marksOf sn T) W=marksOf (xY rf sn W) (ui T W)
 | [],sn,T,_,_=>rfl
 | p::W,sn,T,hs,ht=>by have h:=PO rf W (sn:=sn.set p.1 rf) (T:=T.set p.1 p.2) (by rw[fC,hs]) (by rw[fC,ht]);rw[zh5 hs ht]at h;exact h
def zae{rf:Int}{sn:List Int}(hs:sn.length=32)(f:Nat->Option af)(j:Nat)(hj:j<32):∀k,k<=32->(xY rf sn (uK f k)).getD j 0=if j<k∧(f j).isSome=true then rf else sn.getD j 0
 | 0,_=>rfl
 | k+1,hk=>by
  have ih:=zae (rf:=rf) hs f j hj k (by omega);cases h:f k with
  | none=>
   rw[Sv h,ih];by_cases e:j=k
   ·subst e;rw[aV (λx=>absurd x.1 (qj _)),aV (λx=>by rw[h]at x;cases x.2)]
   by_cases e2:j<k∧(f j).isSome=true
   ·rw[bu e2,bu ⟨by omega,e2.2⟩]
   rw[aV e2,aV (λx=>e2 ⟨by omega,x.2⟩)]
  | some t=>
   rw[Ik h,P9];show((xY rf sn (uK f k)).set k rf).getD j 0=_;rw[wR,XI,hs,ih];by_cases e:k=j
   ·subst e;rw[bu ⟨rfl,hj⟩,bu ⟨by omega,by rw[h];rfl⟩]
   rw[aV (λx=>e x.1)];by_cases e2:j<k∧(f j).isSome=true
   ·rw[bu e2,bu ⟨by omega,e2.2⟩]
   rw[aV e2,aV (λx=>e2 ⟨by omega,x.2⟩)]
def Y1{T:List af}(hT:T.length=32)(f:Nat->Option af)(j:Nat)(hj:j<32):∀k,k<=32->(ui T (uK f k)).getD j ⟨#[]⟩=if j<k then(f j).getD (T.getD j ⟨#[]⟩)else T.getD j ⟨#[]⟩
 | 0,_=>rfl
 | k+1,hk=>by
  have ih:=Y1 hT f j hj k (by omega);cases h:f k with
  | none=>
   rw[Sv h,ih];by_cases e:j=k
   ·subst e;rw[aV (qj _),bu (by omega),h];rfl
   by_cases e2:j<k
   ·rw[bu e2,bu (by omega)]
   rw[aV e2,aV (by omega)]
  | some t=>
   rw[Ik h,ui,iL,<-ui];show((ui T (uK f k)).set k t).getD j ⟨#[]⟩=_;rw[wR,Je,DU,<-Je,hT,ih];by_cases e:k=j
   ·subst e;rw[bu ⟨rfl,hj⟩,bu (by omega),h];rfl
   rw[aV (λx=>e x.1)];by_cases e2:j<k
   ·rw[bu e2,bu (by omega)]
   rw[aV e2,aV (by omega)]
def Dt(rf:Int)(sn:List Int)(T:List af)(f:Nat->Option af)(k:Nat):List af:=(List.range k).map λ(j:Nat)=>uI (j:Int) (if (f j).isSome=true then rf else sn.getD j 0) ((f j).getD (T.getD j ⟨#[]⟩))
def zfh(rf:Int)(sn:List Int)(T:List af)(f:Nat->Option af)(k:Nat):Dt rf sn T f (k+1)=Dt rf sn T f k++ [uI (k:Int) (if (f k).isSome=true then rf else sn.getD k 0) ((f k).getD (T.getD k ⟨#[]⟩))]:=by rw[Dt,lH,dK];rfl
def zh4(rf:Int)(hs:sn.length=32)(hT:T.length=32)(f:Nat->Option af):Dt rf sn T f 32=CB rf (marksOf sn T) (uK f 32):=by
 rw[PO rf _ hs hT];unfold Dt marksOf;refine gU λj hj=> ?_;have hj:j<32:=iJ.1 hj;rw[zae hs f j hj 32 (aS _),Y1 hT f j hj 32 (aS _),bu hj]
 congr 1
 by_cases e:(f j).isSome=true
 ·rw[bu e,bu ⟨hj,e⟩]
 rw[aV e,aV (λx=>e x.2)]
def zm7(w':ax)(B RN D C:Nat)(V:qI)(sn:List Int)(r:Option qI)(e:Ending):Prop:=match r with
 | some V'=>e= .returned (.bool true)∧∃CU,uS w' B RN D C V' CU∧V'.marks=marksOf CU V'.texts
 | none=>e= .returned (.bool false)∧uS w' B RN D C V sn
def Qr:(prog.info? 67).map (λi=>(i.zero,i.size))=some (some (.agg ((List.replicate 32 (⟨#[]⟩:af)).map Value.string).toArray),32):=by kernel_rfl
def Qs:(prog.info? 68).map (λi=>(i.zero,i.size))=some (some (.agg ((List.replicate 32 (0:Int)).map (Value.int .i64)).toArray),32):=by kernel_rfl
def Wu:(prog.info? 67).map (·.size)=some 32:=by kernel_rfl
def Wv:(prog.info? 68).map (·.size)=some 32:=by kernel_rfl
def ES(w:ax)(T:Nat)(l:List af):Prop:=w.heap[T]? =some (.cells (l.map Value.string).toArray 67 (0,0))∧l.length=32
def Gy(w:ax)(S:Nat)(l:List Int):Prop:=w.heap[S]? =some (.cells (l.map (Value.int .i64)).toArray 68 (0,0))∧l.length=32
def zoh(x:Nat)(i:Nat)(v:ay)(w:ax):Prop:=w.cell? ⟨x,i,none⟩=some v
def ES.qm{T:Nat}{l:List af}(h:ES w T l){S:Nat->Prop}(hk:Keep S w w')(hn:¬S T):ES w' T l:=⟨hk.heap h.1 hn,h.2⟩
def Gy.qm{T:Nat}(h:Gy w T l){S:Nat->Prop}(hk:Keep S w w')(hn:¬S T):Gy w' T l:=⟨hk.heap h.1 hn,h.2⟩
def ES.cell{T:Nat}{l:List af}(h:ES w T l)(i:Nat)(hi:i<32):w.cell? ⟨T,i,none⟩=some (.string (l.getD i ⟨#[]⟩)):=by rw[aO _ _ i _ _ (0,0) h.1];simp[aG,h.2,hi]
def Gy.cell{T:Nat}(h:Gy w T l)(i:Nat)(hi:i<32):w.cell? ⟨T,i,none⟩=some (.int .i64 (l.getD i 0)):=by rw[aO _ _ i _ _ (0,0) h.1];simp[aG,h.2,hi]
def ES.set{T:Nat}{l:List af}(h:ES w T l)(i:Nat)(s:af):ES (w.setCell ⟨T,i,none⟩ (.string s)) T (l.set i s):=by refine⟨?_,by rw[fC,h.2]⟩;rw[qK h.1,fJ,<-kR]
def Gy.set{T:Nat}(h:Gy w T l)(i:Nat)(s:Int):Gy (w.setCell ⟨T,i,none⟩ (.int .i64 s)) T (l.set i s):=by refine⟨?_,by rw[fC,h.2]⟩;rw[qK h.1,fJ,<-kR]
structure zfN(w0 wr:ax)(T S X:Nat)(cr:Array ay)(lv:ay)(base:Nat)(key:af)(now:List af)(qx:List Bool)(k:Nat)(l:List (af×af))(sl:List Int):Prop where
 Xr:yI key now qx k=some l
 len:l.length=k
 zk6:sl.length=k
 mks:l.map (·.2)=(List.range k).map λ(j:Nat)=>uI (j:Int) (sl.getD j 0) ((l.map (·.1)).getD j ⟨#[]⟩)
 tx:ES wr T (l.map (·.1)++List.replicate (32-k) ⟨#[]⟩)
 ix:Gy wr S (sl++List.replicate (32-k) 0)
 own:qF wr base 9 1 lv k (strCells (l.map (·.2)))
 xr:wr.heap[X]? =some (.cells cr 66 (0,0))
 qm:ak w0 wr
 big:base<=wr.heap.size
section
variable {w0 wr w':ax}{T S X:Nat}{cr:Array ay}{lv:ay}{base:Nat}{key:af}{now:List af}{qx:List Bool}{k:Nat}{l:List (af×af)}{sl:List Int}
def zfN.rV(h:zfN w0 wr T S X cr lv base key now qx k l sl)(hk:ak wr w'):zfN w0 w' T S X cr lv base key now qx k l sl:=
 ⟨h.Xr,h.len,h.zk6,h.mks,h.tx.qm hk (λx=>x),h.ix.qm hk (λx=>x),h.own.qm hk (λ_ _ x=>x),hk.heap h.xr (λx=>x),h.qm.qo hk,bQ h.big hk.size⟩
def QM{α:Type}(A B:List α)(d:α)(j:Nat)(h:j<A.length):(A++B).getD j d=A.getD j d:=by rw[aG,dL h,<-aG]
def QL{α:Type}(A:List α)(x d:α)(j:Nat)(h:A.length=j):(A++ [x]).getD j d=x:=by rw[aG,bT (by omega),h,kz];rfl
def zjS{f:Int->Int->af->af}{t m:af}(hl:l.length=k)(Zm:sl.length=k)(hm:m=f k v t)(h:l.map (·.2)=(List.range k).map λ(j:Nat)=>f (j:Int) (sl.getD j 0) ((l.map (·.1)).getD j ⟨#[]⟩)):
  (l++ [(t,m)]).map (·.2)=(List.range (k+1)).map λ(j:Nat)=>f (j:Int) ((sl++ [v]).getD j 0) (((l++ [(t,m)]).map (·.1)).getD j ⟨#[]⟩):=by
 rw[dK,lH,dK,h]
 congr 1
 ·refine gU λj hj=> ?_;have hj:j<k:=iJ.1 hj;rw[dK,QM _ _ _ _ (by rw[Zm];exact hj),QM _ _ _ _ (by rw[aP,hl];exact hj)]
 ·rw[bH,dh,bH,dh,hm,dK,bH,dh,QL _ _ _ _ Zm,QL _ _ _ _ (by rw[aP,hl])]
def zfN.step{t m:af}(h:zfN w0 wr T S X cr lv base key now qx k l sl)(hp:BL key now qx k=some (t,m))(hm:m=uI (k:Int) v t){lv':ay}
  (ht:ES w' T ((l++ [(t,m)]).map (·.1)++List.replicate (32-(k+1)) ⟨#[]⟩)) (hs:Gy w' S (sl++ [v]++List.replicate (32-(k+1)) 0)) (ho:qF w' base 9 1 lv' (k+1) (strCells (l.map (·.2))++strCells [m])) (hx:w'.heap[X]? =some (.cells cr 66 (0,0))) (hk:ak w0 w') (hg:base<=w'.heap.size):
  zfN w0 w' T S X cr lv' base key now qx (k+1) (l++ [(t,m)]) (sl++ [v]):=by
 have hl:=h.len;have Zm:=h.zk6;refine⟨by rw[yI,h.Xr,hp],by rw[aN,hl];rfl,by rw[aN,Zm];rfl,zjS hl Zm hm h.mks,ht,hs,?_,hx,hk,hg⟩
 ·rw[dK,AB];exact ho
end
def zai{α:Type}(d:α)(h:k<32):List.replicate (32-k) d=d::List.replicate (32-(k+1)) d:=by rw[show 32-k=(32-(k+1))+1 by omega];rfl
def zgL{α:Type}(A:List α)(d x:α)(h:k<32)(hA:A.length=k):(A++List.replicate (32-k) d).set k x=A++ [x]++List.replicate (32-(k+1)) d:=by rw[zai d h,iE _ _ (by omega),hA,kz,qf,bC];rfl
def zkS(w:ax)(m:af)(E:aB):∀(j:Nat) (u:ay),[Value.string m][j]? =some u->(w.alloc (.cells #[.string m] E)).cell? ((⟨w.heap.size,0,none⟩:Addr).add j)=some u:=by
 intro j u hj;cases j with
 | zero=>
  obtain rfl:Value.string m=u:=aU hj;show(w.alloc (.cells #[.string m] E)).cell? ⟨w.heap.size,0,none⟩=some (.string m);rw[aO _ _ _ _ _ (0,0) (aQ w _)];rfl
 | succ j=>simp at hj
def zkI(s:af):Lib.hasPrefix s.data.toList (uu (List.replicate 8 0)).data.toList=true↔(bs s).take 8=sS 0:=by
 have h1:(uu (List.replicate 8 0)).data.toList=List.replicate 8 (0:UInt8):=rfl;have h2:sS 0=List.replicate 8 0:=by decide
 have h3:bs s=s.data.toList.map (·.toNat):=rfl;rw[h1,h2,h3];unfold Lib.hasPrefix;rw[List.isPrefixOf_iff_prefix,List.prefix_iff_eq_take,bP,<-List.map_take];constructor
 ·intro h;rw[<-h];rfl
 intro h;have e:List.replicate 8 0=(List.replicate 8 (0:UInt8)).map (·.toNat):=rfl;rw[e]at h;exact(List.map_inj_right (λa b h=>UInt8.toNat_inj.1 h)).1 h|>.symm
def ziR(B RN S T k:Nat)(v:Int)(t:af)(w:ax):Prop:=w.cell? ⟨B,0,none⟩=some (.pointer (some ⟨RN,0,none⟩))∧w.cell? ⟨S,k,none⟩=some (.int .i64 v)∧w.cell? ⟨T,k,none⟩=some (.string t)
def zui(X T S:Nat)(cx ct cs:Array ay)(w:ax):Prop:=w.heap[X]? =some (.cells cx 66 (0,0))∧w.heap[T]? =some (.cells ct 67 (0,0))∧w.heap[S]? =some (.cells cs 68 (0,0))
def ziS(B RN X:Nat)(ep:Int)(w:ax):Prop:=w.cell? ⟨B,0,none⟩=some (.pointer (some ⟨RN,0,none⟩))∧w.cell? ⟨X,1,none⟩=some (.int .i64 ep)
def UO(h:uS w B RN D C V sn)(hd:xC w D sv av tv qy wait qR)(hb:∀i,i<66->((sQ qy wait).getD i ⟨#[]⟩).size=256)(hs:V.secret.size<=1000)(hdd:V.dead=false)(RR:D7 w RN)(c:Nat)(hc:c<1000000)(Bc:∀b,RB D sv av tv b->b≠B)(hRN:RN≠B):
  ae 82 #[.pointer (some ⟨B,0,none⟩),.int .i64 c] w λe w'=>zm7 w' B RN D C V sn (xX V.secret (sQ qy wait) c) e∧Keep (qJ B) w w':=by
 obtain⟨q,hq⟩:∃q:Nat,q=c % 2:=⟨_,rfl⟩
 have zlf:(c:Int) % 2=(q:Int):=by omega
 obtain⟨now,zli⟩:=aj (sQ qy wait);have hrd:=λ(W:ax) (K:ak w W)=>zaT (hd.qm K (λ_ _ x=>x)) q (by omega);have hsk:=λ(W:ax) (K:ak w W)=>Oi (h.qm K (λx=>x)) hs (RR.qm K (λx=>x));rw[<-zli]at hrd hb⊢;obtain⟨s,hss⟩:=aj (now.getD q ⟨#[]⟩);have uF:s.size=256:=by rw[hss];exact hb q (by omega)
 rw[<-hss]at hrd;obtain⟨key,zq⟩:=aj (vV V.secret);rw[<-zq]at hsk;have hpa:=λ(W:ax) (K:ak w W)=>ze8 RN key s (by omega) W (RR.qm K (λx=>x));obtain⟨PV,YX⟩:=aj (vJ key s);obtain⟨PE,hPE⟩:=aj (xe key s);have LP:PV.qx.length=32:=by rw[YX];exact NL _ _
 rw[<-YX,<-hPE]at hpa;obtain⟨cr,Xg⟩:=aj ((qG PV).toArray);obtain⟨cz,JL⟩:=aj ((qG sZ).toArray);have Ce:cr.size=35:=by rw[Xg,bZ,uk PV LP]
 have xu:cr.all (·.oneCell')=true:=by rw[Xg];exact sU _
 have hsv:tH PV= .agg cr:=by rw[Xg];rfl
 have hsu:DC V.secret now c=if PE=0∧PV.count=c then some PV else none:=by
  have hqq:((c:Int) % 2).toNat=q:=by omega
  rw[DC,hqq,<-hss,<-zq,<-YX,<-hPE]
 obtain⟨r,hr⟩:=aj (xX V.secret now c);rw[<-hr];have Hr:=ag hr;have yh:=xP;have AP:=Au;rw[<-JL]at AP;have TE:tH sZ= .agg cz:=by rw[JL];rfl
 rw[TE]at yh;rw[hsv]at hpa;have QP:(prog.info? 66).map (·.size)=some cr.size:=by rw[Ce];exact sK
 have c0:=h.yK;have c1:=h.dev;have rE:=h.lt;have HV:=ag h;have Hd:=ag hd;have Hb:=ag hb;have HR:=ag RR;have Hrd:=ag hrd;have Hsk:=ag hsk;have Hpa:=ag hpa;have Xm:=ag hsu;have Hcr:=ag Xg;have Hne:=ag Bc;have HRN:=ag hRN;obtain⟨i0,zM,Ba,D9,D6⟩:=iC BP;have zAR:=ag zli;have EJ:=ag yh;have Gf:=ag QP;have Hpl:=ag LP;clear h hd hb RR hrd hsk hpa hsu Xg Bc hRN yh QP hsv TE JL LP YX hPE zq hss zli hq hr;go_enter func82,ntmps82;go_wp2_with fail;refine(Hrd.o _ (ah _ _)).m ?_;rintro e w1 ⟨rfl,vF⟩;subst w1;clear zlf;go_wp2_with fail;have l0:∀x:wE (zoh B 0 (.pointer (some ⟨RN,0,none⟩))),x.w.cell? ⟨B,0,none⟩=some (.pointer (some ⟨RN,0,none⟩)):=λx=>x.h;have hC0:∀ {W:ax},ak w W->zoh B 0 (.pointer (some ⟨RN,0,none⟩)) W:=λK=>(K.cell (p:=⟨B,0,none⟩) rE (λx=>x)).t c0
 go_cut [7,8] (λxv ev wr=>∃X,xv= .pointer (some ⟨X,0,none⟩)∧ev= .int .i64 PE∧Hid (wr.heap[X]? =some (.cells cr 66 (0,0)))∧Hid (w.heap.size<=X)∧ak w wr)
 case first=>
  refine zL (zoh B 0 (.pointer (some ⟨RN,0,none⟩))) (.rd 0 (.rd 1 (.rd 2 (.rd 3 (.rd 4 (.rd 6 (.alt 5 (.alt 7 (.rd 8 (.rd 9 (.rd 10 (.alt 11 (.alt 12 (.alt 13 .fin .no) .no) .no)))) (.alt 11 (.alt 7 (.rd 8 (.rd 9 (.rd 10 (.alt 12 (.alt 13 .fin .no) .no)))) .no) .no)) (.alt 11 (.alt 5 (.alt 7 (.rd 8 (.rd 9 (.rd 10 (.alt 12 (.alt 13 .fin .no) .no)))) .no) .no) .no)))))))) (by kernel_rfl) (by kernel_rfl) (λc a d v w h=>by cases d<;>exact h) ?_
  iterate 6 (unfold wC;simp only[qC,aF,aH,aI];refine qp (λK hK=> ?_);go_simp;(first|refine⟨_,λ_=>rfl,hK _ ?_⟩|refine hK _ ?_);clear hK K)
  unfold wC;simp only[qC,aF,aH,aI];refine⟨hC0 (ah qw w).drew,?_,?_⟩
  ·go_wp2_with fail;refine(Hsk.o _ (ah qw w).drew).m ?_;rintro e w1 ⟨rfl,BC⟩;have K1:=(ah qw w).drew.qo BC;go_wp2_with fail;unfold wC;simp only[qC,aF,aH,aI];refine⟨hC0 K1,?_,?_,trivial⟩
   ·go_wp2_with fail;refine(Hpa.o _ K1).m ?_;rintro e w2 ⟨rfl,K20⟩;have K2:=K1.qo K20;go_wp2_with fail
    iterate 3 (unfold wC;simp only[qC,aF,aH,aI];refine qp (λK hK=> ?_);go_simp;(first|refine⟨_,λ_=>rfl,hK _ ?_⟩|refine hK _ ?_);clear hK K)
    unfold wC;simp only[qC,aF,aH,aI];refine⟨hC0 K2,?_,trivial⟩;go_wp2_with (refine qN rfl 66 rfl EJ.o ?_;refine qQ (λw9=>w9.heap[w2.heap.size]? =some (.cells cz 66 (0,0))∧ak w w9) ⟨aQ w2 _,K2.alloc _⟩ ?_;rintro w3 ⟨hX,K3⟩);obtain⟨X,JR⟩:=aj w2.heap.size;rw[<-JR]at hX⊢;have hXn:w.heap.size<=X:=by rw[JR];exact K2.size
    clear JR;unfold wC;simp only[qC,aF,aH,aI];refine⟨hC0 K3,?_,trivial⟩;go_wp2_with (refine qL rfl 66 (.tmp 7) (.tmp 40) rfl X 66 cz cr rfl rfl hX Gf.o 35 AP Ce xu ?_;refine qQ (λw9=>w9.heap[X]? =some (.cells cr 66 (0,0))∧ak w w9) ⟨qO (c':=cr) hX,K3.setRow (g:=X) (.inr hXn) cr⟩ ?_;rintro w9 ⟨Qj,K9⟩);unfold wC;simp only[qC,aF,aH,aI];refine⟨hC0 K9,?_,trivial⟩;go_wp2_with fail;unfold wC;go_wp2_with fail;go_meet
    exact⟨X,rfl,rfl,ag Qj,ag hXn,K9⟩
   (try simp only[qC,aF,aH,aI]);go_wp2_with (refine qN rfl 66 rfl EJ.o ?_;refine qQ (λw9=>w9.heap[w1.heap.size]? =some (.cells cz 66 (0,0))∧ak w w9) ⟨aQ w1 _,K1.alloc _⟩ ?_;rintro w3 ⟨hX,K2⟩);obtain⟨X,JR⟩:=aj w1.heap.size;rw[<-JR]at hX⊢;have hXn:w.heap.size<=X:=by rw[JR];exact K1.size
   clear JR;unfold wC;simp only[qC,aF,aH,aI];refine⟨hC0 K2,?_,trivial⟩;go_wp2_with fail;refine(Hpa.o _ K2).m ?_;rintro e w2 ⟨rfl,K30⟩;have K3:=K2.qo K30;go_wp2_with fail
   iterate 3 (unfold wC;simp only[qC,aF,aH,aI];refine qp (λK hK=> ?_);go_simp;(first|refine⟨_,λ_=>rfl,hK _ ?_⟩|refine hK _ ?_);clear hK K)
   have hX:=K30.heap hX (λx=>x);unfold wC;simp only[qC,aF,aH,aI];refine⟨hC0 K3,?_,trivial⟩;go_wp2_with (refine qL rfl 66 (.tmp 7) (.tmp 40) rfl X 66 cz cr rfl rfl hX Gf.o 35 AP Ce xu ?_;refine qQ (λw9=>w9.heap[X]? =some (.cells cr 66 (0,0))∧ak w w9) ⟨qO (c':=cr) hX,K3.setRow (g:=X) (.inr hXn) cr⟩ ?_;rintro w9 ⟨Qj,K9⟩);unfold wC;simp only[qC,aF,aH,aI];refine⟨hC0 K9,?_,trivial⟩;go_wp2_with fail;unfold wC;go_wp2_with fail;go_meet
   exact⟨X,rfl,rfl,ag Qj,ag hXn,K9⟩
  unfold wC;simp only[qC,aF,aH,aI];refine⟨?_,trivial⟩;go_wp2_with (refine qN rfl 66 rfl EJ.o ?_;refine qQ (λw9=>w9.heap[w.drew.heap.size]? =some (.cells cz 66 (0,0))∧ak w w9) ⟨aQ w.drew _,(ah qw w).drew.alloc _⟩ ?_;rintro w1 ⟨hX,K1⟩);obtain⟨X,JR⟩:=aj w.drew.heap.size;rw[<-JR]at hX⊢;have hXn:w.heap.size<=X:=by rw[JR];exact(ah qw w).drew.size
  clear JR;unfold wC;simp only[qC,aF,aH,aI];refine⟨hC0 K1,?_,trivial⟩;go_wp2_with fail;refine(Hsk.o _ K1).m ?_;rintro e w2 ⟨rfl,K20⟩;have K2:=K1.qo K20;go_wp2_with fail;have hX:=K20.heap hX (λx=>x);unfold wC;simp only[qC,aF,aH,aI];refine⟨hC0 K2,?_,trivial⟩;go_wp2_with fail;refine(Hpa.o _ K2).m ?_;rintro e w3 ⟨rfl,K30⟩;have K3:=K2.qo K30;go_wp2_with fail
  iterate 3 (unfold wC;simp only[qC,aF,aH,aI];refine qp (λK hK=> ?_);go_simp;(first|refine⟨_,λ_=>rfl,hK _ ?_⟩|refine hK _ ?_);clear hK K)
  have hX:=K30.heap hX (λx=>x);unfold wC;simp only[qC,aF,aH,aI];refine⟨hC0 K3,?_,trivial⟩;go_wp2_with (refine qL rfl 66 (.tmp 7) (.tmp 40) rfl X 66 cz cr rfl rfl hX Gf.o 35 AP Ce xu ?_;refine qQ (λw9=>w9.heap[X]? =some (.cells cr 66 (0,0))∧ak w w9) ⟨qO (c':=cr) hX,K3.setRow (g:=X) (.inr hXn) cr⟩ ?_;rintro w9 ⟨Qj,K9⟩);unfold wC;simp only[qC,aF,aH,aI];refine⟨hC0 K9,?_,trivial⟩;go_wp2_with fail;unfold wC;go_wp2_with fail;go_meet
  exact⟨X,rfl,rfl,ag Qj,ag hXn,K9⟩
 case rest=>
 obtain⟨X,rfl,rfl,hX,hXn,K⟩:=hcut;obtain⟨w3,rfl⟩:=aj wc;clear l0 Hrd Hsk Hpa;have x0:w3.cell? ⟨X,0,none⟩=some (.int .i64 PV.count):=by rw[aO _ _ _ _ _ (0,0) hX.o,Hcr.o];rfl
 by_cases hE:PE=0
 case neg=>
  have Hno:=ag (show r=none by rw[Hr.o,xX,Xm.o,aV (λh=>hE h.1)]);go_wp2_with fail;go_ret;refine⟨?_,K.yw⟩;rw[Hno.o];exact⟨rfl,HV.o.qm K (λx=>x)⟩
 obtain⟨pc,hpc⟩:=aj PV.count;rw[<-hpc]at x0;have Hpc:=ag hpc;clear hpc;by_cases Vj:pc=(c:Int)
 case neg=>
  have Hno:=ag (show r=none by rw[Hr.o,xX,Xm.o,aV (λh=>Vj (Hpc.o.t h.2))]);have zC:(pc !=(c:Int))=true:=by simpa using Vj
  subst hE;clear Vj;go_wp2_with fail;go_ret;refine⟨?_,K.yw⟩;rw[Hno.o];exact⟨rfl,HV.o.qm K (λx=>x)⟩
 have hvs:r=(EP V.secret now PV).map λp=>⟨V.secret,PV,p.1,p.2,false⟩:=by rw[Hr.o,xX,Xm.o,bu ⟨hE,Hpc.o.s.t Vj⟩]
 have Hvs:=ag hvs;have zC:(pc !=(c:Int))=false:=by simpa using Vj
 subst hE;clear hvs Vj;go_upto_region 5 with(fail)
 go_wp2_with (first|(refine qN rfl 67 rfl Qr ?_;refine qQ (λw9=>ES w9 w3.heap.size (List.replicate 32 ⟨#[]⟩)∧ak w3 w9) ⟨⟨aQ w3 _,bP⟩,(ah qw w3).alloc _⟩ ?_;rintro w4 ⟨hT,K4⟩)|(refine qN rfl 68 rfl Qs ?_;refine qQ (λw9=>ES w9 w3.heap.size (List.replicate 32 ⟨#[]⟩)∧Gy w9 w4.heap.size (List.replicate 32 0)∧ak w3 w9) ⟨⟨((ah qw w4).alloc _).heap hT.1 (λx=>x),hT.2⟩,⟨aQ w4 _,bP⟩,K4.alloc _⟩ ?_;have OA:=lt_of_heap hT.1;clear hT;rintro w5 ⟨hT,hS,K5⟩));have zys:w3.heap.size<w4.heap.size:=OA;obtain⟨T,hTe⟩:=aj w3.heap.size;obtain⟨S,hSe⟩:=aj w4.heap.size;rw[<-hTe]at hT⊢;rw[<-hSe]at hS⊢;have Oz:=K5.heap hX.o (λx=>x);have Xk:=K.qo K5;obtain⟨Vq,hpk⟩:=aj (CQ V.secret PV.qB);have W0:zfN w w5 T S X cr (.slice none 0 0) w5.heap.size Vq now PV.qx 0 [] []:=⟨rfl,rfl,rfl,rfl,hT,hS,qF.nil _ _ _ _,Oz,Xk,aS _⟩
 have zfH:X<w5.heap.size:=lt_of_heap Oz;have ztK:T<w5.heap.size:=lt_of_heap hT.1;have ztL:S<w5.heap.size:=lt_of_heap hS.1;have HW0:=ag W0;have Hpk:=ag hpk;obtain⟨base,QW⟩:=aj w5.heap.size;rw[<-QW]at HW0 zfH ztK ztL;have HLt:Hid (X<base∧T<base∧S<base∧w.heap.size<=T∧w.heap.size<=S∧T≠X∧S≠X∧S≠T∧base=w5.heap.size):=ag (by have h1:=K.size;have h2:=K4.size;have h3:=lt_of_heap hX.o;have h4:w3.heap.size<w4.heap.size:=zys;exact⟨zfH,ztK,ztL,by omega,by omega,by omega,by omega,by omega,QW⟩)
 clear W0 hT hS hX Oz K4 K5 Xk x0 zfH ztK ztL hTe hSe hpk QW;go_wp2_with fail
 go_loopw [50,11] (λiv lv wr=>∃(k:Nat) (l:List (af×af)) (sl:List Int),iv= .int .i64 k∧k<=32∧Hid (zfN w wr T S X cr lv base Vq now PV.qx k l sl)) (λiv _ _=>32-(intOf iv).toNat)
 case atStart=>exact⟨0,[],[],rfl,by omega,HW0⟩
 case round=>
  obtain⟨k,l,sl,rfl,hk,hW⟩:=hrel;by_cases uD:k<32
  ·have j1:(k:Int)<32:=by omega
   obtain⟨sd,IP⟩:=aj (PV.qx.getD k false);have x2:wr.cell? ⟨X,2+k,none⟩=some (.bool sd):=by rw[aO _ _ _ _ _ (0,0) hW.o.xr,Hcr.o,IP];exact yg PV k (by rw[Hpl.o];exact uD)
   obtain⟨at_,NU⟩:=aj (vI k sd);obtain⟨s1,Ro⟩:=aj (now.getD at_ ⟨#[]⟩);have hltB:B<wr.heap.size:=dH rE hW.o.qm.size;have Hat:=ag NU;have Hs1:=ag Ro;have Hsd:=ag IP;clear NU Ro IP;have b1:=(hW.o.qm.cell (p:=⟨B,1,none⟩) rE (λx=>x)).t c1
   go_upto_if 59 with(fail)
   go_cut [13] (λav wx=>av= .int .i64 at_∧wx=wr)
   case first=>
    cases sd with
    | true=>
     go_wp2_with fail;go_meet
     exact⟨by rw[Hat.o];rfl,rfl⟩
    | false=>
     go_wp2_with fail;go_meet
     exact⟨by rw[Hat.o];simp[vI],rfl⟩
   case rest=>
   obtain⟨rfl,Yw⟩:=hcut;obtain⟨wo,rfl⟩:=aj wc;subst Yw;have zwH:at_<66:=by rw[Hat.o];exact Ff uD sd
   have hrd:ae 140 #[.pointer (some ⟨D,0,none⟩),.int .i64 at_] wo λe w'=>e= .returned (.tuple #[.string s1,.int .i64 0])∧w'=wo:=by rw[Hs1.o,zAR.o];exact zaT (Hd.o.qm hW.o.qm (λ_ _ x=>x)) at_ zwH
   have zd3:s1.size=256:=by rw[Hs1.o];exact Hb.o at_ zwH
   obtain⟨Z,hZ⟩:=aj (uu (List.replicate 8 0));have zld:=λw=>Ky 8 8 rfl (by omega) w;rw[<-hZ]at zld;have OJ:=λw=>strings_HasPrefix s1 Z w;obtain⟨Bq,hBq⟩:=aj (Lib.hasPrefix s1.data.toList Z.data.toList);rw[<-hBq]at OJ;have Hrd:=ag hrd;have zAv:=ag zld;have zup:=ag OJ;have HBq:=ag hBq;have HZ:=ag hZ;have hPg:BL Vq now PV.qx k=Ad Vq k s1:=by rw[Hs1.o,Hat.o,Hsd.o];rfl
   have HPg:=ag hPg;clear hrd zld OJ hBq hZ hPg;go_wp2_with fail;refine Hrd.o.m ?_;rintro e w1 ⟨rfl,hw⟩;subst w1;go_wp2_with fail;refine(zAv.o _).m ?_;rintro e w1 ⟨rfl,K1⟩;go_wp2_with fail;refine(zup.o _).m ?_;rintro e w2 ⟨rfl,hw⟩;subst w2;have K1w:=hW.o.qm.qo K1;have hW1:=hW.o.rV K1;have Xc:∀(v:Int) (t:af),t.size<=1000->∀(W:ax),ak w1 W->ae 64 #[.pointer (some ⟨RN,0,none⟩),.int .i64 k,.int .i64 v,.string t] W λe w'=>e= .returned (.string (uI k v t))∧ak W w':=λv t ht W K=>Gm RN k v t ht W (HR.o.qm (K1w.qo K) (λx=>x));have Hpm:=ag Xc;have ziX:=ag K1w;have HW1:=ag hW1;clear Xc K1w hW1 K1 hW
   go_upto_if 74 with(fail)
   go_cut [] (λwx=>∃(t m:af) (v:Int),Hid (BL Vq now PV.qx k=some (t,m)∧m=uI (k:Int) v t∧t.size<=1000)∧Hid (ES wx T ((l++ [(t,m)]).map (·.1)++List.replicate (32-(k+1)) ⟨#[]⟩))∧Hid (Gy wx S (sl++ [v]++List.replicate (32-(k+1)) 0))∧Hid (Keep (λb=>b=T∨b=S) w1 wx))
   case first=>
    cases Bq with
    | true=>
     go_wp2_with fail;go_meet
     have Yz:Ad Vq k s1=some (⟨#[]⟩,uI k 0 ⟨#[]⟩):=by rw[Ad,bu ((zkI s1).1 (by rw[<-HZ.o];exact HBq.o.s))]
     have e1:l.map (·.1)++List.replicate (32-k) (⟨#[]⟩:af)=(l++ [((⟨#[]⟩:af),uI k 0 ⟨#[]⟩)]).map (·.1)++List.replicate (32-(k+1)) ⟨#[]⟩:=by rw[zai _ uD,dK,bC];rfl
     have e2:sl++List.replicate (32-k) (0:Int)=sl++ [0]++List.replicate (32-(k+1)) 0:=by rw[zai _ uD,bC];rfl
     exact⟨⟨#[]⟩,uI k 0 ⟨#[]⟩,0,ag ⟨HPg.o.t Yz,rfl,by decide⟩,ag (by rw[<-e1];exact HW1.o.tx),ag (by rw[<-e2];exact HW1.o.ix),ag (ah _ _)⟩
    | false=>
     have hn8:¬(bs s1).take 8=sS 0:=λh=>by have:=(zkI s1).2 h;rw[<-HZ.o,<-HBq.o]at this;cases this
     have L16:ziS B RN X PV.qB w1:=⟨(ziX.o.cell (p:=⟨B,0,none⟩) rE (λx=>x)).t c0,by rw[aO _ _ _ _ _ (0,0) HW1.o.xr,Hcr.o];rfl⟩
     obtain⟨ep,hep⟩:=aj PV.qB;rw[<-hep]at L16;have hkk:∀(W:ax),ak w1 W->ae 61 #[.pointer (some ⟨B,0,none⟩),.int .i64 ep] W (au (.string Vq) W):=λW K=>by rw[hep,Hpk.o];exact zaU (HV.o.qm (ziX.o.qo K) (λx=>x)) hs (HR.o.qm (ziX.o.qo K) (λx=>x)) _
     have zv4:Vq.size=32:=by rw[Hpk.o];exact QK _ _
     have zfH:X<w1.heap.size:=lt_of_heap HW1.o.xr;have Hkk:=ag hkk;have Hn8:=ag hn8;clear hkk hn8 hep;have l0:∀x:wE (ziS B RN X ep),x.w.cell? ⟨B,0,none⟩=some (.pointer (some ⟨RN,0,none⟩)):=λx=>x.h.1;have l1:∀x:wE (ziS B RN X ep),x.w.cell? ⟨X,1,none⟩=some (.int .i64 ep):=λx=>x.h.2;go_wp2_with fail;refine qX (ziS B RN X ep) [(true,0),(true,1),(true,2),(true,3),(true,4),(true,5),(true,6),(true,8),(true,9),(false,7),(false,10),(true,11),(true,12),(true,13),(true,14),(true,15),(true,16),(false,17)] ?_;simp only[uy,qC,aF,aH,aI]
     repeat(refine qp (λK hK=> ?_);go_simp;(first|refine⟨_,λ_=>rfl,hK _ ?_⟩|refine hK _ ?_);clear hK K)
     clear l0 l1;refine⟨L16,?_⟩;go_wp2_with fail;refine(Hkk.o _ (ah qw w1).drew).m ?_;rintro e w2 ⟨rfl,K2⟩;have K2:=(ah qw w1).drew.qo K2;have L17:ziS B RN X ep w2:=⟨(K2.cell (p:=⟨B,0,none⟩) (Lib.lt_of_cell L16.1) (λx=>x)).t L16.1,(K2.cell (p:=⟨X,1,none⟩) zfH (λx=>x)).t L16.2⟩
     go_wp2_with fail;refine⟨L17,?_⟩;by_cases FI:TQ (bs Vq) k (bs s1)
     ·obtain⟨vr,hvr⟩:=aj (yV (bs s1));obtain⟨tx,htx⟩:=aj (uu (yY (bs Vq) (bs s1)));have hus:=λ(W:ax) (K:ak w1 W)=>zlN RN Vq k s1 zv4 (by omega) (by omega) FI W (HR.o.qm (ziX.o.qo K) (λx=>x));rw[<-hvr,<-htx]at hus;have NQ:tx.size<=1000:=by
       rw[htx,rH,yY,dJ];omega
      have Yz:BL Vq now PV.qx k=some (tx,uI k vr tx):=by rw[HPg.o,Ad,aV Hn8.o,bu FI,htx,hvr]
      have Hpg:=ag Yz;have Hus:=ag hus;have Htl:=ag NQ;clear Yz hus NQ FI hvr htx;go_wp2_with fail;refine(Hus.o _ K2).m ?_;rintro e w3 ⟨rfl,K3⟩;have L18:ziS B RN X ep w3:=⟨(K3.cell (p:=⟨B,0,none⟩) (Lib.lt_of_cell L17.1) (λx=>x)).t L17.1,(K3.cell (p:=⟨X,1,none⟩) (dH zfH K2.size) (λx=>x)).t L17.2⟩
      have QQ:=K2.qo K3;have Oq:=HW1.o.tx.qm QQ (λx=>x);have TB:=HW1.o.ix.qm QQ (λx=>x);have ct:=Oq.cell k uD;have cs:=TB.cell k uD;have ft:=bU Oq.1 k;have fs:=bU TB.1 k;have hTS:=HLt.o;have zwM:T≠S:=λe=>hTS.2.2.2.2.2.2.2.1 e.s;clear K2 K3 L16 L17 zfH;go_wp2_with fail
      repeat(refine qp (λK hK=> ?_);go_simp;(first|refine⟨_,λ_=>rfl,hK _ ?_⟩|refine hK _ ?_);clear hK K)
      refine⟨L18,?_⟩;clear L18;go_wp2_with fail;go_meet
      case rel=>
       have hl2:(l.map (·.1)).length=k:=by rw[aP,HW1.o.len]
       have OA:=(Oq.set k tx).qm ((ah (qJ S) (w3.setCell ⟨T,k,none⟩ (.string tx))).tK k (.int .i64 vr)) (λe=>zwM e);have hS4:=(TB.qm ((ah (qJ T) w3).tK k (.string tx)) (λe=>zwM e.s)).set k vr;rw[zgL _ _ _ uD hl2]at OA;rw[zgL _ _ _ uD HW1.o.zk6]at hS4;have e1:(l++ [(tx,uI k vr tx)]).map (·.1)=l.map (·.1)++ [tx]:=by rw[dK];rfl
       exact⟨tx,uI k vr tx,vr,ag ⟨Hpg.o,rfl,Htl.o⟩,ag (by rw[e1];exact OA),ag hS4,ag ((QQ.yw.setCell (p:=⟨T,k,none⟩) (.inl (.inl rfl)) _).setCell (p:=⟨S,k,none⟩) (.inl (.inr rfl)) _)⟩
     have hus:=λ(W:ax) (K:ak w1 W)=>zjd RN Vq k s1 zv4 (by omega) (by omega) FI W (HR.o.qm (ziX.o.qo K) (λx=>x));have Dv:r=none:=by
      rw[Hvs.o,zbd (k:=k) (by rw[<-Hpk.o,HPg.o,Ad,aV Hn8.o,aV FI]) uD];rfl
     have Hno:=ag Dv;have Hus:=ag hus;clear hus FI Dv;go_wp2_with fail;refine(Hus.o _ K2).m ?_;rintro e w3 ⟨rfl,K3⟩;have L18:ziS B RN X ep w3:=⟨(K3.cell (p:=⟨B,0,none⟩) (Lib.lt_of_cell L17.1) (λx=>x)).t L17.1,(K3.cell (p:=⟨X,1,none⟩) (dH zfH K2.size) (λx=>x)).t L17.2⟩
     go_wp2_with fail
     repeat(refine qp (λK hK=> ?_);go_simp;(first|refine⟨_,λ_=>rfl,hK _ ?_⟩|refine hK _ ?_);clear hK K)
     refine⟨L18,?_⟩;go_wp2_with fail;go_ret;refine⟨?_,(ziX.o.qo (K2.qo K3)).yw⟩;rw[Hno.o];exact⟨rfl,HV.o.qm (ziX.o.qo (K2.qo K3)) (λx=>x)⟩
   case rest=>
   obtain⟨t,m,v,Yz,hTx,hSx,hKx⟩:=hcut;obtain⟨w4,rfl⟩:=aj wc;have hLt:=HLt.o;have Rx:=hKx.o.heap HW1.o.xr (λh=>h.elim (λe=>hLt.2.2.2.2.2.1 e.s) (λe=>hLt.2.2.2.2.2.2.1 e.s));have hO4:=HW1.o.own.qm hKx.o (λb hb h=>by have:=(HW1.o.own.lt b hb).1;rcases h with e|e<;>omega);have K4:ak w w4:=HW1.o.qm.t hKx.o (λb hb h=>by rcases h with e|e<;>omega);have L20:ziR B RN S T k v t w4:=⟨(K4.cell (p:=⟨B,0,none⟩) rE (λx=>x)).t c0,by
    rw[hSx.o.cell k uD,QM _ _ _ _ (by simp[HW1.o.zk6]),QL _ _ _ _ HW1.o.zk6],by
    rw[hTx.o.cell k uD,dK,bH,dh,QM _ _ _ _ (by simp[HW1.o.len]),QL _ _ _ _ (by simp[HW1.o.len])]⟩
   have zzy:∀(W:ax),ak w4 W->ae 64 #[.pointer (some ⟨RN,0,none⟩),.int .i64 k,.int .i64 v,.string t] W (au (.string m) W):=λW K=>by rw[Yz.o.2.1];exact Gm RN k v t Yz.o.2.2 W (HR.o.qm (K4.qo K) (λx=>x))
   have zxz:=ag zzy;have hlS:S<w4.heap.size:=lt_of_heap hSx.o.1;have hlT:T<w4.heap.size:=lt_of_heap hTx.o.1;have l0:∀x:wE (ziR B RN S T k v t),x.w.cell? ⟨B,0,none⟩=some (.pointer (some ⟨RN,0,none⟩)):=λx=>x.h.1;have l1:∀x:wE (ziR B RN S T k v t),x.w.cell? ⟨S,k,none⟩=some (.int .i64 v):=λx=>x.h.2.1;have l2:∀x:wE (ziR B RN S T k v t),x.w.cell? ⟨T,k,none⟩=some (.string t):=λx=>x.h.2.2;have zuf:∀ {W:ax},ak w4 W->ziR B RN S T k v t W:=λK=>⟨(K.cell (p:=⟨B,0,none⟩) (Lib.lt_of_cell L20.1) (λx=>x)).t L20.1,(K.cell (p:=⟨S,k,none⟩) hlS (λx=>x)).t L20.2.1,(K.cell (p:=⟨T,k,none⟩) hlT (λx=>x)).t L20.2.2⟩
   go_wp2_with fail;refine qX (ziR B RN S T k v t) [(true,0),(true,1),(true,2),(true,3),(true,4),(true,5),(true,6),(true,7),(true,8),(true,9),(true,10),(true,11),(false,12),(false,13),(false,14),(false,15)] ?_;simp only[uy,qC,aF,aH,aI]
   repeat(refine qp (λK hK=> ?_);go_simp;(first|refine⟨_,λ_=>rfl,hK _ ?_⟩|refine hK _ ?_);clear hK K)
   clear l0 l1 l2;refine⟨L20,?_⟩;go_wp2_with fail;refine(zxz.o _ (ah qw w4).drew).m ?_;rintro e w5 ⟨rfl,K5⟩;have K5:=(ah qw w4).drew.qo K5;go_wp2_with fail;refine⟨zuf K5,?_⟩;go_wp2_with fail;refine⟨zuf (K5.alloc _),?_⟩;have zf3:=hO4.qm K5 (λ_ _ x=>x);have znd:w4.heap.size<=w5.heap.size:=K5.size;have zoC:base<=w4.heap.size:=bQ HW1.o.big hKx.o.size;have zi8:base<=w5.heap.size:=bQ zoC znd;refine tC _ rfl (.tmp 98) (.tmp 111) 88 rfl base 9 i0 (.string ⟨#[]⟩) 1 16 gu zM Ba D9 D6 rfl (by decide) u11 k (strCells (l.map (·.2))) rfl (zf3.alloc (.cells #[.string m] 9)) ⟨w5.heap.size,0,none⟩ 1 1 [.string m] rfl rfl (zkS w5 m 9) (λu hu=>by obtain rfl:=bJ.1 hu;rfl) (by unfold maxLen;omega) (by omega) (by show base<=(w5.heap.push _).size;rw[dW];omega) ?_;intro lv2 w6 EH hgr;have BA:∀b,u11.ownBlock=some b->base<=b:=λb hb=>(hO4.lt b hb).1;have Vm:Keep (λb=>u11.ownBlock=some b) w4 w6:=((K5.alloc (.cells #[.string m] 9)).yw).grown hgr (λb hb=> .inl hb);have QX:=Vm.heap Rx (λe=>by have:=BA _ e;omega);have hT6:=hTx.o.qm Vm (λe=>by have:=BA _ e;omega);have hS6:=hSx.o.qm Vm (λe=>by have:=BA _ e;omega);have K6:ak w w6:=K4.t Vm (λb hb e=>by have:=BA _ e;omega);have Dx:qF w6 base 9 1 lv2 (k+1) (strCells (l.map (·.2))++strCells [m]):=EH;obtain⟨YR,hp2,hp3⟩:=Yz.o;have zyz:=bQ zoC Vm.size;have hltBase:w.heap.size<base:=by omega
   have L26:ziR B RN S T k v t w6:=⟨(Vm.cell (p:=⟨B,0,none⟩) (Lib.lt_of_cell L20.1) (λe=>by have:=BA _ e;show False;have h8:base<=B:=this;omega)).t L20.1,(Vm.cell (p:=⟨S,k,none⟩) hlS (λe=>by have h8:base<=S:=BA _ e;omega)).t L20.2.1,(Vm.cell (p:=⟨T,k,none⟩) hlT (λe=>by have h8:base<=T:=BA _ e;omega)).t L20.2.2⟩
   have yx:=HW1.o.step YR hp2 hT6 hS6 Dx QX K6 zyz;have Jm:=ag yx;clear yx hT6 hS6 EH Dx QX K6 Vm BA hgr zf3 K5 hO4 Rx K4 L20 zuf zxz hTx hSx hKx Yz YR hp2 hp3;go_wp2_with fail;refine⟨L26,?_⟩;go_wp2_with fail;exact⟨⟨k+1,l++ [(t,m)],sl++ [v],by go_num,by omega,Jm⟩,by simp[intOf];omega⟩
  obtain rfl:k=32:=by omega
  have j1:¬((32:Nat):Int)<32:=by omega
  have ztN:l.length=32:=hW.o.len;have zv1:sl.length=32:=hW.o.zk6;obtain⟨ts,hts⟩:=aj (l.map (·.1));obtain⟨ms,Jl⟩:=aj (l.map (·.2));have zvS:ts.length=32:=by rw[hts,aP,ztN]
  have zd7:ms.length=32:=by rw[Jl,aP,ztN]
  have zf6:∀m∈ms,m.size=16:=by rw[Jl];exact Ri 32 l hW.o.Xr
  have TT:EP V.secret now PV=if vS ms=PV.root then some (ts,ms)else none:=by rw[zbc (by rw[<-Hpk.o];exact hW.o.Xr),hts,Jl]
  have EU:ms=marksOf sl ts:=by rw[Jl,hts];exact hW.o.mks
  have hTr:ES wr T ts:=by have:=hW.o.tx;rwa [show 32-32=0 from rfl,jU,dS,<-hts]at this
  have hSr:Gy wr S sl:=by have:=hW.o.ix;rwa [show 32-32=0 from rfl,jU,dS]at this
  have hOr:qF wr base 9 1 u11 ms.length (strCells ms):=by rw[zd7,Jl];exact hW.o.own
  have hE:NW ms=0:=by rw[NW,bu (y8.2 ⟨zd7,zf6⟩)]
  have Gt:=XP RN u11 ms wr (HR.o.qm hW.o.qm (λx=>x)) (J6 hOr) (by omega);rw[hE]at Gt;obtain⟨rt,hrt⟩:=aj (vS ms);rw[<-hrt]at Gt TT;have hKr:=hW.o.qm;have hXr:=hW.o.xr;have b0:=(hKr.cell (p:=⟨B,0,none⟩) rE (λx=>x)).t c0;have zc1:=ag Gt;have zgm:=ag TT;have HXr:=ag hXr;have HTr:=ag hTr;have HSr:=ag hSr;have Hmk:=ag EU;have HKr:=ag hKr;have Hl:=ag (And.intro zvS (And.intro zd7 zv1));clear Gt TT hXr hTr hSr EU hKr hOr hE hrt hts Jl zvS zd7 zf6 ztN zv1 hW;go_wp2_with fail;refine zc1.o.m ?_;rintro e w4 ⟨rfl,K4⟩;have Rx:=K4.heap HXr.o (λx=>x);have x34:w4.cell? ⟨X,34,none⟩=some (.string PV.root):=by rw[aO _ _ _ _ _ (0,0) Rx,Hcr.o,qG,aF,bT (by simp[Hpl.o]),aN,aP,Hpl.o];rfl
  obtain⟨pr,Rq⟩:=aj PV.root;rw[<-Rq]at x34;by_cases heq:rt=pr
  ·have Heq:=ag heq;have Hpr:=ag Rq;subst heq;clear Rq;have jq:=BO rt;unfold zQ at jq;go_upto_region 25 with(fail)
   obtain⟨ct,Vj⟩:=aj ((ts.map Value.string).toArray);obtain⟨cs,zu⟩:=aj ((sl.map (Value.int .i64)).toArray);have OA:=HTr.o.qm K4 (λx=>x);have hS4:=HSr.o.qm K4 (λx=>x);have L25:zui X T S cr ct cs w4:=⟨Rx,by rw[Vj];exact OA.1,by rw[zu];exact hS4.1⟩
   have zd8:ct.size=32:=by rw[Vj,bZ,aP,Hl.o.1]
   have ziI:cs.size=32:=by rw[zu,bZ,aP,Hl.o.2.2]
   have znw:(prog.info? 67).map (·.size)=some ct.size:=by rw[zd8];exact Wu
   have znx:(prog.info? 68).map (·.size)=some cs.size:=by rw[ziI];exact Wv
   have zf5:ct.all (·.oneCell')=true:=by rw[Vj];exact Ub _
   have zf4:cs.all (·.oneCell')=true:=by rw[zu];exact zeD _
   have hV4:=HV.o.qm (HKr.o.qo K4) (λx=>x);have hdr:(ak w4 w4.drew):=(ah _ _).drew;have zqK:=hV4.qm hdr (λx=>x);have Zr:=Jd (RB:=RN) (D:=D) (C:=C) zqK.lens;have Ro:∀W' V' CU,uS W' B RN D C V' CU->uS (W'.setRow B (vU (rP RN D C V' CU).toArray 4 cr)) B RN D C { V' with now:=PV } CU:=λW' V' CU h=>by rw[Hcr.o];exact h.zh Hpl.o
   have JO:∀W' V' CU,uS W' B RN D C V' CU->uS (W'.setRow B (vU (rP RN D C V' CU).toArray 39 ct)) B RN D C { V' with texts:=ts } CU:=λW' V' CU h=>by rw[Vj];exact h.zgF Hl.o.1
   have hs3:∀W' V' CU,uS W' B RN D C V' CU->uS (W'.setRow B (vU (rP RN D C V' CU).toArray 71 cs)) B RN D C V' sl:=λW' V' CU h=>by rw[zu];exact h.zgG Hl.o.2.2
   have LY:=HLt.o;have zsM:∀W',Keep (qJ B) w4 W'->zui X T S cr ct cs W':=λW' K=>⟨K.heap L25.1 (λe=>by have h9:X=B:=e;have:=hXn.o;omega),K.heap L25.2.1 (λe=>by have h9:T=B:=e;omega),K.heap L25.2.2 (λe=>by have h9:S=B:=e;omega)⟩
   have hlen:∀V' CU,Fa V' CU->(rP RN D C V' CU).toArray.size=104:=λV' CU h=>by rw[bZ,Jd h]
   have zBm:=Gf.o;have Hs1:=ag Ro;have Hs2:=ag JO;have Hs3:=ag hs3;have zlD:=ag znw;have zlE:=ag znx;have Ho1:=ag zf5;have Ho2:=ag zf4;have Hcl:=ag zsM;have yM:=ag hlen;have zxJ:=ag (And.intro zd8 ziI);clear Ro JO hs3 znw znx zf5 zf4 zsM hlen Vj zu OA hS4 zd8 ziI Zr LY zBm x34 jq b0 Rx;refine qX (zui X T S cr ct cs) [(true,0),(true,1),(true,2),(true,3),(true,4),(true,5),(true,6),(true,7),(false,8),(true,9),(true,10),(false,11),(true,12),(true,13),(false,14)] ?_;simp only[uy,qC,aF,aH,aI]
   iterate 3 (refine qp (λK hK=> ?_);go_simp;(first|refine⟨_,λ_=>rfl,hK _ ?_⟩|refine hK _ ?_);clear hK K)
   refine rO (by rfl) 66 (.tmp 7) rfl X 0 rfl 66 cr (0,0) cr _ (λy=>y.h.1) (λj v hv=>by rw[eH];exact hv) dM rfl Gf.o ?_;refine tY ?_;refine rO (by rfl) 67 (.tmp 9) rfl T 0 rfl 67 ct (0,0) ct _ (λy=>y.h.2.1) (λj v hv=>by rw[eH];exact hv) kL rfl zlD.o ?_;refine tY ?_;refine rO (by rfl) 68 (.tmp 10) rfl S 0 rfl 68 cs (0,0) cs _ (λy=>y.h.2.2) (λj v hv=>by rw[eH];exact hv) underlying68 rfl zlE.o ?_;refine tY ?_
   iterate 2 (refine qp (λK hK=> ?_);go_simp;(first|refine⟨_,λ_=>rfl,hK _ ?_⟩|refine hK _ ?_);clear hK K)
   refine⟨L25,?_⟩;refine uG rfl 66 (.tmp 134) (.tmp 130) rfl B 4 70 (rP RN D C V sn).toArray cr rfl rfl zqK.row Gf.o (by rw[yM.o _ _ zqK.lens,Ce];omega) xu ?_;refine qQ (λW'=>uS W' B RN D C { V with now:=PV } sn∧Keep (qJ B) w4 W') ⟨Hs1.o _ _ _ zqK,(ah (qJ B) w4).drew.setRow (g:=B) (.inl rfl) _⟩ ?_;rintro w5 ⟨V5,K5⟩;go_wp2_with fail
   iterate 2 (refine qp (λK hK=> ?_);go_simp;(first|refine⟨_,λ_=>rfl,hK _ ?_⟩|refine hK _ ?_);clear hK K)
   refine⟨Hcl.o _ K5,?_⟩;refine uG rfl 67 (.tmp 136) (.tmp 131) rfl B 39 70 (rP RN D C { V with now:=PV } sn).toArray ct rfl rfl V5.row zlD.o (by rw[yM.o _ _ V5.lens,zxJ.o.1];omega) Ho1.o ?_;refine qQ (λW'=>uS W' B RN D C { V with now:=PV,texts:=ts } sn∧Keep (qJ B) w4 W') ⟨Hs2.o _ _ _ V5,K5.setRow (g:=B) (.inl rfl) _⟩ ?_;rintro w6 ⟨V6,K6⟩;go_wp2_with fail
   iterate 2 (refine qp (λK hK=> ?_);go_simp;(first|refine⟨_,λ_=>rfl,hK _ ?_⟩|refine hK _ ?_);clear hK K)
   refine⟨Hcl.o _ K6,?_⟩;refine uG rfl 68 (.tmp 138) (.tmp 132) rfl B 71 70 (rP RN D C { V with now:=PV,texts:=ts } sn).toArray cs rfl rfl V6.row zlE.o (by rw[yM.o _ _ V6.lens,zxJ.o.2];omega) Ho2.o ?_;refine qQ (λW'=>uS W' B RN D C { V with now:=PV,texts:=ts } sl∧Keep (qJ B) w4 W') ⟨Hs3.o _ _ _ V6,K6.setRow (g:=B) (.inl rfl) _⟩ ?_;rintro w7 ⟨V7,K7⟩;go_wp2_with fail;go_ret;refine⟨?_,((HKr.o.qo K4).yw (S:=qJ B)).then K7⟩;rw[Hvs.o,zgm.o,bu Hpr.o];refine⟨rfl,sl,⟨?_,V7.lens.qx,V7.lens.texts,V7.lens.since⟩,Hmk.o⟩;have h7:=V7.row;rw[show rP RN D C { V with now:=PV,texts:=ts } sl=rP RN D C ⟨V.secret,PV,ts,ms,false⟩ sl by rw[<-hdd];rfl]at h7;exact h7
  have Dv:r=none:=by rw[Hvs.o,zgm.o,aV (λh=>heq (h.t Rq.s))];rfl
  have jq:=CJ heq;unfold zQ at jq;have Hno:=ag Dv;clear Dv Rq heq;go_wp2_with fail;go_ret;refine⟨?_,(HKr.o.qo K4).yw⟩;rw[Hno.o];exact⟨rfl,HV.o.qm (HKr.o.qo K4) (λx=>x)⟩
def EZ(secret:af):qI:=⟨secret,sZ,List.replicate 32 ⟨#[]⟩,[],false⟩
def XE(secret:af):Fa (EZ secret) (List.replicate 32 0):=⟨rfl,rfl,rfl⟩
def zgO{α:Type}(n:Nat)(a d:α)(j:Nat)(h:j<n):(List.replicate n a).getD j d=a:=by rw[aG,jP,bu h];rfl
def zid(secret:af):(yS secret).marks=marksOf (List.replicate 32 0) (yS secret).texts:=by show(List.range 32).map (λ(i:Nat)=>uI (i:Int) 0 ⟨#[]⟩)=(List.range 32).map _;refine gU λj hj=> ?_;have hj:j<32:=iJ.1 hj;have h1:(List.replicate 32 (0:Int)).getD j 0=0:=zgO _ _ _ _ hj;have h2:(yS secret).texts.getD j ⟨#[]⟩=⟨#[]⟩:=zgO 32 (⟨#[]⟩:af) ⟨#[]⟩ j hj;rw[h1,h2]
def zqe(RN D C:Nat)(secret:af):prog.built 70 [(0,.pointer (some ⟨RN,0,none⟩)),(1,.pointer (some ⟨D,0,none⟩)),(2,.pointer (some ⟨C,0,none⟩)),(3,.string secret)]=some (rP RN D C (EZ secret) (List.replicate 32 0)).toArray:=by kernel_rfl
def QU(w:ax)(C:Nat)(n:Int):Prop:=w.heap[C]? =some (.cells #[.int .i64 n] 3 (0,0))
def QU.cell(h:QU w C n):w.cell? ⟨C,0,none⟩=some (.int .i64 n):=by rw[aO _ _ _ _ _ (0,0) h];rfl
def QU.qm(h:QU w C n){S:Nat->Prop}(hk:Keep S w w')(hn:¬S C):QU w' C n:=hk.heap h hn
def uS.zvC{W:qI}(h:uS w B RN D C V sn)(h1:V.secret=W.secret)(h2:V.now=W.now)(h3:V.texts=W.texts)(h4:V.dead=W.dead):uS w B RN D C W sn:=by
 refine⟨?_,by rw[<-h2];exact h.lens.qx,by rw[<-h3];exact h.lens.texts,h.lens.since⟩;have e:rP RN D C W sn=rP RN D C V sn:=by unfold rP;rw[h1,h2,h3,h4]
 rw[e];exact h.row
def uS.fresh{secret:af}(h:uS w B RN D C { EZ secret with now:=⟨0,1,List.replicate 32 false,⟨#[]⟩⟩ } (List.replicate 32 0)):uS w B RN D C (yS secret) (List.replicate 32 0):=uS.zvC (W:=yS secret) h rfl rfl rfl rfl
def zhI{secret:af}{n:Nat}(hi:xR secret V (sQ qy wait) n)(hd:xC w D sv av tv qy wait qR)(hc:QU w C n)(hs:secret.size=16)(RR:D7 w RN)(hn:n<900000):
  ae 37 #[.pointer (some ⟨RN,0,none⟩),.pointer (some ⟨D,0,none⟩),.pointer (some ⟨C,0,none⟩),.string secret] w λe w'=>(∃B sn,e= .returned (.tuple #[.pointer (some ⟨B,0,none⟩),.int .i64 0])∧w.heap.size<=B∧uS w' B RN D C V sn∧V.marks=marksOf sn V.texts)∧ak w w':=by
 have EU:=λw=>JD secret w;rw[show decide (secret.size=16)=true by rw[hs];rfl]at EU;obtain⟨cv,NT⟩:=aj ((rP RN D C (EZ secret) (List.replicate 32 0)).toArray);have hbv:=zqe RN D C secret;obtain⟨cs,zu⟩:=aj ((qG ⟨0,1,List.replicate 32 false,⟨#[]⟩⟩).toArray);have hbs:=Yq;rw[<-zu]at hbs;rw[<-NT]at hbv;have zw6:C<w.heap.size:=lt_of_heap hc;have zwt:∀b,RB D sv av tv b->b<w.heap.size:=xC.lt (r:=(qy,wait,qR)) hd;have znt:RN<w.heap.size:=RR.lt;have Hmk:=ag EU;have Hbv:=ag hbv;have Hcv:=ag NT;have Hbs:=ag hbs;have Hcs:=ag zu;have Hd:=ag hd;have Hc:=ag hc;have HR:=ag RR;have Hi:=ag hi;have zxI:=ag zwt;clear EU hbv NT hbs zu hd hc RR hi zwt;go_enter func37,ntmps37;go_wp2_with fail;refine(Hmk.o _).m ?_;rintro e w1 ⟨rfl,hw⟩;subst w1;go_upto_region 3 with(fail)
 go_upto_region 4 with(refine qZ rfl 70 #[(0,.tmp 22),(1,.tmp 23),(2,.tmp 24),(3,.tmp 25)] rfl cv (by simp only[fH,bH,dh,fD];refine Eq.t (dB (λl=>prog.built 70 l) ?_) Hbv.o;rfl) ?_)
 obtain⟨B,hB⟩:=aj w.heap.size;have hV1:uS (w.alloc (.cells cv 70)) B RN D C (EZ secret) (List.replicate 32 0):=⟨by rw[hB,<-Hcv.o];exact aQ w _,XE _⟩
 have K1:ak w (w.alloc (.cells cv 70)):=(ah _ _).alloc _;obtain⟨w1,vF⟩:=aj (w.alloc (.cells cv 70));rw[<-vF]at hV1 K1⊢;rw[<-hB];obtain⟨n1,zzG⟩:=aj (n+1);have OC:IntKind.i64.wrap ((n:Int)+1)=(n1:Int):=by rw[aY _ (by omega)];omega
 have HB:=ag hB;clear vF hB;have Bc:∀b,RB D sv av tv b->b≠B:=λb hb e=>by have:=zxI.o b hb;have:=HB.o;omega
 have hwh:=UO hV1 (Hd.o.qm K1 (λ_ _ x=>x)) Hi.o.bsz (by show secret.size<=1000;omega) rfl (HR.o.qm K1 (λx=>x)) n1 (by omega) Bc (by have:=HB.o;omega);have Dv:xX (EZ secret).secret (sQ qy wait) (n1:Int)=none:=zgY Hi.o _ (by omega);rw[Dv]at hwh;have Hwh:=ag hwh;have cc:=(Hc.o.qm K1 (λx=>x)).cell;clear hwh Dv Bc zzG;go_wp2_with fail;refine Hwh.o.m ?_;rintro e w2 ⟨⟨rfl,hV2⟩,K2⟩;have FB:ak w w2:=K1.t K2 (λb hb e=>by have h9:b=B:=e;have:=HB.o;omega);have cc2:=(Hc.o.qm FB (λx=>x)).cell;have HV2:=ag hV2;have zq0:=ag FB;clear K1 K2 hV1 hV2 Hwh cc OC;by_cases h0:n=0
 ·have hfr:=Hi.o.fresh h0;have e0:((n:Int)==0)=true:=by simpa using h0
  have Hfr:=ag hfr;clear h0 hfr;go_upto_region 8 with(fail)
  have hV2:=HV2.o;have Ce:cs.size=35:=by rw[Hcs.o,bZ];exact uk _ rfl
  have QP:(prog.info? 66).map (·.size)=some cs.size:=by rw[Ce];exact sK
  have xu:cs.all (·.oneCell')=true:=by rw[Hcs.o];exact sU _
  have Zr:4+cs.size<=(rP RN D C (EZ secret) (List.replicate 32 0)).toArray.size:=by rw[Ce,bZ,Jd (XE _)];omega
  have hsn:∀W',uS W' B RN D C (EZ secret) (List.replicate 32 0)->uS (W'.setRow B (vU (rP RN D C (EZ secret) (List.replicate 32 0)).toArray 4 cs)) B RN D C { EZ secret with now:=⟨0,1,List.replicate 32 false,⟨#[]⟩⟩ } (List.replicate 32 0):=λW' h=>by rw[Hcs.o];exact h.zh rfl
  have Hsn:=ag hsn;have Gf:=ag QP;have zfQ:=ag xu;have Hbl:=ag Zr;clear hsn QP xu Zr Ce;go_wp2_with (first|(refine qZ rfl 66 #[(1,.const (.int .i64 1))] rfl cs (by simp only[fH,bH,dh,fD];exact Hbs.o) ?_)|(refine uG rfl 66 (.tmp 47) (.tmp 45) rfl B 4 70 (rP RN D C (EZ secret) (List.replicate 32 0)).toArray cs rfl rfl hV2.row Gf.o Hbl.o zfQ.o ?_;refine qQ (λW'=>uS W' B RN D C { EZ secret with now:=⟨0,1,List.replicate 32 false,⟨#[]⟩⟩ } (List.replicate 32 0)∧Keep (qJ B) w2 W') ⟨Hsn.o _ hV2,(ah (qJ B) w2).setRow (g:=B) (.inl rfl) _⟩ ?_;rintro w3 ⟨hV3,K3⟩))
  go_ret2
  have hfr:=Hfr.o;have hBw:=HB.o;have hv4:uS w3 B RN D C (yS secret) (List.replicate 32 0):=hV3.fresh;refine⟨⟨B,rfl,by omega,List.replicate 32 0,?_,?_⟩,zq0.o.t K3 (λb hb e=>by have h9:b=B:=e;omega)⟩
  ·rw[hfr];exact hv4
  rw[hfr];exact zid secret
 ·have e0:((n:Int)==0)=false:=by simpa using h0
  have NU:=zop Hi.o (by omega);have Bc:∀b,RB D sv av tv b->b≠B:=λb hb e=>by have:=zxI.o b hb;have:=HB.o;omega
  have hwh:=UO HV2.o (Hd.o.qm zq0.o (λ_ _ x=>x)) Hi.o.bsz (by show secret.size<=1000;omega) rfl (HR.o.qm zq0.o (λx=>x)) n (by omega) Bc (by have:=HB.o;omega);rw[show xX (EZ secret).secret (sQ qy wait) (n:Int)=some V from NU]at hwh;have Hwh:=ag hwh;clear NU Bc hwh h0;go_wp2_with fail;refine Hwh.o.m ?_;rintro e w3 ⟨⟨rfl,sn,hV3,hm⟩,K3⟩;go_wp2_with fail
  go_ret2
  exact⟨⟨B,sn,rfl,by have:=HB.o;omega,hV3,hm⟩,zq0.o.t K3 (λb hb e=>by have h9:b=B:=e;have:=HB.o;omega)⟩
def Jv(VB B D AT SB:Nat)(at_:Int)(s:af)(w:ax):Prop:=w.cell? ⟨VB,0,none⟩=some (.pointer (some ⟨B,0,none⟩))∧w.cell? ⟨B,1,none⟩=some (.pointer (some ⟨D,0,none⟩))∧w.cell? ⟨AT,0,none⟩=some (.int .i64 at_)∧w.cell? ⟨SB,0,none⟩=some (.string s)
def zl3{VB AT SB:Nat}{s:af}(h:Jv VB B D AT SB k s w)(hw:ae 63 #[.pointer (some ⟨D,0,none⟩),.int .i64 k,.string s] w.drew λe w'=>e= .returned (.int .i64 0)∧R w')(hR:∀w',R w'->Jv VB B D AT SB k s w'):
  ae 62 #[.pointer (some ⟨VB,0,none⟩),.pointer (some ⟨AT,0,none⟩),.pointer (some ⟨SB,0,none⟩)] w λe w'=>e= .returned (.int .i64 0)∧R w':=by
 have l0:∀x:wE (Jv VB B D AT SB k s),x.w.cell? ⟨VB,0,none⟩=some (.pointer (some ⟨B,0,none⟩)):=λx=>x.h.1;have l1:∀x:wE (Jv VB B D AT SB k s),x.w.cell? ⟨B,1,none⟩=some (.pointer (some ⟨D,0,none⟩)):=λx=>x.h.2.1;have l2:∀x:wE (Jv VB B D AT SB k s),x.w.cell? ⟨AT,0,none⟩=some (.int .i64 k):=λx=>x.h.2.2.1;have l3:∀x:wE (Jv VB B D AT SB k s),x.w.cell? ⟨SB,0,none⟩=some (.string s):=λx=>x.h.2.2.2;have Hw:=ag hw;clear hw;go_enter func62,ntmps62;go_wp2_with fail;refine qX (Jv VB B D AT SB k s) [(true,0),(true,1),(true,2),(true,3),(true,4),(true,5),(false,6),(false,7)] ?_;simp only[uy,qC,aF,aH,aI]
 repeat(refine qp (λK hK=> ?_);go_simp;(first|refine⟨_,λ_=>rfl,hK _ ?_⟩|refine hK _ ?_);clear hK K)
 clear l0 l1 l2 l3;refine⟨h,?_⟩;go_wp2_with fail;refine Hw.o.m ?_;rintro e w1 ⟨rfl,h1⟩;have H1:=ag h1;have c1:=hR w1 h1;clear h1 h;go_wp2_with fail;refine⟨c1,?_⟩;clear c1 hR;go_wp2_with fail;go_ret;exact⟨rfl,H1.o⟩
def MN(VB B D XB SB:Nat)(c:Int)(s:af)(w:ax):Prop:=w.cell? ⟨VB,0,none⟩=some (.pointer (some ⟨B,0,none⟩))∧w.cell? ⟨B,1,none⟩=some (.pointer (some ⟨D,0,none⟩))∧w.cell? ⟨XB,0,none⟩=some (.int .i64 c)∧w.cell? ⟨SB,0,none⟩=some (.string s)
def zl2{VB XB SB:Nat}{c:Int}{s:af}(h:MN VB B D XB SB c s w)(hk:Int.tmod c 2=k)(hw:ae 63 #[.pointer (some ⟨D,0,none⟩),.int .i64 k,.string s] w.drew λe w'=>e= .returned (.int .i64 0)∧R w')(hR:∀w',R w'->MN VB B D XB SB c s w'):
  ae 69 #[.pointer (some ⟨VB,0,none⟩),.pointer (some ⟨XB,0,none⟩),.pointer (some ⟨SB,0,none⟩)] w λe w'=>e= .returned (.int .i64 0)∧R w':=by
 have l0:∀x:wE (MN VB B D XB SB c s),x.w.cell? ⟨VB,0,none⟩=some (.pointer (some ⟨B,0,none⟩)):=λx=>x.h.1;have l1:∀x:wE (MN VB B D XB SB c s),x.w.cell? ⟨B,1,none⟩=some (.pointer (some ⟨D,0,none⟩)):=λx=>x.h.2.1;have l2:∀x:wE (MN VB B D XB SB c s),x.w.cell? ⟨XB,0,none⟩=some (.int .i64 c):=λx=>x.h.2.2.1;have l3:∀x:wE (MN VB B D XB SB c s),x.w.cell? ⟨SB,0,none⟩=some (.string s):=λx=>x.h.2.2.2;have Hw:=ag hw;clear hw;go_enter func69,ntmps69;go_wp2_with fail;refine qX (MN VB B D XB SB c s) [(true,0),(true,1),(true,2),(true,3),(true,4),(true,5),(true,6),(true,7),(false,8),(false,9)] ?_;simp only[uy,qC,aF,aH,aI]
 repeat(refine qp (λK hK=> ?_);go_simp;(first|refine⟨_,λ_=>rfl,hK _ ?_⟩|refine hK _ ?_);clear hK K)
 clear l0 l1 l2 l3;refine⟨h,?_⟩;go_wp2_with fail;refine Hw.o.m ?_;rintro e w1 ⟨rfl,h1⟩;have H1:=ag h1;have c1:=hR w1 h1;clear h1 h;go_wp2_with fail;refine⟨c1,?_⟩;clear c1 hR;go_wp2_with fail;go_ret;exact⟨rfl,H1.o⟩
def Nj{E g:Nat}{bd lb:Array ay}(hE:w.heap[E]? =some (.cells #[.int .i64 0] 34 (0,0)))(eg:∀args w,(callFunc g args).run prog w= .ok (.enter g args) w)(hc:ae g (bd++ #[]++lb) w λe w'=>e= .returned (.int .i64 0)∧R w')(hR:∀w',R w'->w'.heap[E]? =some (.cells #[.int .i64 0] 34 (0,0))):
  ae 59 #[.func (.func g) bd lb,.pointer (some ⟨E,0,none⟩)] w λe w'=>e= .returned (.tuple #[])∧∃w1,R w1∧w'=w1.setCell ⟨E,0,none⟩ (.int .i64 0):=by
 have ce:w.cell? ⟨E,0,none⟩=some (.int .i64 0):=by rw[aO _ _ _ _ _ (0,0) hE];rfl
 have Hc:=ag hc;have HR:=ag hR;clear hc hR hE;go_enter func59,ntmps59;go_wp2_with fail;refine Hc.o.m ?_;rintro e w1 ⟨rfl,h1⟩;have hE1:=HR.o w1 h1;have ce1:w1.cell? ⟨E,0,none⟩=some (.int .i64 0):=by rw[aO _ _ _ _ _ (0,0) hE1];rfl
 have fe1:=bU hE1 0;have H1:=ag h1;clear h1 hE1 HR Hc ce;go_wp2_with fail;refine bodyPost_end (lQ (by rfl) _ _ _) (by rfl) ?_;exact⟨rfl,w1,H1.o,rfl⟩
def zpU(M:List Entry)(k:Int):Maps.has (JW M) (.int .i64 k)=(getM M k).isSome:=by
 rw[JW,qg,getM]
 induction M with
 | nil=>rfl
 | cons p M ih=>
  have e:(Vz p).1.sameKey (.int .i64 k)=(p.1==k):=by
   show decide (IntKind.i64=IntKind.i64∧p.1=k)=_;by_cases h:p.1=k
   ·rw[bF ⟨rfl,h⟩,h];exact(fF _).s
   rw[cO (λx=>h x.2)];exact(eu.2 h).s
  rw[bH,List.any_cons,eP,e];cases p.1==k with
  | true=>rfl
  | false=>exact ih
def yB.znL{n:Nat}(h:yB w mb n M)(k:Int)(hk:(Lit.int .i64 k).wf=true):(Instr.lookup 130 (.map (some mb)) (.int .i64 k) true).run prog w= .ok (.tuple #[.string ((getM M k).getD ⟨#[]⟩),.bool (getM M k).isSome]) w:=by
 have hz:(zeroValue 9).run prog w= .ok (.string ⟨#[]⟩) w:=VO w;have hu:=bK;obtain⟨v,ps,G7,hv⟩:=World.ownsMap.look_ok h zdY iZ hz (zd:= .lit (.string [])) (zp:= []) (by simp[plainElem,hu,show(ByteArray.mk #[]).size<=maxLen from by decide]) (key:= .int .i64 k) (kl:= .int .i64 k) (mP fG hk);obtain⟨c,rfl,hc⟩:=Ji hv;rw[zpU]at G7;rw[WM]at hc
 have:(getM M k).getD ⟨#[]⟩=c:=by
  cases hg:getM M k with
  | none=>
   rw[hg]at hc;have h3:([]:List UInt8)=c.data.toList:=by simpa using hc
   exact jk (iR.1 h3)
  | some s=>
   rw[hg]at hc;have h3:s.data.toList=c.data.toList:=by simpa using hc
   exact jk (iR.1 h3)
 rw[G7,this]
def D8.znL{n:Nat}(h:D8 w mo n M)(k:Int)(hk:(Lit.int .i64 k).wf=true):(Instr.lookup 130 (.map mo) (.int .i64 k) true).run prog w= .ok (.tuple #[.string ((getM M k).getD ⟨#[]⟩),.bool (getM M k).isSome]) w:=by
 cases mo with
 | none=>
  have h:M= []:=h;subst h;have hz:(zeroValue 9).run prog w= .ok (.string ⟨#[]⟩) w:=VO w;have h1:(Instr.checkKey true (9999+1) 3 (.int .i64 k)).run prog w= .ok () w:=by unfold Instr.checkKey;simp[fU fG]
  have h2:(Instr.findKey 3 (.int .i64 k) []).run prog w= .ok none w:=by unfold Instr.findKey;simp[fU fG,Instr.findNow]
  have h1:(Instr.checkKey true 10000 3 (.int .i64 k)).run prog w= .ok () w:=h1;simp[Instr.lookup,hz,getM,fU iZ,h1,h2]
 | some mb=>exact yB.znL h k hk
def Xx(T:List af)(o:Nat->Bool)(f:Nat->Option af):∀n,(∀k,k<n->f k=if o k then some (T.getD k ⟨#[]⟩)else none)->uK f n=((List.range n).filter o).map λi=>(i,T.getD i ⟨#[]⟩)
 | 0,_=>rfl
 | n+1,h=>by
  rw[uK,Xx T o f n (λk hk=>h k (by omega)),h n (by omega),lH,nZ,dK]
  congr 1
  cases hn:o n<;>simp[hn]
def zeX(h:l.Pairwise λa b=>a<=b):EK l=l:=by unfold EK;exact List.mergeSort_of_pairwise (h.imp λh=>bF h)
def Xy(T:List af)(o:Entry->Bool)(f:Nat->Option af)(hf:∀k,k<32->f k=if o ((k:Int),T.getD k ⟨#[]⟩)then some (T.getD k ⟨#[]⟩)else none):uK f 32=uf (ug T 32) o:=by
 rw[Xx T (λ(k:Nat)=>o ((k:Int),T.getD k ⟨#[]⟩)) f 32 hf,uf];have e:((ug T 32).filter o).map (·.1)=((List.range 32).filter (λ(k:Nat)=>o ((k:Int),T.getD k ⟨#[]⟩))).map (λ(k:Nat)=>(k:Int)):=by rw[ug,mM,iy];rfl
 have hs:(((List.range 32).filter (λ(k:Nat)=>o ((k:Int),T.getD k ⟨#[]⟩))).map (λ(k:Nat)=>(k:Int))).Pairwise λa b=>a<=b:=by
  rw[fE];refine(List.Pairwise.filter _ List.pairwise_lt_range).imp fun {a b} h=> ?_
  omega
 rw[e,zeX hs,iy];refine gU λk hk=> ?_;have hk:k<32:=iJ.1 (gy.1 hk).1;show _=((k:Int).toNat,(getM (ug T 32) (k:Int)).getD ⟨#[]⟩)
 rw[Dj (xA T 32) (Fp.2 ⟨k,hk,rfl⟩)];rfl
