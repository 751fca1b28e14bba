import Derived.Test.YtopbkdebihcmcaaGreatDoorYBB
import Derived.Test.YtopbkdebihcmcaaGreatDoorYBL
import Derived.Test.YtopbkdebihcmcaaGreatDoorYBM
set_option linter.unusedSimpArgs false
set_option linter.unusedVariables false
namespace Go.Proofs.YtopbkdebihcmcaaGreatDoor
open Go.RowKit
set_option maxRecDepth 100000
set_option maxHeartbeats 16000000
def Ut(p:Entry):Bool:=decide (p.1<0)||decide (32<=p.1)
def Ol(p:Entry):Bool:=decide (200<p.2.size)
def Dv(p:Entry):Bool:=Ut p||Ol p
def qE(M:List Entry)(o:Entry->Bool):List (Nat×af):=(Aj ((M.filter o).map (·.1))).map λk=>(k.toNat,(getM M k).getD ⟨#[]⟩)
theorem zbv{a b:List Int}(h:a.Perm b):Aj a=Aj b:=by
 have hle:∀l:List Int,(Aj l).Pairwise (λx y=>x<=y):=λl=>by have:=lI (le:=λx y:Int=>decide (x<=y)) (λa b c h1 h2=>by simp only[aS]at*;omega) (λa b=>by simp only[dP,aS];omega) l;exact this.imp λh=>by simpa using h
 have hp:(Aj a).Perm (Aj b):=(gp a _).trans (h.trans (gp b _).symm);exact hp.eq_of_pairwise (λx y _ _ h1 h2=>by omega) (hle a) (hle b)
theorem Z7{M:List Entry}{o:Entry->Bool}{L:List Int}(h:L.Perm ((M.filter o).map (·.1))):(qE M o).length=L.length:=by rw[qE,aI,Aj,kz,<-h.length_eq]
theorem Dk{M:List Entry}{o:Entry->Bool}(hp:M.Pairwise (λp q=>p.1≠q.1))(hg:∀p∈M,Dv p=false):∀q∈qE M o,((q.1:Nat):Int)∈(M.filter o).map (·.1)∧getM M (q.1:Int)=some q.2∧q.1<32∧q.2.size<=200:=by
 intro q hq;obtain⟨k,hk,rfl⟩:=bf.1 hq;have hk2:k∈(M.filter o).map (·.1):=(gp _ _).mem_iff.1 hk;obtain⟨p,hpm,rfl⟩:=bf.1 hk2;have hpM:=(fJ.1 hpm).1;have hb:=hg p hpM;simp only[Dv,Ut,Ol,jH,gJ]at hb;have hget:=AL hp (k:=p.1) (s:=p.2) hpM;have e1:((p.1.toNat:Nat):Int)=p.1:=by omega
 simp only[e1,hget,kT];exact⟨hk2,by first|rfl|trivial,by omega,by omega⟩
theorem OY{M:List Entry}{o:Entry->Bool}(hg:∀p∈M,Dv p=false):(qE M o).map (λp=>(p.1:Int))=Aj ((M.filter o).map (·.1)):=by
 rw[qE,fU]
 conv=>rhs;rw[<-List.map_id (Aj ((M.filter o).map (·.1)))]
 apply iP;intro k hk;have hk2:k∈(M.filter o).map (·.1):=(gp _ _).mem_iff.1 hk;obtain⟨p,hpm,rfl⟩:=bf.1 hk2;have hb:=hg p (fJ.1 hpm).1;simp only[Dv,Ut,Ol,jH,gJ]at hb;simp only[Function.comp,id];omega
theorem zb8{w w':World}(h:Keep nM w w')(row:Option Nat):w.grownBy w' row:=⟨h.os,h.tape,h.output,h.size,λi hi _=>h.block i hi (λx=>x)⟩
theorem size_set(w:World)(b i:Nat)(v:Value):(w.setCell ⟨b,i,none⟩ v).heap.size=w.heap.size:=by show(w.heap.modify b _).size=_;exact Array.size_modify ..
theorem zhd:∃i,Tryz.prog.info? 3=some i∧i.zero=some (.int .i64 0)∧i.size=1∧i.bytes=8:=by
 have h:(Tryz.prog.info? 3).map (λi=>(i.zero,i.size,i.bytes))=some (some (.int .i64 0),1,8):=by kernel_rfl
 cases hi:Tryz.prog.info? 3 with
 | none=>rw[hi]at h;cases h
 | some i=>
  rw[hi]at h;simp only[eQ,eU,iE]at h;exact⟨i,rfl,h.1,h.2.1,h.2.2⟩
theorem VC{w:World}{base:Nat}{e:TypeId}{size:Nat}{v:Value}{n:Nat}{xs:List Value}(h:w.ownsRow base e size v n xs):∃p c,v= .slice p n c:=by
 rcases h.2 with⟨h,hn⟩|⟨_,_,_,h,_⟩
 ·exact⟨none,0,by rw[h,hn]⟩
 ·exact⟨_,_,h⟩
theorem qV.zgL{w:World}{X:Nat}{x:rC}(h:qV w X x)(n:Int):qV (w.setCell ⟨X,0,none⟩ (.int .i64 n)) X { x with count:=n } :=by refine⟨?_,h.2⟩;rw[oM h.1];rfl
theorem qV.zgK{w:World}{X:Nat}{x:rC}(h:qV w X x)(n:Int):qV (w.setCell ⟨X,1,none⟩ (.int .i64 n)) X { x with nP:=n } :=by refine⟨?_,h.2⟩;rw[oM h.1];rfl
theorem qV.nP{w:World}{X:Nat}{x:rC}(h:qV w X x):w.cell? ⟨X,1,none⟩=some (.int .i64 x.nP):=by rw[aO _ _ _ _ _ (0,0) h.1];rfl
theorem zdw(w:World):(zeroValue 9).run Tryz.prog w= .ok (.string ⟨#[]⟩) w:=by
 have h:(Tryz.prog.info? 9).map (·.zero)=some (some (.string ⟨#[]⟩)):=by kernel_rfl
 cases hi:Tryz.prog.info? 9 with
 | none=>rw[hi]at h;cases h
 | some i=>
  rw[hi]at h;have hz:=aH h;simp only at hz;simp only[zeroValue,typeInfo];simp[hi,hz]
theorem yl.look{w:World}{mb n:Nat}{M:List Entry}(h:yl w mb n M):∃o:Obj,w.heap[mb]? =some o∧∀w':World,w'.heap[mb]? =some o->∀(k:Int) (s:af),(Lit.int .i64 k).wf=true->getM M k=some s->(Instr.lookup 169 (.map (some mb)) (.int .i64 k) false).run Tryz.prog w'= .ok (.string s) w':=by
 obtain⟨es,clock,hb,F,hs,hD⟩:=h;refine⟨_,hb,λw' hb' k s hk hg=> ?_⟩;have h':yl w' mb n M:=⟨es,clock,hb',F,hs,hD⟩
 have hz:(zeroValue 9).run Tryz.prog w'= .ok (.string ⟨#[]⟩) w':=zdw w';have hu:=Tryz.underlying9;obtain⟨v,ps,hrun,hv⟩:=World.ownsMap.lookup h' zaO Tryz.underlying169 hz (zd:= .lit (.string [])) (zp:= []) (by simp[plainElem,hu,show(ByteArray.mk #[]).size<=maxLen from by decide]) (key:= .int .i64 k) (kl:= .int .i64 k) (Maps.keyOf_int_mk Tryz.underlying3 hk);obtain⟨c,rfl,hc⟩:=GX hv;rw[Wp,hg]at hc
 have:s=c:=by
  have h3:s.data.toList=c.data.toList:=by simpa using hc
  exact iD (gU.1 h3)
 rw[hrun,this]
theorem DR.look{w:World}{mo:Option Nat}{n:Nat}{M:List Entry}(h:DR w mo n M):∃o:Obj,HasMap mo o w∧∀w':World,HasMap mo o w'->∀(k:Int) (s:af),(Lit.int .i64 k).wf=true->getM M k=some s->(Instr.lookup 169 (.map mo) (.int .i64 k) false).run Tryz.prog w'= .ok (.string s) w':=by
 cases mo with
 | none=>
  have h:M= []:=h;exact⟨.map #[] 0,(λb hb=>(by cases hb)),(λw' _ k s _ hg=>(by rw[h]at hg;cases hg))⟩
 | some mb=>
  obtain⟨o,h1,h2⟩:=yl.look h;exact⟨o,(λb hb=>(by cases hb;exact h1)),(λw' hw' k s hk hg=>h2 w' (hw' mb rfl) k s hk hg)⟩
theorem zg3{w:World}{b:Nat}{v:Value}{n:Nat}{l:List Int}(h:w.ownsRow b 3 1 v n (l.map (Value.int .i64)))(hn:n=l.length):Nums w v l:=by
 obtain⟨hl,h⟩:=h;rcases h with⟨hv,h0⟩|⟨g,cap,cur,hv,_,hg,hc,_,hs,ht⟩
 ·refine .inl ⟨List.length_eq_zero_iff.1 (by omega),none,0,by rw[hv]⟩
 ·refine .inr ⟨g,0,cap,by rw[hv,hn],lt_of_heap hg,λi hi=> ?_⟩;rw[dM,aO _ _ i _ _ (0,0) hg,<-iU];have h1:=dK (λx=>x[i]?) ht;simp only[ng]at h1;rw[List.getElem?_take_of_lt (by omega),bC]at h1;rw[h1];simp[ax,hi]
theorem wJ{w:World}{D S:Nat}{wv:Value}{d:pG}(hd:qi w D S wv d):∀b,qg D S wv b->∃c t f,w.heap[b]? =some (.cells c t f)∧(t=64∨t=9∨t=172):=by
 rintro b (rfl|rfl|hb)
 ·obtain⟨c,h2,_⟩:=hd.head;exact⟨_,_,_,h2,.inl rfl⟩
 ·obtain⟨c,h2,_⟩:=hd.row;exact⟨_,_,_,h2,.inr (.inl rfl)⟩
 ·rcases hd.waits.2 with⟨hv,_⟩|⟨g,cap,cur,fz,hv,_,hg,_⟩
  ·rw[hv]at hb;cases hb
  ·rw[hv]at hb;obtain rfl:g=b:=aH hb;exact⟨_,_,_,hg,.inr (.inr rfl)⟩
theorem Xn{w:World}{D S:Nat}{wv:Value}{d:pG}(hd:qi w D S wv d):∀b,qg D S wv b->b<w.heap.size:=λb hb=>by obtain⟨c,t,f,h,_⟩:=wJ hd b hb;exact lt_of_heap h
theorem yP{w:World}{D S C:Nat}{wv:Value}{d:pG}{n:Int}(hd:qi w D S wv d)(hc:oL w C n):¬qg D S wv C:=λhb=>by obtain⟨c,t,f,h,ht⟩:=wJ hd C hb;rw[hc]at h;have:=aH h;simp only[lu]at this;rw[<-this.2.1]at ht;exact absurd ht (by decide)
theorem GG{w:World}{B D C:Nat}{V:nT}{n:Int}(h:og w B D C V)(hc:oL w C n):C≠B:=λe=>by have h1:=h.row;rw[<-e,hc]at h1;have:=aH h1;simp only[lu]at this;exact absurd this.2.1 (by decide)
theorem Xv{secret:af}{x0:rC}{marks:List af}{d:pG}{W:List (Nat×af)} :(qR secret x0 marks d W).x.count=x0.count:=by
 unfold qR;simp only[]
 repeat' split
 all_goals rfl
def Vb(VB B C XB:Nat)(pg:Int)(w:World):Prop:=w.cell? ⟨VB,0,none⟩=some (.pointer (some ⟨B,0,none⟩))∧w.cell? ⟨B,1,none⟩=some (.pointer (some ⟨C,0,none⟩))∧w.cell? ⟨XB,0,none⟩=some (.int .i64 pg)
def zcB(VB B XB KB:Nat)(cx ck:Array Value)(w:World):Prop:=w.cell? ⟨VB,0,none⟩=some (.pointer (some ⟨B,0,none⟩))∧w.heap[XB]? =some (.cells cx 134 (0,0))∧w.heap[KB]? =some (.cells ck 135 (0,0))
def YE(VB MB B:Nat)(mo:Option Nat)(ob:Obj)(w:World):Prop:=w.cell? ⟨VB,0,none⟩=some (.pointer (some ⟨B,0,none⟩))∧w.cell? ⟨MB,0,none⟩=some (.map mo)∧HasMap mo ob w
theorem UN(T:List af)(W:List (Nat×af))(k:Nat)(p:Nat×af)(h:W[k]? =some p):vI T (W.take (k+1))=(vI T (W.take k)).set p.1 p.2:=by have hk:=aN.1 h;rw[aT hk.1,hk.2];unfold vI;rw[jK];rfl
theorem Vl{V:nT}{d:pG}{n nP:Int}{W:List (Nat×af)}{t:Va}(ht:t=qR V.secret ⟨V.now.count+1,nP,V.now.sides,V.now.root⟩ V.marks d W)(h:t.err≠0):sO V d n nP W=⟨t.err,QD V,t.dev,n⟩:=by unfold sO;simp only[<-ht];rw[aP h]
theorem zbj{V:nT}{d:pG}{n nP:Int}{W:List (Nat×af)}{t:Va}(ht:t=qR V.secret ⟨V.now.count+1,nP,V.now.sides,V.now.root⟩ V.marks d W)(h:t.err=0)(hn:V.now.count+1<=n):sO V d n nP W=⟨10,QD V,t.dev,n⟩:=by unfold sO;simp only[<-ht];rw[aB (λx=>x h),aP hn]
theorem YR{V:nT}{d:pG}{n nP:Int}{W:List (Nat×af)}{t:Va}(ht:t=qR V.secret ⟨V.now.count+1,nP,V.now.sides,V.now.root⟩ V.marks d W)(h:t.err=0)(hn:¬V.now.count+1<=n):sO V d n nP W=⟨0,⟨V.secret,t.x,vI V.texts W,t.marks,V.dead⟩,t.dev,V.now.count+1⟩:=by unfold sO;simp only[<-ht];rw[aB (λx=>x h),aB hn]
theorem zhe:(Tryz.prog.info? 135).map (λi=>(i.zero,i.size))=some (some (.agg ((List.replicate 32 (⟨#[]⟩:af)).map Value.string).toArray),32):=by kernel_rfl
theorem Jz:(Tryz.prog.info? 135).map (·.size)=some 32:=by kernel_rfl
def JV(VB MB EB IB B:Nat)(mo:Option Nat)(ep:Int)(lv:Value)(w:World):Prop:=
 w.heap[VB]? =some (.cells #[.pointer (some ⟨B,0,none⟩)] 86 (0,0))∧w.heap[MB]? =some (.cells #[.map mo] 169 (0,0))∧w.heap[EB]? =some (.cells #[.int .i64 ep] 3 (0,0))∧w.heap[IB]? =some (.cells #[lv] 99 (0,0))
def vK(w w':World)(B D C S:Nat)(V:nT)(wv:Value)(d:pG)(n:Int)(nP:Int)(M:List Entry)(o:Entry->Bool)(e:Ending):Prop:=
 (V.dead=true∧e= .returned (errVal 6)∧og w' B D C V∧qi w' D S wv d∧oL w' C n)∨
 (V.dead=false∧(∃p∈M,Dv p=true)∧((e= .returned (errVal 2)∧∃p∈M,Ut p=true)∨(e= .returned (errVal 4)∧∃p∈M,Ol p=true))∧og w' B D C V∧qi w' D S wv d∧oL w' C n)∨
 (V.dead=false∧(∀p∈M,Dv p=false)∧e= .returned (errVal (sO V d n nP (qE M o)).err)∧og w' B D C (sO V d n nP (qE M o)).v∧(∃wv',qi w' D S wv' (sO V d n nP (qE M o)).dev∧zL w wv wv')∧oL w' C (sO V d n nP (qE M o)).n)
theorem IW{w:World}{B D C S:Nat}{V:nT}{wv:Value}{d:pG}{n:Int}{mo:Option Nat}{nm:Nat}{M:List Entry}(nP:Int)(g:FuncId)(cb:Array Value)(o:Entry->Bool)
  (h:og w B D C V) (hd:qi w D S wv d) (hc:oL w C n) (hm:DR w mo nm M) (hnm:nm<=1000) (U9:0<=V.now.count) (U8:V.now.count<1099511627776) (hdw:d.wait.length<=800000) (zF:V.secret.size<=1000) (zdl:∀m∈V.marks,m.size=16)
  (eg:∀args w,(callFunc g args).run Tryz.prog w= .ok (.enter g args) w)
  (ho:∀(p:Entry),p∈M->Dv p=false->∀W,Keep nM w W->ae g (#[.int .i64 p.1,.string p.2]++cb) W λe w'=>e= .returned (.bool (o p))∧Keep nM W w') (R:oG w) (hR:∀b,qg D S wv b->b≠0):
  ae 154 #[.pointer (some ⟨B,0,none⟩),.map mo,.int .i64 nP,.func (.func g) #[] cb] w λe w'=>vK w w' B D C S V wv d n nP M o e∧Keep (λb=>qg D S wv b∨b=B∨b=C) w w':=by
 have cd:=h.dead;have hlt:=h.lt;obtain⟨dd,hdd⟩:∃b,b=V.dead:=⟨_,rfl⟩
 rw[<-hdd]at cd;have zh8:=DR.lt hm;have hMl:M.length<=1000:=bH (DR.len hm) hnm;have hpw:=DR.pairs hm;have HV:=ag h;have Hd:=ag hd;have Hc:=ag hc;have Hm:=ag hm;have Ho:=ag ho;have HR:=ag R;have HR2:=ag hR;have Hdd:=ag hdd;have Hpw:=ag hpw;have zfX:=ag U9;have zfW:=ag U8;have Hdw:=ag hdw;have QF:=ag zF;have zpK:=ag zdl;have HMl:=ag hMl;clear h hd hc hm ho R hR hdd hpw hMl U9 U8 hdw zF zdl;go_enter Tryz.func154,Tryz.ntmps154;go_upto_region 1 with(fail)
 obtain⟨w1,hw1⟩:∃w1,w1=((w.alloc (.cells #[.pointer (some ⟨B,0,none⟩)] 86)).alloc (.cells #[.map mo] 169)).alloc (.cells #[.int .i64 nP] 3):=⟨_,rfl⟩
 have K1:Keep nM w w1:=by rw[hw1];exact(((ah _ _).alloc _).alloc _).alloc _
 obtain⟨VB,hVB⟩:∃b,b=w.heap.size:=⟨_,rfl⟩
 have sz1:(w.alloc (.cells #[.pointer (some ⟨B,0,none⟩)] 86)).heap.size=VB+1:=by rw[hVB];exact dY _
 have sz2:((w.alloc (.cells #[.pointer (some ⟨B,0,none⟩)] 86)).alloc (.cells #[.map mo] 169)).heap.size=VB+2:=by rw[show VB+2=VB+1+1 from rfl,<-sz1];exact dY _
 have sz3:w1.heap.size=VB+3:=by rw[hw1,show VB+3=VB+2+1 from rfl,<-sz2];exact dY _
 have r1:w1.heap[VB]? =some (.cells #[.pointer (some ⟨B,0,none⟩)] 86 (0,0)):=by rw[hw1,hVB];exact(((ah nM _).alloc _).alloc _).heap (aG w _) (λx=>x)
 have r2:w1.heap[VB+1]? =some (.cells #[.map mo] 169 (0,0)):=by rw[hw1,<-sz1];exact((ah nM _).alloc _).heap (aG _ _) (λx=>x)
 have r3:w1.heap[VB+2]? =some (.cells #[.int .i64 nP] 3 (0,0)):=by rw[hw1,<-sz2];exact aG _ _
 rw[<-hw1,<-hVB];have HVB:=ag hVB;have znd:=ag sz3;have c1:w1.cell? ⟨VB,0,none⟩=some (.pointer (some ⟨B,0,none⟩)):=by rw[aO _ _ _ _ _ (0,0) r1];rfl
 have cd1:=(K1.cell (p:=⟨B,102,none⟩) hlt (λx=>x)).trans cd;clear hw1 sz1 sz2 hVB cd;obtain⟨MB,hMB⟩:∃b,b=VB+1:=⟨_,rfl⟩
 obtain⟨EB,hEB⟩:∃b,b=VB+2:=⟨_,rfl⟩
 rw[<-hMB]at r2;rw[<-hEB]at r3;rw[show VB+1+1=EB from hEB.symm,<-hMB];have HMB:=ag hMB;have HEB:=ag hEB;clear hMB hEB sz3;cases dd with
 | true=>
  go_wp2_with fail;go_ret;exact⟨.inl ⟨Hdd.out.symm,rfl,HV.out.keep K1 (λx=>x),Hd.out.keep K1 (λ_ _ x=>x),Hc.out.keep K1 (λx=>x)⟩,K1.vN⟩
 | false=>
  have hm1:=Hm.out.keep K1;have c2:w1.cell? ⟨MB,0,none⟩=some (.map mo):=by rw[aO _ _ _ _ _ (0,0) r2];rfl
  go_upto_region 4 with(fail)
  have K2:Keep nM w1 (w1.alloc (.cells #[.slice none 0 0] 99)):=(ah _ _).alloc _;have r4:(w1.alloc (.cells #[.slice none 0 0] 99)).heap[w1.heap.size]? =some (.cells #[.slice none 0 0] 99 (0,0)):=aG w1 _;have sz4:(w1.alloc (.cells #[.slice none 0 0] 99)).heap.size=VB+4:=by rw[show VB+4=VB+3+1 from rfl,<-znd.out];exact dY _
  obtain⟨w2,hw2⟩:∃w2,w2=w1.alloc (.cells #[.slice none 0 0] 99):=⟨_,rfl⟩
  obtain⟨IB,hIB⟩:∃b,b=w1.heap.size:=⟨_,rfl⟩
  rw[<-hw2,<-hIB]at r4;rw[<-hw2]at K2 sz4⊢;rw[<-hIB];have L2:JV VB MB EB IB B mo nP (.slice none 0 0) w2:=⟨K2.heap r1 (λx=>x),K2.heap r2 (λx=>x),K2.heap r3 (λx=>x),r4⟩
  have c5:w2.cell? ⟨MB,0,none⟩=some (.map mo):=by rw[aO _ _ _ _ _ (0,0) L2.2.1];rfl
  have hm2:=hm1.keep K2;have zmY:IB=VB+3:=by rw[hIB];exact znd.out
  have HIB:=ag zmY;have K02:=K1.nK K2;clear hw2 hIB zmY r1 r2 r3 r4 c1 cd1 hm1 c2 K1 K2;go_wp2_with (first|(at_range;refine MJ rfl _ rfl rfl hm2 ?_;intro w3 znT hg3 hs3))
  go_frame
  obtain⟨cnt3,hrg3⟩:=znT;rw[sz4]at hrg3 hs3⊢;have L3:JV VB MB EB IB B mo nP (.slice none 0 0) w3:=⟨hg3.heap L2.1 (λx=>x),hg3.heap L2.2.1 (λx=>x),hg3.heap L2.2.2.1 (λx=>x),hg3.heap L2.2.2.2 (λx=>x)⟩
  have K03:Keep nM w w3:=K02.nK hg3;clear L2 c5 hm2 hg3 sz4 K02
  go_loopw [10] (λ_ wr=>∃(left:Lit->Bool) (cnt:Nat) (L:List Int) (lv:Value),Hid (zx wr mo (VB+4) nm M left cnt)∧Hid (Seen M o Dv left L)∧Hid (JV VB MB EB IB B mo nP lv wr)∧Hid (wr.ownsRow (VB+5) 3 1 lv L.length (L.map (Value.int .i64)))∧Hid (L= []->lv= .slice none 0 0)∧Hid (VB+5<=wr.heap.size)∧Keep nM w wr) (λ_ wr=>ER wr mo (VB+4))
  case atStart=>exact⟨_,_,[],_,ag hrg3,ag (Seen.start M o Dv),ag L3,ag ⟨rfl,.inl ⟨rfl,rfl⟩⟩,ag (λ_=>rfl),ag (by omega),K03⟩
  case round=>
   clear hrg3 hs3 L3 K03;obtain⟨left,cnt,L,lv,hrg,QK,hL,hown,hnil,hsz,K⟩:=hrel;obtain⟨wo,rfl⟩:∃wo,wo=wr:=⟨_,rfl⟩
   have Us:=hrg.out;go_wp2_with (first|(at_next;refine N7 rfl _ rfl rfl Us ?_ ?_))
   ·intro hl0;obtain⟨hperm,hgood⟩:=QK.out.finish hl0;have hLl:L.length<=1000:=by
     have h1:=hperm.length_eq;rw[aI]at h1;have h2:=iq o M;have:=HMl.out;omega
    have hsort:=zgG wo (VB+5) lv L hown.out (by omega) hnil.out;have hI:Aj L=(qE M o).map (λp=>(p.1:Int)):=by rw[OY hgood,zbv hperm]
    have hWl:(qE M o).length=L.length:=Z7 hperm;have hWm:=Dk (o:=o) Hpw.out hgood;obtain⟨W,hW⟩:∃W,W=qE M o:=⟨_,rfl⟩
    rw[<-hW]at hI hWl hWm;rw[hI]at hsort;have HLl:=ag hLl;have Fq:=ag hsort;have HW:=ag hW;have HWl:=ag hWl;have HWm:=ag hWm;have zj1:=ag hgood;have ci:wo.cell? ⟨IB,0,none⟩=some lv:=by rw[aO _ _ _ _ _ (0,0) hL.out.2.2.2];rfl
    have Hrgo:=ag Us;clear hperm hgood hLl hsort hI hW hWl hWm QK hnil hl0 hrg Us;go_wp2_with fail;refine Fq.out.mono ?_;rintro e w5 ⟨rfl,Ai,K5⟩;have nq:∀b,b<VB+5->¬(lv.ownBlock=some b):=λb hb e=>by have h1:=(fE hown.out b e).1;omega
    have L5:JV VB MB EB IB B mo nP lv w5:=⟨K5.heap hL.out.1 (nq VB (by omega)),K5.heap hL.out.2.1 (nq MB (by have:=HMB.out;omega)),K5.heap hL.out.2.2.1 (nq EB (by have:=HEB.out;omega)),K5.heap hL.out.2.2.2 (nq IB (by have:=HIB.out;omega))⟩
    have K05:Keep nM w w5:=K.trans K5 (λi hi hs=>nq i (by have:=HVB.out;omega) hs);have hV5:=HV.out.keep K05 (λx=>x);have c1:w5.cell? ⟨VB,0,none⟩=some (.pointer (some ⟨B,0,none⟩)):=by rw[aO _ _ _ _ _ (0,0) L5.1];rfl
    have hsz5:VB+5<=w5.heap.size:=bH hsz.out K5.size;clear ci K hL hown K5 hsz Fq;obtain⟨cx0,zfu⟩:∃c,c=(oq V.now).toArray:=⟨_,rfl⟩
    have hcl0:cx0.size=35:=by rw[zfu,bT,rG V.now HV.out.lens.sides]
    have zjH:cx0.all (·.oneCell')=true:=by rw[zfu];exact qY _
    have zm0:(Tryz.prog.info? 134).map (·.size)=some cx0.size:=by rw[hcl0];exact qF
    have zgb:∀(j:Nat) (v:Value),cx0[j]? =some v->(nU D C V).toArray[3+j]? =some v:=λj v hv=>by
     have hj:j<35:=by have:=(fO.1 hv).1;omega
     rw[aj,zdD HV.out.lens j hj];rw[zfu,aj]at hv;exact hv
    have hin:=yN;have hzl:=Cf;obtain⟨cz,hcz⟩:∃cz,cz=(oq qX).toArray:=⟨_,rfl⟩
    have hsz:ry qX= .agg cz:=by rw[hcz];rfl
    rw[hsz]at hin;rw[<-hcz]at hzl;have Qw:=ag hin;have znB:=ag zm0;have zol:=ag zjH;have zlR:=ag zgb;have zpV:=ag zfu;have HL5:=ag L5;have YG:=ag Ai;have Hnq:=ag nq;clear hin zm0 zjH zgb zfu hsz hcz L5 Ai nq;obtain⟨XB,hXB⟩:∃b,b=w5.heap.size:=⟨_,rfl⟩
    have HXB:=ag hXB;go_upto_region 15 with(first|(refine Aa rfl 134 (.tmp 55) rfl B 3 rfl 137 (nU D C V).toArray (0,0) cx0 _ hV5.row zlR.out Tryz.underlying134 rfl znB.out ?_)|(refine oP rfl 134 rfl Qw.out ?_;refine o8 (λw6=>w6.heap[w5.heap.size]? =some (.cells cz 134 (0,0))∧Keep nM w5 w6∧w6.heap.size=w5.heap.size+1) ⟨aG w5 _,(ah nM w5).alloc _,dY _⟩ ?_;rintro w6 ⟨Uf,K6,z6⟩)|(refine oH rfl 134 (.tmp 12) (.tmp 56) rfl w5.heap.size 134 cz cx0 rfl rfl Uf znB.out 35 hzl hcl0 zol.out ?_;refine o8 (λw7=>w7.heap[w5.heap.size]? =some (.cells cx0 134 (0,0))∧Keep nM w5 w7∧w7.heap.size=w5.heap.size+1) ⟨oO (c':=cx0) Uf,K6.setRow (g:=w5.heap.size) (.inr (aF _)) cx0,by rw[<-z6];simp[World.setRow]⟩ ?_;clear Uf K6 z6;rintro w7 ⟨hY7,K7,z7⟩))
    rw[<-hXB]at hY7 z7⊢;clear hXB
    go_frame
    have hx7:qV w7 XB V.now:=⟨by rw[hY7,zpV.out],HV.out.lens.sides⟩
    obtain⟨ct,hct⟩:∃c,c=V.now.count:=⟨_,rfl⟩
    have zo8:IntKind.i64.wrap (ct+1)=ct+1:=aW _ (by have:=zfX.out;have:=zfW.out;omega);have zn0:wrap64 (ct+1)=ct+1:=by have:=zfX.out;have:=zfW.out;unfold wrap64;omega
    have d7:w7.cell? ⟨EB,0,none⟩=some (.int .i64 nP):=by rw[aO _ _ _ _ _ (0,0) (K7.heap HL5.out.2.2.1 (λx=>x))];rfl
    have x7:w7.cell? ⟨XB,0,none⟩=some (.int .i64 ct):=by rw[hct];exact hx7.count
    have fx:=hx7.free 0;have p1:∀y:rE (λW':World=>W'.cell? ⟨XB,0,none⟩=some (.int .i64 ct)),y.w.cell? ⟨XB,0,none⟩=some (.int .i64 ct):=λy=>y.h;have p2:∀y:rE (λW':World=>W'.cell? ⟨EB,0,none⟩=some (.int .i64 nP)),y.w.cell? ⟨EB,0,none⟩=some (.int .i64 nP):=λy=>y.h;have Hct:=ag hct;clear hct;refine CV 5 (λW':World=>W'.cell? ⟨EB,0,none⟩=some (.int .i64 nP)) (λW':World=>W'.cell? ⟨XB,0,none⟩=some (.int .i64 ct)) [(2,0),(1,1),(2,2),(2,3),(2,4),(0,5),(2,6),(0,7)] (by kernel_rfl) (by kernel_rfl) (λc a d v w h=>by cases d<;>exact h) ?_;simp only[zQ,nR,aj,ak,au]
    repeat(refine nJ (λK hK=> ?_);go_simp;first|(refine⟨_,λ_=>rfl,hK _ ?_⟩;clear hK K;refine nH ?_)|(refine hK _ ?_;clear hK K;refine nH ?_))
    clear p1 p2;refine⟨d7,λ_=>x7,?_⟩;go_wp2_with fail;have hne:EB≠XB:=by have:=HEB.out;have:=HXB.out;omega
    have hx8:qV (w7.setCell ⟨XB,0,none⟩ (.int .i64 (ct+1))).drew XB { V.now with count:=ct+1 } :=hx7.zgL (ct+1);have K8:Keep (nY XB) w7 (w7.setCell ⟨XB,0,none⟩ (.int .i64 (ct+1))).drew:=((ah (nY XB) w7).set1 0 _).drew;obtain⟨w8,hw8⟩:∃w8,w8=(w7.setCell ⟨XB,0,none⟩ (.int .i64 (ct+1))).drew:=⟨_,rfl⟩
    have z8:w8.heap.size=w7.heap.size:=by rw[hw8];exact size_set w7 XB 0 _
    rw[<-hw8]at hx8 K8⊢;have d8:w8.cell? ⟨EB,0,none⟩=some (.int .i64 nP):=(K8.cell (p:=⟨EB,0,none⟩) (dX d7) hne).trans d7;have e8:=hx8.nP;simp only at e8;have fx8:=hx8.free 1;clear hw8 d7 x7 fx zo8 zn0 hx7;simp only[zQ,nR,aj,ak,au]
    repeat(refine nJ (λK hK=> ?_);go_simp;first|(refine⟨_,λ_=>rfl,hK _ ?_⟩;clear hK K;refine nH ?_)|(refine hK _ ?_;clear hK K;refine nH ?_))
    refine⟨d8,λh=>(by cases h),?_⟩;go_upto_region 16 with(fail)
    have hx9:=hx8.zgK nP;have K9:Keep (nY XB) w7 (w8.setCell ⟨XB,1,none⟩ (.int .i64 nP)):=K8.then ((ah (nY XB) w8).set1 1 _);obtain⟨w9,hw9⟩:∃w9,w9=w8.setCell ⟨XB,1,none⟩ (.int .i64 nP):=⟨_,rfl⟩
    rw[<-hw9]at hx9 K9⊢;have K59:Keep nM w5 w9:=K7.trans K9 (λi hi hs=>by have h1:i=XB:=hs;have:=HXB.out;omega);have zmd:w9.heap.size=XB+1:=by rw[hw9,size_set,z8,z7,HXB.out]
    have hV9:=hV5.keep K59 (λx=>x);have c9:w9.cell? ⟨VB,0,none⟩=some (.pointer (some ⟨B,0,none⟩)):=by rw[aO _ _ _ _ _ (0,0) (K59.heap HL5.out.1 (λx=>x))];rfl
    clear hw9 d8 e8 fx8 hx8 K8 K9 K7 hY7 z7 c1 hV5;obtain⟨cm,hcm⟩:∃c,c=(V.marks.map Value.string).toArray:=⟨_,rfl⟩
    have zmH:cm.size=32:=by rw[hcm,bT,aI,HV.out.lens.marks]
    have zjG:cm.all (·.oneCell')=true:=by rw[hcm];exact zcJ _
    have h32:(Tryz.prog.info? 135).map (·.size)=some cm.size:=by rw[zmH];exact Jz
    have zga:∀(j:Nat) (v:Value),cm[j]? =some v->(nU D C V).toArray[70+j]? =some v:=λj v hv=>by
     have hj:j<32:=by have:=(fO.1 hv).1;omega
     rw[aj,RQ HV.out.lens j hj];rw[hcm,aj,bC,aC (by rw[HV.out.lens.marks];exact hj)]at hv;rw[<-hv];simp[ax,HV.out.lens.marks,hj]
    have zkJ:=zhe;obtain⟨cq,hcq⟩:∃c,c=((List.replicate 32 (⟨#[]⟩:af)).map Value.string).toArray:=⟨_,rfl⟩
    have zpa:cq.size=32:=by rw[hcq];simp
    rw[<-hcq]at zkJ;have zpN:=ag zkJ;have H32:=ag h32;have zoj:=ag zjG;have zlQ:=ag zga;have Ug:=ag hcm;clear zkJ h32 zjG zga hcm hcq;obtain⟨KB,hKB⟩:∃b,b=w9.heap.size:=⟨_,rfl⟩
    have HKB:=ag hKB;go_upto_region 17 with(first|(refine Aa rfl 135 (.tmp 65) rfl B 70 rfl 137 (nU D C V).toArray (0,0) cm _ hV9.row zlQ.out Tryz.underlying135 rfl H32.out ?_)|(refine oP rfl 135 rfl zpN.out ?_;refine o8 (λw6=>w6.heap[w9.heap.size]? =some (.cells cq 135 (0,0))∧Keep nM w9 w6∧w6.heap.size=w9.heap.size+1) ⟨aG w9 _,(ah nM w9).alloc _,dY _⟩ ?_;rintro w6 ⟨Uf,K6,z6⟩)|(refine oH rfl 135 (.tmp 13) (.tmp 66) rfl w9.heap.size 135 cq cm rfl rfl Uf H32.out 32 zpa zmH zoj.out ?_;refine o8 (λw7=>w7.heap[w9.heap.size]? =some (.cells cm 135 (0,0))∧Keep nM w9 w7∧w7.heap.size=w9.heap.size+1) ⟨oO (c':=cm) Uf,K6.setRow (g:=w9.heap.size) (.inr (aF _)) cm,by rw[<-z6];simp[World.setRow]⟩ ?_;clear Uf K6 z6;rintro w10 ⟨zkV,K10,z10⟩))
    rw[<-hKB]at zkV z10⊢;clear hKB
    go_frame
    have zdq:Keep nM w5 w10:=K59.nK K10;have zdr:Keep nM w w10:=K05.nK zdq;have L10:JV VB MB EB IB B mo nP lv w10:=⟨zdq.heap HL5.out.1 (λx=>x),zdq.heap HL5.out.2.1 (λx=>x),zdq.heap HL5.out.2.2.1 (λx=>x),zdq.heap HL5.out.2.2.2 (λx=>x)⟩
    have Yo:=hV9.keep K10 (λx=>x);have zl7:=hx9.keep K10 (λx=>x);have zmt:vw w10 KB V.marks:=⟨by rw[zkV,Ug.out],HV.out.lens.marks⟩
    have zcx:=zdq.ownsRow YG.out (λb hb e=>e);obtain⟨pl,cl,hlv⟩:=VC zcx;have zfJ:Nums w10 lv (W.map λp=>(p.1:Int)):=zg3 zcx (by rw[aI,HWl.out]);obtain⟨ob,hob,hlook⟩:=DR.look (Hm.out.keep zdr);have hXl:VB+5<=XB:=by have:=HXB.out;omega
    have hKX:KB=XB+1:=by rw[HKB.out,zmd]
    have hdl:=Xn Hd.out;have zkW:=HVB.out;have zkZ:=HMB.out;have zph:=HEB.out;have zk2:=HIB.out;have hap:∀b,b=B∨b=IB∨b=VB∨b=EB∨b=MB∨mo=some b->¬wG D S wv XB KB b:=by
     rintro b hb (hd'|hd'|hd')
     ·have h1:=hdl b hd';rcases hb with rfl|rfl|rfl|rfl|rfl|hb
      ·exact JY HV.out Hd.out _ hd' rfl
      ·omega
      ·omega
      ·omega
      ·omega
      ·obtain⟨c0,t0,f0,h0,_⟩:=wJ Hd.out b hd';exact Hm.out.row_ne h0 hb
     ·rcases hb with rfl|rfl|rfl|rfl|rfl|hb<;>first|omega|(have:=zh8 b hb;omega)
     ·rcases hb with rfl|rfl|rfl|rfl|rfl|hb<;>first|omega|(have:=zh8 b hb;omega)
    have zjU:∀i,i<w.heap.size->wG D S wv XB KB i->qg D S wv i:=by
     rintro i hi (h1|h1|h1)
     ·exact h1
     ·omega
     ·omega
    have hE:Qr w10 B D C S V wv IB VB EB XB MB mo KB ob W ⟨V.now.count+1,nP,V.now.sides,V.now.root⟩:=
     {
      yX:=Yo
      ids:=⟨pl,cl,by rw[aO _ _ _ _ _ (0,0) L10.2.2.2,hlv,HWl.out];rfl,by rw[HWl.out,<-hlv];exact zfJ,λb hb=>by
       rw[HWl.out,<-hlv]at hb;have h1:=(fE zcx b hb).1;rintro(h2|h2|h2)
       ·have:=hdl b h2;omega
       ·have h3:=(fE YG.out b hb).2;have:=HXB.out;omega
       ·have h3:=(fE YG.out b hb).2;have:=HXB.out;omega⟩
      v:=by rw[aO _ _ _ _ _ (0,0) L10.1];rfl
      nP:=by rw[aO _ _ _ _ _ (0,0) L10.2.2.1];rfl
      map:=by rw[aO _ _ _ _ _ (0,0) L10.2.1];rfl
      obj:=hob
      look:=λw' hw' p hp=>hlook w' hw' _ _ (by have:=(HWm.out p hp).2.2.1;simp[Lit.wf,show IntKind.i64.min= -9223372036854775808 from rfl,show IntKind.i64.max=9223372036854775807 from rfl];omega) (HWm.out p hp).2.1
      apart:=hap
      zif:=λb hb=>by have:=hdl b hb;omega
      xk:=by omega
      small:=λp hp=>(HWm.out p hp).2.2 }
    have zmG:=Hct.out;have h1t:=zdK hE (Hd.out.keep zdr (λ_ _ x=>x)) (by rw[<-zmG];exact zl7) zmt zpK.out (by have:=HWl.out;have:=HLl.out;have:=Hdw.out;omega) QF.out (by show 1<=V.now.count+1;have:=zfX.out;omega) (by show V.now.count+1<=1099511627776;have:=zfW.out;omega) (by have:=HWl.out;have:=HLl.out;omega) (HR.out.keep zdr (λx=>x)) (by
     have hr:0<w.heap.size:=dX (HR.out 0 (by omega));rintro(h2|h2|h2)
     ·exact HR2.out _ h2 rfl
     ·omega
     ·omega)
    obtain⟨t,ht⟩:∃t,t=qR V.secret ⟨V.now.count+1,nP,V.now.sides,V.now.root⟩ V.marks d W:=⟨_,rfl⟩
    rw[<-ht]at h1t;have H1t:=ag h1t;have Ht:=ag ht;have HE:=ag hE;have zot:=ag zjU;have zop:=ag hlook;have Hlv:=ag hlv;have zom:=ag zfJ;have HKX:=ag hKX;have HXl:=ag hXl;have zfB:=ag L10;have zp1:=ag Yo;have hCw:=lt_of_heap Hc.out;have hCn:¬wG D S wv XB KB C:=by
     rintro(h2|h2|h2)
     ·exact yP Hd.out Hc.out h2
     ·omega
     ·omega
    have HCn:=ag hCn;have HCw:=ag hCw;clear h1t ht hE zjU hlook hlv zfJ hKX hXl L10 Yo hCn hCw zmG zkW zkZ zph zk2 hap hdl zl7 zmt zcx hob zkV z10 zmd hV9 hx9 K59 c9 hsz5;go_wp2_with fail;refine H1t.out.mono ?_;rintro e Ud ⟨⟨rfl,⟨wv',hd11,zmW⟩,hxm⟩,K11⟩;have zm7:Keep (λb=>qg D S wv b∨b=B∨b=C) w Ud:=zdr.vN.trans K11 (λi hi hs=> .inl (zot.out i hi hs));have zmZ:¬wG D S wv XB KB B:=HE.out.apart B (.inl rfl);have QC:og Ud B D C V:=zp1.out.keep K11 zmZ;have zic:oL Ud C n:=Hc.out.keep (zdr.vN.trans K11 (S:=wG D S wv XB KB) (λi hi hs=>hs)) HCn.out;have zfP:zL w wv wv':=Dl (Jt w wv) zmW zdr.size;have L11:JV VB MB EB IB B mo nP lv Ud:=⟨K11.heap zfB.out.1 (HE.out.apart VB (by simp)),K11.heap zfB.out.2.1 (HE.out.apart MB (by simp)),K11.heap zfB.out.2.2.1 (HE.out.apart EB (by simp)),K11.heap zfB.out.2.2.2 (HE.out.apart IB (by simp))⟩
    have c1:Ud.cell? ⟨VB,0,none⟩=some (.pointer (some ⟨B,0,none⟩)):=by rw[aO _ _ _ _ _ (0,0) L11.1];rfl
    have f11:=QC.free 102;have g11:=QC.dead;have hnB:=JY QC hd11;have hnC:=yP hd11 zic;have hCB:=GG QC zic;have hfin:∀(er:Int) W',er≠0->sO V d n nP W=⟨er,QD V,t.dev,n⟩->Keep (nY C) Ud W'->og W' B D C V->qi W' D S wv' t.dev->oL W' C n->vK w (W'.setCell ⟨B,102,none⟩ (.bool true)) B D C S V wv d n nP M o (.returned (errVal er))∧Keep (λb=>qg D S wv b∨b=B∨b=C) w (W'.setCell ⟨B,102,none⟩ (.bool true)):=by
     intro er W' her htv KW hVW hdW hcW;have Ks:Keep (nY B) W' (W'.setCell ⟨B,102,none⟩ (.bool true)):=(ah (nY B) W').set1 102 _;refine⟨.inr (.inr ⟨Hdd.out.symm,zj1.out,?_⟩),?_⟩
     ·rw[<-HW.out,htv];exact⟨rfl,hVW.ziL,⟨wv',hdW.keep Ks (λb hb e=>JY hVW hdW b hb e),zfP⟩,hcW.keep Ks (λe=>GG hVW hcW e)⟩
     ·exact(zm7.trans KW (λi hi hs=> .inr (.inr hs))).trans Ks (λi hi hs=> .inr (.inl hs))
    have yH:=ag hfin;have Yt:=ag QC;have zfz:=ag hd11;have zaW:=ag zic;have zou:=ag zfP;have zld:=ag L11;have zov:=ag zm7;have znz:=ag K11;clear hfin QC hd11 zic zfP L11 zmZ hnB hnC hCB K11 zmW H1t;by_cases h0:t.err=0
    ·rw[h0];rw[show errVal 0=Value.nilIface from rfl];obtain⟨zkw,zms⟩:=hxm h0;obtain⟨pg,Ur⟩:∃v,v=V.now.count+1:=⟨_,rfl⟩
     have htc:t.x.count=pg:=by rw[Ht.out,Xv,Ur]
     have xc:=zkw.count;rw[htc]at xc;have cC:=Yt.out.cnt;have L19:Vb VB B C XB pg Ud:=⟨c1,cC,xc⟩
     have zm8:=ag zkw;have zno:=ag zms;have PZ:=ag Ur;have Htc:=ag htc;have H0:=ag h0;clear zkw zms Ur htc xc cC hxm h0;go_upto_region 19 with(fail)
     have p1:∀y:rE (Vb VB B C XB pg),y.w.cell? ⟨VB,0,none⟩=some (.pointer (some ⟨B,0,none⟩)):=λy=>y.h.1;have p2:∀y:rE (Vb VB B C XB pg),y.w.cell? ⟨B,1,none⟩=some (.pointer (some ⟨C,0,none⟩)):=λy=>y.h.2.1;have p3:∀y:rE (Vb VB B C XB pg),y.w.cell? ⟨XB,0,none⟩=some (.int .i64 pg):=λy=>y.h.2.2;refine nO (Vb VB B C XB pg) [(true,0),(true,1),(true,2),(true,3),(true,4),(true,5),(false,6),(false,7)] (by kernel_rfl) (by kernel_rfl) (λc a d v w h=>by cases d<;>exact h) ?_;simp only[oQ,nR,aj,ak,au]
     repeat(refine nJ (λK hK=> ?_);go_simp;first|(refine⟨_,λ_=>rfl,hK _ ?_⟩;clear hK K;refine nH ?_)|(refine hK _ ?_;clear hK K;refine nH ?_))
     clear p1 p2 p3;refine⟨L19,?_⟩;have hBt:=HE.out.apart B (.inl rfl);have zpd:=HE.out.apart VB (by simp);have hBlt:=Yt.out.lt;have zjT:=dX c1;have zmX:∀W',Keep (nY C) Ud W'->Vb VB B C XB pg W':=λW' KW=>
      ⟨(KW.cell (p:=⟨VB,0,none⟩) zjT (λe=>by have h1:VB=C:=e;have:=HCw.out;have:=HVB.out;omega)).trans L19.1,(KW.cell (p:=⟨B,1,none⟩) hBlt (λe=>GG Yt.out zaW.out e.symm)).trans L19.2.1,(KW.cell (p:=⟨XB,0,none⟩) (dX L19.2.2) (λe=>HCn.out (.inr (.inl e.symm)))).trans L19.2.2⟩
     have znw:=ag zmX;clear hBt zpd hBlt zjT L19 zmX;by_cases hvn:pg<=n
     ·have hrs:=zgS (zaW.out.keep (ah nM Ud).drew (λx=>x)) pg hvn;have hfin:=λW' KW=>yH.out 10 W' (by decide) (zbj Ht.out H0.out (by rw[<-PZ.out];exact hvn)) KW;rw[show errVal 10=Value.iface 51 (.int .i64 10)from rfl]at hfin;have Hrs:=ag hrs;have Hf:=ag hfin;clear hrs hfin hvn;go_wp2_with fail;refine Hrs.out.mono ?_;rintro e w12 ⟨rfl,e12⟩;have FD:Keep nM Ud w12:=by rw[e12];exact(ah nM Ud).drew
      have L12:=znw.out w12 FD.vN;have c12:=L12.1;have V12:=Yt.out.keep FD (λx=>x);have f12:=V12.free 102;have g12:=V12.dead;have zmB:=Hf.out w12 FD.vN V12 (zfz.out.keep FD (λ_ _ x=>x)) (zaW.out.keep FD (λx=>x));have zpS:=ag zmB;clear e12 zmB V12 c1 f11 g11;go_wp2_with fail;refine⟨L12,?_⟩;go_wp2_with fail;go_ret;exact zpS.out
     ·have hrs:=VD (zaW.out.keep (ah nM Ud).drew (λx=>x)) pg (by omega);have Hrs:=ag hrs;have Hvn:=ag hvn;clear hrs hvn;go_wp2_with fail;refine Hrs.out.mono ?_;rintro e w12 ⟨rfl,hc12,FD⟩;have FD:Keep (nY C) Ud w12:=(ah nM Ud).drew.vN.trans FD (λi hi hs=>hs);have L12:=znw.out w12 FD;have V12:=Yt.out.keep FD (λe=>GG Yt.out zaW.out e.symm);clear c1 f11 g11;go_wp2_with fail;refine⟨L12,?_⟩;have c12:=L12.1;go_upto_region 23 with(fail)
      obtain⟨cx,hcx⟩:∃c,c=(oq t.x).toArray:=⟨_,rfl⟩
      obtain⟨ck,hck⟩:∃c,c=(t.marks.map Value.string).toArray:=⟨_,rfl⟩
      have hxs:=zm8.out.2;have hms:=zno.out.2;have zkR:cx.size=35:=by rw[hcx,bT,rG t.x hxs]
      have zkS:ck.size=32:=by rw[hck,bT,aI,hms]
      have h35:(Tryz.prog.info? 134).map (·.size)=some cx.size:=by rw[zkR];exact qF
      have h32:(Tryz.prog.info? 135).map (·.size)=some ck.size:=by rw[zkS];exact Jz
      have zmi:cx.all (·.oneCell')=true:=by rw[hcx];exact qY _
      have zmj:ck.all (·.oneCell')=true:=by rw[hck];exact zcJ _
      have Jf:w12.heap[XB]? =some (.cells cx 134 (0,0)):=by rw[hcx];exact FD.heap zm8.out.1 (λe=>HCn.out (.inr (.inl e.symm)))
      have zk0:w12.heap[KB]? =some (.cells ck 135 (0,0)):=by rw[hck];exact FD.heap zno.out.1 (λe=>HCn.out (.inr (.inr e.symm)))
      have L23:zcB VB B XB KB cx ck w12:=⟨c12,Jf,zk0⟩
      have h23:∀W',Keep (nY B) w12 W'->zcB VB B XB KB cx ck W':=λW' KW=>by have hb:=HE.out.apart B (.inl rfl);have hv:=HVB.out;exact⟨(KW.cell (p:=⟨VB,0,none⟩) (dX c12) (λe=>by have h1:VB=B:=e;omega)).trans c12,KW.heap Jf (λe=>hb (.inr (.inl e.symm))),KW.heap zk0 (λe=>hb (.inr (.inr e.symm)))⟩
      have zk5:=V12.keep (ah nM w12).drew (λx=>x);have hn1:3+cx.size<=(nU D C V).toArray.size:=by rw[zkR,bT,CW HV.out.lens];omega
      have hn2:70+ck.size<=(nU D C (y5 V t.x)).toArray.size:=by rw[zkS,bT,CW (HV.out.lens.now hxs)];omega
      have hs1:=zk5.y5 hxs;rw[<-hcx]at hs1;have hs2:∀W',og W' B D C (y5 V t.x)->og (W'.setRow B (Ac (nU D C (y5 V t.x)).toArray 70 ck)) B D C (Aw (y5 V t.x) t.marks):=λW' h=>by rw[hck];exact h.Aw hms
      have H23:=ag h23;have JG:=ag h35;have znC:=ag h32;have zpC:=ag zmi;have zpD:=ag zmj;have Hn1:=ag hn1;have Hn2:=ag hn2;have Hs1:=ag hs1;have Hs2:=ag hs2;have p1:∀y:rE (zcB VB B XB KB cx ck),y.w.cell? ⟨VB,0,none⟩=some (.pointer (some ⟨B,0,none⟩)):=λy=>y.h.1;clear hcx hck hxs hms zkR zkS h35 h32 zmi zmj Jf zk0 h23 hn1 hn2 hs1 hs2 c12;refine nO (zcB VB B XB KB cx ck) [(true,0),(true,1),(true,2),(true,3),(true,4),(true,5),(false,6),(true,7),(true,8),(false,9)] (by kernel_rfl) (by kernel_rfl) (λc a d v w h=>by cases d<;>exact h) ?_;simp only[oQ,nR,aj,ak,au]
      iterate 2 (refine nJ (λK hK=> ?_);go_simp;first|(refine⟨_,λ_=>rfl,hK _ ?_⟩;clear hK K;refine nH ?_)|(refine hK _ ?_;clear hK K;refine nH ?_))
      refine uC (by rfl) 134 (.tmp 12) rfl XB 0 rfl 134 cx (0,0) cx _ (λy=>y.h.2.1) (λj v hv=>by rw[dM];exact hv) Tryz.underlying134 rfl JG.out ?_;refine nH ?_;refine uC (by rfl) 135 (.tmp 13) rfl KB 0 rfl 135 ck (0,0) ck _ (λy=>y.h.2.2) (λj v hv=>by rw[dM];exact hv) Tryz.underlying135 rfl znC.out ?_;refine nH ?_
      iterate 2 (refine nJ (λK hK=> ?_);go_simp;first|(refine⟨_,λ_=>rfl,hK _ ?_⟩;clear hK K;refine nH ?_)|(refine hK _ ?_;clear hK K;refine nH ?_))
      refine⟨L23,?_⟩;refine zB rfl 134 (.tmp 89) (.tmp 86) rfl B 3 137 (nU D C V).toArray cx rfl rfl zk5.row JG.out Hn1.out zpC.out ?_;refine o8 (λW'=>og W' B D C (y5 V t.x)∧Keep (nY B) w12 W') ⟨Hs1.out,(ah (nY B) w12).drew.setRow (g:=B) (.inl rfl) _⟩ ?_;rintro w13 ⟨V13,K13⟩;go_wp2_with fail
      iterate 2 (refine nJ (λK hK=> ?_);go_simp;first|(refine⟨_,λ_=>rfl,hK _ ?_⟩;clear hK K;refine nH ?_)|(refine hK _ ?_;clear hK K;refine nH ?_))
      clear p1;refine⟨H23.out w13 K13,?_⟩;refine zB rfl 135 (.tmp 91) (.tmp 87) rfl B 70 137 (nU D C (y5 V t.x)).toArray ck rfl rfl V13.row znC.out Hn2.out zpD.out ?_;refine o8 (λW'=>og W' B D C (Aw (y5 V t.x) t.marks)∧Keep (nY B) w12 W') ⟨Hs2.out _ V13,K13.setRow (g:=B) (.inl rfl) _⟩ ?_;rintro w14 ⟨V14,K14⟩;have hBw:=HV.out.lt;have hCw:=HCw.out;have zkW:=HVB.out;have zkZ:=HMB.out;have zk2:=HIB.out;have zmr:mo≠some B:=Hm.out.row_ne HV.out.row;have zmq:mo≠some C:=Hm.out.row_ne Hc.out;have hrow:∀ {b:Nat} {x:Obj},Ud.heap[b]? =some x->b≠B->b≠C->∀W',Keep (nY B) w12 W'->W'.heap[b]? =some x:=λh hb hc W' KW=>KW.heap (FD.heap h (λe=>hc e)) (λe=>hb e);have hI:∀W',Keep (nY B) w12 W'->W'.cell? ⟨IB,0,none⟩=some lv:=λW' KW=>by rw[aO _ _ _ _ _ (0,0) (hrow zld.out.2.2.2 (by omega) (by omega) W' KW)];rfl
      have hP:∀W',Keep (nY B) w12 W'->YE VB MB B mo ob W':=λW' KW=>
       ⟨by rw[aO _ _ _ _ _ (0,0) (hrow zld.out.1 (by omega) (by omega) W' KW)];rfl,by rw[aO _ _ _ _ _ (0,0) (hrow zld.out.2.1 (by omega) (by omega) W' KW)];rfl,λb hb=>hrow (znz.out.heap (HE.out.obj b hb) (HE.out.apart b (by simp[hb]))) (λe=>zmr (e▸hb)) (λe=>zmq (e▸hb)) W' KW⟩
      have zmV:Nums Ud lv (W.map λp=>(p.1:Int)):=zom.out.keep znz.out (λb hb=>by
       obtain⟨p,c,h1,h2,h3⟩:=HE.out.ids;have h4:lv= .slice p W.length c:=by
        have h5:w10.cell? ⟨IB,0,none⟩=some lv:=by rw[aO _ _ _ _ _ (0,0) zfB.out.2.2.2];rfl
        rw[h5]at h1;exact aH h1
       exact h3 b (h4▸hb))
      have hNr:∀W',Keep (nY B) w12 W'->Nums W' lv (W.map λp=>(p.1:Int)):=λW' KW=>(zmV.keep FD (λb hb e=>by
       have h1:=(fE YG.out b hb).1;have h2:b=C:=e;omega)).keep KW (λb hb e=>by
       have h1:=(fE YG.out b hb).1;have h2:b=B:=e;omega)
      have zmF:qi w12 D S wv' t.dev:=zfz.out.keep FD (λb hb e=>yP zfz.out zaW.out (e▸hb));have zjJ:∀b,qg D S wv' b->b≠B:=JY Yt.out zfz.out;have hfin:∀W',Keep (nY B) w12 W'->og W' B D C ⟨V.secret,t.x,vI V.texts W,t.marks,V.dead⟩->vK w W' B D C S V wv d n nP M o (.returned .nilIface)∧Keep (λb=>qg D S wv b∨b=B∨b=C) w W':=by intro W' KW hVW;have htv:=YR (d:=d) (n:=n) (nP:=nP) Ht.out H0.out (by have h5:=Hvn.out;rw[PZ.out]at h5;omega);refine⟨.inr (.inr ⟨Hdd.out.symm,zj1.out,?_⟩),(zov.out.trans FD (λi hi hs=> .inr (.inr hs))).trans KW (λi hi hs=> .inr (.inl hs))⟩;rw[<-HW.out,htv];refine⟨rfl,hVW,⟨wv',zmF.keep KW (λb hb e=>zjJ b hb e),zou.out⟩,?_⟩;have h5:=hc12.keep KW (λe=>GG HV.out Hc.out e);rw[PZ.out]at h5;exact h5
      obtain⟨m,hmL⟩:∃m,m=L.length:=⟨_,rfl⟩
      have hWm:W.length=m:=by rw[hmL];exact HWl.out
      have hlv2:=Hlv.out;rw[<-hmL]at hlv2;have hci:=hI w14 K14;rw[hlv2]at hci;have hml:m<=1000:=by rw[hmL];exact HLl.out
      have HI:=ag hI;have HP:=ag hP;have HNr:=ag hNr;have Hfn:=ag hfin;have zpL:=ag hlv2;have zit:=ag hWm;have zp0:=ag V14;clear hBw hCw zkW zkZ zk2 zmr zmq hrow hI hP zmV hNr zmF zjJ hfin hmL hlv2 hWm V14 V13 K13 zk5 V12 hc12 L23 L12;go_wp2_with fail
      go_loopw [94] (λiv wr=>∃k:Nat,iv= .int .i64 k∧k<=m∧Hid (og wr B D C ⟨V.secret,t.x,vI V.texts (W.take k),t.marks,V.dead⟩)∧Keep (nY B) w12 wr) (λiv _=>m-(intOf iv).toNat)
      case atStart=>exact⟨0,rfl,by omega,ag zp0.out,K14⟩
      case round=>
       obtain⟨k,rfl,hk,hVr,KR⟩:=hrel;obtain⟨wo,rfl⟩:∃wo,wo=wr:=⟨_,rfl⟩
       by_cases hlt:k<m
       ·have j1:(k:Int)<m:=by omega
        obtain⟨p,hp⟩:∃p,W[k]? =some p:=⟨_,aC (by have:=zit.out;omega)⟩
        obtain⟨id,s⟩:=p;have hsm:=HWm.out _ (bg hp);have JQ:id<32:=hsm.2.2.1;have jid:(id:Int)<32:=by omega
        have hN:=HNr.out wo KR;rw[zpL.out]at hN;obtain⟨bi,oi,hpi,-,hbi,zfv⟩:=hN.at (by rw[aI];have:=zit.out;omega);have zo4:wo.cell? ⟨bi,oi+k,none⟩=some (.int .i64 (id:Int)):=by rw[zfv k (by rw[aI];have:=zit.out;omega),ax,bC,hp];rfl
        subst hpi;have hlk2:=zop.out;have L27:=HP.out wo KR;have q1:∀y:rE (YE VB MB B mo ob),y.w.cell? ⟨VB,0,none⟩=some (.pointer (some ⟨B,0,none⟩)):=λy=>y.h.1;have q2:∀y:rE (YE VB MB B mo ob),y.w.cell? ⟨MB,0,none⟩=some (.map mo):=λy=>y.h.2.1;have q3:∀y:rE (YE VB MB B mo ob),(Instr.lookup 169 (.map mo) (.int .i64 (id:Int)) false).run Tryz.prog y.w= .ok (.string s) y.w:=λy=>hlk2 y.w y.h.2.2 _ _ (by simp[Lit.wf,show IntKind.i64.min= -9223372036854775808 from rfl,show IntKind.i64.max=9223372036854775807 from rfl];omega) hsm.2.1;have fB:=hVr.out.free (38+id);have gB:=hVr.out.text id JQ;have zk8:=ag (hVr.out.vX id JQ s);have Hp:=ag hp;have Hsm:=ag hsm;clear hN zfv hlk2 hp hsm hVr;go_upto_region 27 with(fail)
        refine nO (YE VB MB B mo ob) [(true,0),(true,1),(true,2),(true,3),(true,4),(true,5),(true,6),(true,7),(false,8)] (by kernel_rfl) (by kernel_rfl) (λc a d v w h=>by cases d<;>exact h) ?_;simp only[oQ,nR,aj,ak,au]
        repeat(refine nJ (λK hK=> ?_);go_simp;first|(refine⟨_,λ_=>rfl,hK _ ?_⟩;clear hK K;refine nH ?_)|(refine hK _ ?_;clear hK K;refine nH ?_))
        clear q1 q2 q3;refine⟨L27,?_⟩;have KR2:Keep (nY B) w12 (wo.setCell ⟨B,38+id,none⟩ (.string s)):=KR.then ((ah (nY B) wo).set1 (38+id) _);have zp8:=ag KR2;clear KR2;go_wp2_with fail;refine⟨⟨k+1,by rw[show((k+1:Nat):Int)=(k:Int)+1 from by omega],by omega,ag ?_,zp8.out.drew⟩,?_⟩
        ·rw[UN _ _ _ _ Hp.out];exact zk8.out.keep (ah nM _).drew (λx=>x)
        ·show m-((k:Int)+1).toNat<m-(k:Int).toNat;omega
       ·obtain rfl:k=m:=by omega
        have j1:¬(k:Int)<k:=by omega
        have hfn:=Hfn.out wo KR (by have h5:=hVr.out;rw[aV (by have:=zit.out;omega)]at h5;exact h5);have Hf2:=ag hfn;clear hfn hVr;go_wp2_with fail;go_ret;exact Hf2.out
    ·obtain⟨er,her⟩:∃q,q=t.err:=⟨_,rfl⟩
     have htv:=Vl (n:=n) Ht.out h0;rw[<-her]at h0 htv⊢;have hev:errVal er= .iface 51 (.int .i64 er):=aB h0;have hfin:=yH.out er Ud h0 htv (ah _ _) Yt.out zfz.out zaW.out;rw[hev]at hfin⊢;have Hf:=ag hfin;clear hfin hev htv her h0;go_wp2_with fail;go_ret;exact Hf.out
   ·intro x c w4 cnt2 hmem hlk hrg4 hlt4 hg4 hs4 hen;have zmL:=HVB.out;have K4:Keep nM w w4:=K.trans hg4 (λk hk e=>by have h1:k=VB+4:=e;omega);have Kx:Keep (nY (VB+4)) wo w4:=hg4;have L4:JV VB MB EB IB B mo nP lv w4:=⟨Kx.heap hL.out.1 (λe=>by have h1:VB=VB+4:=e;omega),Kx.heap hL.out.2.1 (λe=>by have h1:MB=VB+4:=e;have:=HMB.out;omega),Kx.heap hL.out.2.2.1 (λe=>by have h1:EB=VB+4:=e;have:=HEB.out;omega),Kx.heap hL.out.2.2.2 (λe=>by have h1:IB=VB+4:=e;have:=HIB.out;omega)⟩
    have own4:=Kx.ownsRow hown.out (λb hb e=>by have h1:=(fE hown.out b hb).1;have h2:b=VB+4:=e;omega)
    have zfo:VB+5<=w4.heap.size:=by have:=hsz.out;have:=Kx.size;omega
    have hLl:L.length<=1000:=by have h1:=QK.out.perm.length_eq;rw[aI]at h1;have h2:=iq (λp:Entry=> !left (.int .i64 p.1)&&o p) M;have:=HMl.out;omega
    have Yr:=ag hmem;have Hlk:=ag hlk;have znp:=ag (show ER w4 mo (VB+4)<ER wo mo (VB+4)by rw[hrg4.left_eq,Us.left_eq];exact hlt4);have HL4:=ag L4;have zoi:=ag own4;have zpu:=ag zfo;have zk9:=ag hrg4;have HLl:=ag hLl;have hback:∀W',Keep nM w W'->og W' B D C V∧qi W' D S wv d∧oL W' C n:=λW' KW=>⟨HV.out.keep KW (λx=>x),Hd.out.keep KW (λ_ _ x=>x),Hc.out.keep KW (λx=>x)⟩
    have zj4:=ag hback;clear hmem hlk hlt4 hs4 hg4 Kx L4 own4 zfo hrg4 Us hLl hback zmL;by_cases hf:x<0∨32<=x
    ·have PW:Ut (x,c)=true:=by simp only[Ut,dP,aS];exact hf
     have hfin:∀W',Keep nM w W'->vK w W' B D C S V wv d n nP M o (.returned (.iface 51 (.int .i64 2))):=λW' KW=>
      .inr (.inl ⟨Hdd.out.symm,⟨_,Yr.out,by rw[Dv,PW];rfl⟩,.inl ⟨rfl,_,Yr.out,PW⟩,zj4.out W' KW⟩)
     have yH:=ag hfin;clear PW hfin;rcases hf with hf|hf
     ·have e0:decide (x<0)=true:=by simpa using hf
      go_wp2_with fail;go_ret;exact⟨yH.out _ K4,K4.vN⟩
     ·have e0:decide (x<0)=false:=by simp;omega
      have e1:decide (32<=x)=true:=by simpa using hf
      go_wp2_with fail;go_ret;exact⟨yH.out _ K4,K4.vN⟩
    ·have e0:decide (x<0)=false:=by simp;omega
     have e1:decide (32<=x)=false:=by simp;omega
     have PW:Ut (x,c)=false:=by rw[Ut,e0,e1];rfl
     by_cases hw:200<c.size
     ·have hwide:Ol (x,c)=true:=bJ hw;have hfin:∀W',Keep nM w W'->vK w W' B D C S V wv d n nP M o (.returned (.iface 51 (.int .i64 4))):=λW' KW=>
       .inr (.inl ⟨Hdd.out.symm,⟨_,Yr.out,by rw[Dv,hwide,Bool.or_true]⟩,.inr ⟨rfl,_,Yr.out,hwide⟩,zj4.out W' KW⟩)
      have yH:=ag hfin;have w0:(200:Int)<c.size:=by omega
      clear hwide hfin hf PW hw;go_wp2_with fail;go_ret;exact⟨yH.out _ K4,K4.vN⟩
     ·have hwide:Ol (x,c)=false:=bV hw;have hbad:Dv (x,c)=false:=by rw[Dv,PW,hwide];rfl
      have w0:¬(200:Int)<c.size:=by omega
      have hoc:=Ho.out (x,c) Yr.out hbad;have hstep:=QK.out.step Hpw.out Yr.out Hlk.out hbad;obtain⟨ob,hob⟩:∃b,b=o (x,c):=⟨_,rfl⟩
      rw[<-hob]at hoc hstep;have Hoc:=ag hoc;have Ve:=ag hstep;clear hf PW hw hwide hbad hoc hstep hob;go_wp2_with fail;refine(Hoc.out w4 K4).mono ?_;rintro e w5 ⟨rfl,K5⟩;have K05:=K4.nK K5;have zh4:=zk9.out.keep K5 (λ_ _ x=>x) (λx=>x);have L5:JV VB MB EB IB B mo nP lv w5:=⟨K5.heap HL4.out.1 (λx=>x),K5.heap HL4.out.2.1 (λx=>x),K5.heap HL4.out.2.2.1 (λx=>x),K5.heap HL4.out.2.2.2 (λx=>x)⟩
      have Ai:=K5.ownsRow zoi.out (λ_ _ x=>x);have hsz5:VB+5<=w5.heap.size:=bH zpu.out K5.size;cases ob with
      | false=>
       go_wp2_with fail;go_roundw
       case rel=>
        refine⟨_,cnt2,L,lv,ag zh4,ag Ve.out,ag L5,ag Ai,hnil,ag hsz5,K05⟩
       case measure=>
        rw[zh4.left_eq,<-zk9.out.left_eq];exact znp.out
      | true=>
       have ci:w5.cell? ⟨IB,0,none⟩=some lv:=by rw[aO _ _ _ _ _ (0,0) L5.2.2.2];rfl
       have fi:w5.frozen? ⟨IB,0,none⟩=false:=dZ L5.2.2.2 0;obtain⟨i0,hi0,hz0,hz1,hz2⟩:=zhd;have znG:=Ai.alloc (.cells #[.int .i64 x] 3);have HL5:=ag L5;have zpz:=ag zh4;have znc:=ag hsz5;clear L5 zh4;go_wp2_with (first|(at_builtin;refine jJ _ rfl _ _ 99 rfl (VB+5) 3 i0 (.int .i64 0) 1 8 Tryz.underlying99 hi0 hz0 hz1 hz2 rfl (by decide) lv L.length _ rfl znG ⟨w5.heap.size,0,none⟩ 1 1 [.int .i64 x] rfl rfl (qj _ _ _) (by intro u hu;rw[bD.1 hu];rfl) (by have:=HLl.out;unfold maxLen;omega) (by have:=HLl.out;omega) (by have:=znc.out;simp;omega) ?_;intro v6 w6 WB zmA hiff;have KQ:Keep (λb=>lv.ownBlock=some b) w5 w6:=((ah _ w5).alloc _).grown zmA (λk hk=> .inl hk);have nq:¬(lv.ownBlock=some IB):=(λe=>by have h1:=(fE Ai IB e).1;have:=HIB.out;omega);have ci6:w6.cell? ⟨IB,0,none⟩=some lv:=(KQ.cell (p:=⟨IB,0,none⟩) (dX ci) nq).trans ci;have fi6:w6.frozen? ⟨IB,0,none⟩=false:=(KQ.frozen (p:=⟨IB,0,none⟩) (dX ci) nq).trans fi;obtain⟨p6,c6,hv6⟩:=VC WB;subst hv6)|fail);have zmL:=HVB.out;have hIBs:=HIB.out;have KQ5:Keep (λb=>lv.ownBlock=some b) w5 w6:=KQ;have n1:∀b,mo=some b->¬lv.ownBlock=some b:=λb hb e=>by have h1:=(fE Ai b e).1;have h2:=zh8 b hb;omega
       have n2:¬lv.ownBlock=some (VB+4):=λe=>by have h1:=(fE Ai (VB+4) e).1;omega
       have zoR:=zpz.out.keep KQ5 n1 n2;have zmg:=zoR.keep (S:=nY IB) ((ah (nY IB) w6).set1 0 (.slice p6 (L.length+1) c6)) (λb hb e=>by have h1:b=IB:=e;have h2:=zh8 b hb;omega) (λe=>by have h1:VB+4=IB:=e;omega);have Ks:Keep (nY IB) w6 (w6.setCell ⟨IB,0,none⟩ (.slice p6 (L.length+1) c6)):=(ah (nY IB) w6).set1 0 _;have nb:∀b,b<VB+3->VB<=b->∀ob,w5.heap[b]? =some ob->(w6.setCell ⟨IB,0,none⟩ (.slice p6 (L.length+1) c6)).heap[b]? =some ob:=λb hb hb2 ob h5=>Ks.heap (KQ.heap h5 (λe=>by have h1:=(fE Ai b e).1;omega)) (λe=>by have h1:b=IB:=e;omega);have L7:JV VB MB EB IB B mo nP (.slice p6 (L.length+1) c6) (w6.setCell ⟨IB,0,none⟩ (.slice p6 (L.length+1) c6)):=
        ⟨nb VB (by omega) (by omega) _ HL5.out.1,nb MB (by have:=HMB.out;omega) (by have:=HMB.out;omega) _ HL5.out.2.1,nb EB (by have:=HEB.out;omega) (by have:=HEB.out;omega) _ HL5.out.2.2.1,by rw[oM (KQ.heap HL5.out.2.2.2 nq)];rfl⟩
       have zfk:=Ks.ownsRow WB (λb hb e=>by have h1:=(fE WB b hb).1;have h2:b=IB:=e;omega);have K7:Keep nM w (w6.setCell ⟨IB,0,none⟩ (.slice p6 (L.length+1) c6)):=((K05.alloc _).grown zmA (λk hk=> .inr (by have h1:=(fE Ai k hk).1;omega))).trans Ks (λi hi hs=>by have h1:i=IB:=hs;omega);refine⟨⟨_,cnt2,L++ [x],_,ag zmg,ag (by have h:=Ve.out;simpa using h),ag L7,ag (by rw[ay,di];exact zfk),ag (λe=>by simp at e),ag ?_,K7⟩,?_⟩
       ·have h1:=znc.out;have h2:=KQ.size;have h3:=Ks.size;omega
       ·rw[zmg.left_eq,<-zk9.out.left_eq];exact znp.out
theorem getD_mem{l:List af}{P:af->Prop}(h:∀m∈l,P m)(i:Nat)(hi:i<l.length):P (l.getD i ⟨#[]⟩):=by rw[ax,aC hi];exact h _ (fD _)
theorem CU{P:af->Prop} :∀(W:List (Nat×af)) (L:List af),(∀p∈W,P p.2)->(∀s∈L,P s)->∀s∈qx L W,P s
 | [],L,_,h,s,hs=>h s hs
 | p::W,L,hW,h,s,hs=>by
  rw[qx,dO,<-qx]at hs;refine CU W (L.set p.1 p.2) (λq hq=>hW q (aQ _ hq)) (λt ht=> ?_) s hs;rcases iT ht with ht|rfl
  ·exact h t ht
  ·exact hW p (aY ..)
theorem XM{pg:Int}{W:List (Nat×af)} :∀p∈(W.map λp=>(p.1,uy p.1 pg p.2)),p.2.size=16:=by intro p hp;obtain⟨q,_,rfl⟩:=bf.1 hp;exact xI _ _ _
theorem SV{pg:Int}{marks:List af}{W:List (Nat×af)}(h:∀m∈marks,m.size=16):∀m∈Ae pg marks W,m.size=16:=CU (P:=λm=>m.size=16) _ _ XM h
theorem O9(pg:Int)(marks:List af)(W:List (Nat×af)):(Ae pg marks W).length=marks.length:=yQ _ _
theorem OO(texts:List af)(W:List (Nat×af)):vI texts W=qx texts W:=rfl
theorem zef{α:Type}(f:Nat×af->af){W:List (Nat×af)}(h:W.Pairwise (λp q=>p.1≠q.1)):(W.map λp=>(p.1,f p)).Pairwise (λp q=>p.1≠q.1):=by rw[dR];exact h
theorem zdz{key:af}{pg:Int}{sides:List Bool}{W:List (Nat×af)}(h:W.Pairwise (λp q=>p.1≠q.1)):(wrV key pg sides W).Pairwise (λp q=>p.1≠q.1):=by rw[wrV,dR];exact h.imp λhab e=>hab (SE e).1
theorem VO{secret:af}{V:nT}{B:List af}{n:Nat}(h:InvV secret V B n)(hn:n<1000000){ep:Int}(he1:1<=ep)(he2:ep<=n+2)(W:List (Nat×af)):qL (rH V.secret) (BX V ep W).now=true:=by
 have h1:(rV (Ae (V.now.count+1) V.marks W)).size=16:=zbJ (by rw[O9];exact h.marks) (SV h.m16);have h2:=h.cnt;have h3:=Si V.secret;have h4:1<=V.now.count+1:=by omega
 have h5:V.now.count+1<=1099511627776:=by omega
 have h6:ep<=1099511627776:=by omega
 show(decide ((rH V.secret).size=32)&&(decide (1<=V.now.count+1)&&decide (V.now.count+1<=1099511627776)&&decide (1<=ep)&&decide (ep<=1099511627776)&&decide ((rV (Ae (V.now.count+1) V.marks W)).size=16)))=true;rw[bJ h3,bJ h4,bJ h5,bJ he1,bJ h6,bJ h1];rfl
theorem Ro{secret:af}{V:nT}{B:List af}{n:Nat}(h:InvV secret V B n)(hn:n<1000000){W:List (Nat×af)}(hW:WOk W){ep:Int}(he:ep=V.now.nP∨(ep=V.now.nP+1∧∀i,i<32->∃s,(i,s)∈W)):InvV secret (BX V ep W) (Am V B ep W) (n+1):=by
 have hc:=h.cnt;have zF:=h.sec;have e1:1<=ep:=by have:=h.ep1;omega
 have e2:ep<=n+2:=by have:=h.ep2;omega
 have hmid:InvV secret V (Yl V B ep W) n:=NS h (GV _ _) (WX hW);have hmay:=VO h hn e1 e2 W;have hsl:(BX V ep W).now.sides.length=32:=(OH _ _).trans h.sides;have hslot:((V.now.count+1) % 2).toNat<2:=by omega
 have hsz:=Io hsl hmay;have hpl:=hmid.zk4;have hpw:=UQ (rH V.secret) (BX V ep W).now hsl hmay;have znW:∀i,i<32->∀b,(Am V B ep W).getD (tX i b) ⟨#[]⟩=(Yl V B ep W).getD (tX i b) ⟨#[]⟩:=λi hi b=>by rw[Am,vJ,aB];rintro⟨x,_⟩;have:=VF i b;omega
 refine⟨zF,h.alive,?_,e1,?_,hsl,(yQ _ _).trans h.texts,(O9 _ _ _).trans h.marks,SV h.m16,CU (P:=λs=>s.size<=200) _ _ hW.small h.t200,(dN ..).trans hpl,λi hi=> ?_,λi hi=> ?_,λe=>absurd e (by omega),λ_=> ?_,λ_=>rfl,λc hcn=> ?_⟩
 ·show V.now.count+1=_;omega
 ·show ep<=_;omega
 ·rw[Am,vJ];split
  ·exact Iq _ (by omega)
  ·exact hmid.bsz i hi
 ·show zT (Ba secret ep) _ (yA V.now.sides W) i=some ((qx V.texts W).getD i ⟨#[]⟩,(Ae (V.now.count+1) V.marks W).getD i ⟨#[]⟩);rw[zT,znW i hi];by_cases hin:∃s,(i,s)∈W
  ·obtain⟨s,hs⟩:=hin;have t1:=D8 i s W V.texts hW.apart hs (by rw[h.texts];exact hi);have t2:=D8 i (uy i (V.now.count+1) s) (W.map λp=>(p.1,uy p.1 (V.now.count+1) p.2)) V.marks (zef (α:=Nat) _ hW.apart) (bf.2 ⟨(i,s),hs,rfl⟩) (by rw[h.marks];exact hi);have t3:=Sj i s W V.now.sides hW.apart hs (by rw[h.sides];exact hi);have t4:(Yl V B ep W).getD (tX i (!V.now.sides.getD i false)) ⟨#[]⟩=BC (Fp (Ba V.secret ep) i (V.now.count+1) s):=
    D8 _ _ _ B (zdz hW.apart) (bf.2 ⟨(i,s),hs,rfl⟩) (by rw[h.zk4];exact DZ hi _)
   rw[t1,Ae,t2,t3,t4,zF];exact zaa _ i _ s (by omega) (by omega) (hW.small _ hs)
  ·have hout:∀p∈W,p.1≠i:=λp hp e=>hin ⟨p.2,by rw[<-e];exact hp⟩;have hep:ep=V.now.nP:=by
    rcases he with he|⟨_,he⟩
    ·exact he
    ·exact absurd (he i hi) hin
   have t1:=zZ V.texts i W V.texts hout;have t2:=zZ V.marks i (W.map λp=>(p.1,uy p.1 (V.now.count+1) p.2)) V.marks (λp hp=>by obtain⟨q,hq,rfl⟩:=bf.1 hp;exact hout q hq);have t3:=GN i W V.now.sides hout;rw[t1,Ae,t2,t3,hep];have:=hmid.pages i hi;rw[zT,hep]at this;exact this
 ·rw[yI];have hb:(Am V B ep W).getD ((((n+1:Nat):Int)) % 2).toNat ⟨#[]⟩=BC (zC (rH V.secret) (BX V ep W).now):=by
   rw[Am,vJ,aP ⟨by omega,by omega⟩]
  rw[hb,<-zF,aP ⟨hpw.1,by rw[hpw.2];show V.now.count+1=_;omega⟩,hpw.2]
 ·by_cases hs:(c % 2).toNat=((V.now.count+1) % 2).toNat
  ·have hb:(Am V B ep W).getD (c % 2).toNat ⟨#[]⟩=BC (zC (rH V.secret) (BX V ep W).now):=by
    rw[Am,vJ,aP ⟨hs.symm,by omega⟩]
   rw[yI,hb,<-zF,aB];rintro⟨_,hx⟩;rw[hpw.2]at hx;have hx:V.now.count+1=c:=hx;omega
  ·have hb:(Am V B ep W).getD (c % 2).toNat ⟨#[]⟩=(Yl V B ep W).getD (c % 2).toNat ⟨#[]⟩:=by
    rw[Am,vJ,aB (λx=>hs x.1.symm)]
   rw[GL hb];exact hmid.old c (by omega)
theorem Vk{secret:af}{V:nT}{d:pG}{n:Nat}(h:InvV secret V d.sure n)(hw:d.wait= [])(hn:n<1000000){W:List (Nat×af)}(hW:WOk W){ep:Int}(he:ep=V.now.nP∨(ep=V.now.nP+1∧∀i,i<32->∃s,(i,s)∈W)):
  ((sO V d n ep W).err=0∧(sO V d n ep W).n=((n+1:Nat):Int)∧(sO V d n ep W).v=BX V ep W∧(sO V d n ep W).dev.sure=Am V d.sure ep W∧(sO V d n ep W).dev.wait= []∧(d.oD<0->(sO V d n ep W).dev.oD=d.oD))∨
  ((sO V d n ep W).err=14∧(sO V d n ep W).n=n∧(sO V d n ep W).v=QD V∧0<=d.oD∧∀keeps,InvV secret V (qo (sO V d n ep W).dev.sure (sO V d n ep W).dev.wait keeps (sO V d n ep W).dev.wait.length) n∨InvV secret (BX V ep W) (qo (sO V d n ep W).dev.sure (sO V d n ep W).dev.wait keeps (sO V d n ep W).dev.wait.length) (n+1)):=by
 have hc:=h.cnt;have hnext:=Ro h hn hW he;have hmid:InvV secret V (Yl V d.sure ep W) n:=NS h (GV _ _) (WX hW);have hmay:=VO h hn (ep:=ep) (by have:=h.ep1;omega) (by have:=h.ep2;omega) W;obtain⟨k,hk⟩:=Vo (Ba V.secret ep) (V.now.count+1) W ⟨V.now.sides,V.marks,d⟩ hW.apart;obtain⟨r,hr⟩:∃r,r=rJ (Ba V.secret ep) (V.now.count+1) W ⟨V.now.sides,V.marks,d⟩:=⟨_,rfl⟩
 rw[<-hr]at hk;obtain⟨st,ok⟩:=r;have zcA:∀(t:Va),t=qR V.secret ⟨V.now.count+1,ep,V.now.sides,V.now.root⟩ V.marks d W->t.err=14->0<=d.oD->(∀keeps,InvV secret V (qo t.dev.sure t.dev.wait keeps t.dev.wait.length) n∨InvV secret (BX V ep W) (qo t.dev.sure t.dev.wait keeps t.dev.wait.length) (n+1))->
   ((sO V d n ep W).err=14∧(sO V d n ep W).n=n∧(sO V d n ep W).v=QD V∧0<=d.oD∧∀keeps,InvV secret V (qo (sO V d n ep W).dev.sure (sO V d n ep W).dev.wait keeps (sO V d n ep W).dev.wait.length) n∨InvV secret (BX V ep W) (qo (sO V d n ep W).dev.sure (sO V d n ep W).dev.wait keeps (sO V d n ep W).dev.wait.length) (n+1)):=by
  intro t ht h14 hf hkk;rw[Vl ht (by rw[h14];decide)];exact⟨h14,rfl,rfl,hf,hkk⟩
 have hpart:∀keeps,InvV secret V (qo st.dev.sure st.dev.wait keeps st.dev.wait.length) n:=λkeeps=>by
  have hs:st.dev.sure=d.sure:=hk.sure;have hwt:st.dev.wait=wrV (Ba V.secret ep) (V.now.count+1) V.now.sides (W.take k):=by rw[hk.wait,hw];rfl
  rw[hs,hwt];exact NS h (O8 _ _ keeps _ (aF _)) (WX (hW.take k))
 have hneg:0<=d.oD∨d.oD<0:=by omega
 cases ok with
 | false=>
  right;have hf:0<=d.oD:=by
   rcases hneg with h1|h1
   ·exact h1
   ·have:=(hk.free h1).1;cases this
  exact zcA _ (OC (secret:=V.secret) (x0:=⟨V.now.count+1,ep,V.now.sides,V.now.root⟩) (marks:=V.marks) (d:=d) (W:=W) hr.symm).symm rfl hf λkeeps=> .inl (hpart keeps)
 | true=>
  have hkW:k=W.length:=hk.all rfl;rw[hkW]at hk;have hkw:=hk.wait;have hks:=hk.sides;have hkm:=hk.marks;rw[lX]at hkw hks hkm;have hfz:st.dev.oD=0->0<=d.oD:=λh0=>by
   rcases hneg with h1|h1
   ·exact h1
   ·have h2:st.dev.oD=d.oD:=(hk.free h1).2;omega
  have hfn:d.oD<0->st.dev.oD=d.oD:=λh1=>(hk.free h1).2;have hs:st.dev.sure=d.sure:=hk.sure;have hwt:st.dev.wait=wrV (Ba V.secret ep) (V.now.count+1) V.now.sides W:=by rw[hkw,hw];rfl
  have hsy:st.dev.sync.sure=Yl V d.sure ep W:=by show qx st.dev.sure st.dev.wait=_;rw[hs,hwt];rfl
  have hsw:st.dev.sync.wait= []:=rfl;have hsf:st.dev.sync.oD=wE st.dev.oD:=rfl;have hx:(⟨V.now.count+1,ep,st.sides,rV st.marks⟩:rC)=(BX V ep W).now:=by rw[hks,hkm];rfl
  by_cases h1:st.dev.oD=0
  ·right;exact zcA _ (YW (secret:=V.secret) (x0:=⟨V.now.count+1,ep,V.now.sides,V.now.root⟩) (marks:=V.marks) (d:=d) (W:=W) hr.symm h1).symm rfl (hfz h1) λkeeps=> .inl (hpart keeps)
  have h2:qL (rH V.secret) ⟨V.now.count+1,ep,st.sides,rV st.marks⟩=true:=by rw[hx];exact hmay
  by_cases h3:st.dev.sync.oD=0
  ·right;refine zcA _ (YV (secret:=V.secret) (x0:=⟨V.now.count+1,ep,V.now.sides,V.now.root⟩) (marks:=V.marks) (d:=d) (W:=W) hr.symm h1 h2 h3).symm rfl ?_ λkeeps=> .inl ?_
   ·rcases hneg with h4|h4
    ·exact h4
    ·have:=hfn h4;rw[hsf]at h3;unfold wE at h3;split at h3<;>omega
   ·show InvV secret V (qo st.dev.sync.sure st.dev.sync.wait keeps 0) n;rw[hsy];exact hmid
  obtain⟨d3,hd3⟩:∃d3,d3=st.dev.sync.put ((V.now.count+1) % 2).toNat (zC (rH V.secret) ⟨V.now.count+1,ep,st.sides,rV st.marks⟩):=⟨_,rfl⟩
  have zmD:d3.sure=Yl V d.sure ep W:=by rw[hd3];exact hsy
  have zmC:d3.wait= [(((V.now.count+1) % 2).toNat,BC (zC (rH V.secret) (BX V ep W).now))]:=by rw[hd3,<-hx];rfl
  have zmE:d3.oD=wE (wE st.dev.oD):=by rw[hd3];rfl
  by_cases h4:d3.oD=0
  ·right;refine zcA _ (YU (secret:=V.secret) (x0:=⟨V.now.count+1,ep,V.now.sides,V.now.root⟩) (marks:=V.marks) (d:=d) (W:=W) hr.symm h1 h2 h3 (by rw[<-hd3];exact h4)).symm rfl ?_ λkeeps=> ?_
   ·rcases hneg with h5|h5
    ·exact h5
    ·have:=hfn h5;rw[zmE]at h4;unfold wE at h4;split at h4<;>(try split at h4)<;>omega
   ·show InvV secret V (qo (pG.put _ _ _).sure (pG.put _ _ _).wait keeps (pG.put _ _ _).wait.length) n∨InvV secret _ (qo (pG.put _ _ _).sure (pG.put _ _ _).wait keeps (pG.put _ _ _).wait.length) (n+1);rw[<-hd3,zmD,zmC];show InvV secret V (qo _ [_] keeps 1) n∨InvV secret _ (qo _ [_] keeps 1) (n+1);rw[qo];split
    ·right;exact hnext
    ·left;exact hmid
  ·left;have ht:=(YT (secret:=V.secret) (x0:=⟨V.now.count+1,ep,V.now.sides,V.now.root⟩) (marks:=V.marks) (d:=d) (W:=W) hr.symm h1 h2 h3 (by rw[<-hd3];exact h4)).symm;rw[YR ht rfl (by omega)];refine⟨rfl,(show V.now.count+1=_ by omega),?_,?_,rfl,λh5=> ?_⟩
   ·show(⟨V.secret,⟨V.now.count+1,ep,st.sides,rV st.marks⟩,vI V.texts W,st.marks,V.dead⟩:nT)=_;rw[hx,hkm];rfl
   ·show qx (pG.put _ _ _).sure (pG.put _ _ _).wait=_;rw[<-hd3,zmD,zmC];rfl
   ·show wE (pG.put _ _ _).oD=_;rw[<-hd3,zmE];have:=hfn h5;unfold wE
    repeat(first|(rw[aB (by omega)])|omega)
def zfR(VB B id:Nat)(t:af)(w:World):Prop:=w.cell? ⟨VB,0,none⟩=some (.pointer (some ⟨B,0,none⟩))∧w.cell? ⟨B,38+id,none⟩=some (.string t)
theorem UD{w:World}{B D C VB:Nat}{V:nT}(h:og w B D C V)(hv:w.cell? ⟨VB,0,none⟩=some (.pointer (some ⟨B,0,none⟩)))(id:Nat)(hid:id<32)(s:af):
  ae 155 #[.int .i64 id,.string s,.pointer (some ⟨VB,0,none⟩)] w λe w'=>e= .returned (.bool (!(s.toList==(V.texts.getD id ⟨#[]⟩).toList)))∧Keep nM w w':=by
 obtain⟨t,ht⟩:∃t,t=V.texts.getD id ⟨#[]⟩:=⟨_,rfl⟩
 have L1:zfR VB B id t w:=⟨hv,by rw[ht];exact h.text id hid⟩
 rw[<-ht];clear ht;have jid:(id:Int)<32:=by omega
 have q1:∀y:rE (zfR VB B id t),y.w.cell? ⟨VB,0,none⟩=some (.pointer (some ⟨B,0,none⟩)):=λy=>y.h.1;have q2:∀y:rE (zfR VB B id t),y.w.cell? ⟨B,38+id,none⟩=some (.string t):=λy=>y.h.2;go_enter Tryz.func155,Tryz.ntmps155;have c1:=L1.1;have c2:=L1.2;clear q1 q2 L1;go_wp2_with fail;go_ret;exact⟨rfl,(ah nM w)⟩
def zob(VB B:Nat)(ep:Int)(w:World):Prop:=w.cell? ⟨VB,0,none⟩=some (.pointer (some ⟨B,0,none⟩))∧w.cell? ⟨B,4,none⟩=some (.int .i64 ep)
theorem vK.ret{w w':World}{B D C S:Nat}{V:nT}{wv:Value}{d:pG}{n nP:Int}{M:List Entry}{o:Entry->Bool}{e:Ending}(h:vK w w' B D C S V wv d n nP M o e):∃v,e= .returned v:=by rcases h with⟨_,h,_⟩|⟨_,_,⟨h,_⟩|⟨h,_⟩,_⟩|⟨_,_,h,_⟩<;>exact⟨_,h⟩
theorem vK.back{w0 w w':World}{B D C S:Nat}{V:nT}{wv:Value}{d:pG}{n nP:Int}{M:List Entry}{o:Entry->Bool}{e:Ending}(h:vK w w' B D C S V wv d n nP M o e)(hs:w0.heap.size<=w.heap.size):vK w0 w' B D C S V wv d n nP M o e:=by
 rcases h with h|h|⟨h1,h2,h3,h4,⟨wv',h5,h6⟩,h7⟩
 ·exact .inl h
 ·exact .inr (.inl h)
 ·exact .inr (.inr ⟨h1,h2,h3,h4,⟨wv',h5,Dl (Jt w0 wv) h6 hs⟩,h7⟩)
def y8(V:nT)(p:Entry):Bool:= !(p.2.toList==(V.texts.getD p.1.toNat ⟨#[]⟩).toList)
theorem ZH{w:World}{B D C S:Nat}{V:nT}{wv:Value}{d:pG}{n:Int}{mo:Option Nat}{nm:Nat}{M:List Entry}
  (h:og w B D C V) (hd:qi w D S wv d) (hc:oL w C n) (hm:DR w mo nm M) (hnm:nm<=1000) (U9:0<=V.now.count) (U8:V.now.count<1099511627776) (hdw:d.wait.length<=800000) (zF:V.secret.size<=1000) (zdl:∀m∈V.marks,m.size=16) (R:oG w) (hR:∀b,qg D S wv b->b≠0):
  ae 114 #[.pointer (some ⟨B,0,none⟩),.map mo] w λe w'=>vK w w' B D C S V wv d n V.now.nP M (y8 V) e∧Keep (λb=>qg D S wv b∨b=B∨b=C) w w':=by
 obtain⟨VB,hVB⟩:∃b,b=w.heap.size:=⟨_,rfl⟩
 go_enter Tryz.func114,Tryz.ntmps114;go_upto_region 1 with(fail)
 have r1:=aG w (.cells #[.pointer (some ⟨B,0,none⟩)] 86);have K1:Keep nM w (w.alloc (.cells #[.pointer (some ⟨B,0,none⟩)] 86)):=(ah _ _).alloc _;rw[<-hVB]at r1⊢;obtain⟨w1,hw1⟩:∃w1,w1=w.alloc (.cells #[.pointer (some ⟨B,0,none⟩)] 86):=⟨_,rfl⟩
 rw[<-hw1]at r1 K1⊢;have h1:=h.keep K1 (λx=>x);have c1:w1.cell? ⟨VB,0,none⟩=some (.pointer (some ⟨B,0,none⟩)):=by rw[aO _ _ _ _ _ (0,0) r1];rfl
 have hcall:=λ(eg:∀args w,(callFunc 155 args).run Tryz.prog w= .ok (.enter 155 args) w) (W:World) (KW:Keep nM w1 W)=>
  IW (w:=W) V.now.nP 155 #[.pointer (some ⟨VB,0,none⟩)] (y8 V) (h1.keep KW (λx=>x)) (hd.keep (K1.nK KW) (λ_ _ x=>x)) (hc.keep (K1.nK KW) (λx=>x)) (hm.keep (K1.nK KW)) hnm U9 U8 hdw zF zdl eg (λp hp hb W' KW'=>by
   simp only[Dv,Ut,Ol,jH,gJ]at hb;obtain⟨i,hi⟩:∃i:Nat,p.1=i:=⟨p.1.toNat,by omega⟩
   have h3:=UD (h1.keep (KW.nK KW') (λx=>x)) (((KW.nK KW').cell (p:=⟨VB,0,none⟩) (dX c1) (λx=>x)).trans c1) i (by omega) p.2;rw[y8,hi];exact h3) (R.keep (K1.nK KW) (λx=>x)) hR
 have L1:zob VB B V.now.nP w1:=⟨c1,h1.nP⟩
 obtain⟨ep,hep⟩:∃e,e=V.now.nP:=⟨_,rfl⟩
 rw[<-hep]at hcall L1;have Hep:=ag hep;clear hep;have QR:=ag hcall;have hVn:¬(qg D S wv VB∨VB=B∨VB=C):=by
  have:=h.lt;have:=lt_of_heap hc;rintro(h2|h2|h2)
  ·have:=Xn hd VB h2;omega
  ·omega
  ·omega
 have HVn:=ag hVn;have BU:=ag K1;have q1:∀y:rE (λW':World=>W'.cell? ⟨VB,0,none⟩=some (.pointer (some ⟨B,0,none⟩))),y.w.cell? ⟨VB,0,none⟩=some (.pointer (some ⟨B,0,none⟩)):=λy=>y.h;have q2:∀y:rE (λW':World=>W'.cell? ⟨B,4,none⟩=some (.int .i64 ep)),y.w.cell? ⟨B,4,none⟩=some (.int .i64 ep):=λy=>y.h;have Lc:=ag L1;clear hcall hw1 r1 c1 h1 h hd hc hm R hVB hVn K1 L1;refine CV 8 (λW':World=>W'.cell? ⟨VB,0,none⟩=some (.pointer (some ⟨B,0,none⟩))) (λW':World=>W'.cell? ⟨B,4,none⟩=some (.int .i64 ep)) [(2,0),(2,1),(2,2),(2,3),(2,4),(2,5),(1,6),(2,7),(0,8),(0,9)] (by kernel_rfl) (by kernel_rfl) (λc a d v w h=>by cases d<;>exact h) ?_;simp only[zQ,nR,aj,ak,au]
 repeat(refine nJ (λK hK=> ?_);go_simp;first|(refine⟨_,λ_=>rfl,hK _ ?_⟩;clear hK K;refine nH ?_)|(refine hK _ ?_;clear hK K;refine nH ?_))
 clear q1 q2;refine⟨Lc.out.1,λ_=>Lc.out.2,?_⟩;go_wp2_with fail;refine(QR.out (λ_ _=>rfl) w1.drew (ah nM w1).drew).mono ?_;rintro e w2 ⟨hs,K2⟩;obtain⟨v,rfl⟩:=hs.ret;have K02:=BU.out.vN.trans ((ah nM w1).drew.vN.trans K2 (λi hi hs=>hs)) (λi hi hs=>hs);have c2:w2.cell? ⟨VB,0,none⟩=some (.pointer (some ⟨B,0,none⟩)):=(K2.cell (p:=⟨VB,0,none⟩) (dX Lc.out.1) HVn.out).trans Lc.out.1;have hs2:=hs.back (w0:=w) BU.out.size;have Hs2:=ag hs2;clear hs hs2 K2;go_wp2_with fail;simp only[zQ,nR,aj,ak,au];refine⟨c2,λh=>(by cases h),?_⟩;go_wp2_with fail;go_ret;rw[<-Hep.out];exact⟨Hs2.out,K02⟩
def qG(T:List af)(k:Nat):List Entry:=(List.range k).map λ(i:Nat)=>(((i:Nat):Int),T.getD i ⟨#[]⟩)
theorem P8{P:Program}{T E:TypeId}{len:Nat}{d:TypeDesc}(hu:P.underlying T=some (.array len E))(hE:P.underlying E=some d)(hd:d= .string)(hs:(P.info? E).map (·.size)=some 1)
  (l:List af) (i:Nat) (hl:l.length=len) (hi:i<len) (w:World):(Instr.index T (.agg (l.map Value.string).toArray) (.int .i64 i)).run P w= .ok (.string (l.getD i ⟨#[]⟩)) w:=by
 subst hd;cases hq:P.info? E with
 | none=>simp[hq]at hs
 | some inf=>
  have h1:inf.size=1:=by simpa [hq]using hs
  have hi':i<l.length:=by omega
  have hc:((l.map Value.string).toArray)[i]? =some (.string (l.getD i ⟨#[]⟩)):=by simp[hi']
  have hii:(i:Int)<(len:Int):=by omega
  simp[Instr.index,asIntOf,gK hu,gK hE,sizeOf,typeInfo,hq,h1,part,isAgg,hc,hi,aC hi']
theorem Pj(x:Lit×DataW Unit):∀l:List (Lit×DataW Unit),(∀p∈l,x.1.before p.1=false)->DataW.insert x l=l++ [x]
 | [],_=>rfl
 | p::l,h=>by rw[DataW.insert,h p (aY ..),aB (by decide),Pj x l λq hq=>h q (aQ _ hq)];rfl
theorem SH(T:List af)(k:Nat):(FP (qG T k)).put (.int .i64 k) (.lit (.string (T.getD k ⟨#[]⟩).data.toList))=FP (qG T (k+1)):=by
 have hlt:∀p∈(qG T k).map PY,∃i:Nat,i<k∧p.1= .int .i64 i:=by intro p hp;obtain⟨q,hq,rfl⟩:=bf.1 hp;obtain⟨i,hi,rfl⟩:=bf.1 hq;exact⟨i,iO.1 hi,rfl⟩
 have hf:((qG T k).map PY).filter (λp=> !p.1.sameKey (.int .i64 k))=(qG T k).map PY:=by rw[List.filter_eq_self];intro p hp;obtain⟨i,hi,he⟩:=hlt p hp;rw[he];show(!decide (IntKind.i64=IntKind.i64∧(i:Int)=k))=true;simp;omega
 unfold DataW.put FP;simp only[hf];rw[Pj _ _ λp hp=>by obtain⟨i,hi,he⟩:=hlt p hp;rw[he];show decide ((k:Int)<i)=false;simp;omega]
 rw[show qG T (k+1)=qG T k++ [((k:Int),T.getD k ⟨#[]⟩)]by rw[qG,mF,di];rfl,di];rfl
theorem ZG(a b:Value)(w:World):ae 170 #[a,b] w λe w'=>e= .returned (.bool true)∧Keep nM w w':=by go_enter Tryz.func170,Tryz.ntmps170;go_wp2_with fail;go_ret;exact⟨rfl,ah _ _⟩
theorem ZF{w:World}{B D C S:Nat}{V:nT}{wv:Value}{d:pG}{n:Int}
  (h:og w B D C V) (hd:qi w D S wv d) (hc:oL w C n) (U9:0<=V.now.count) (U8:V.now.count<1099511627776) (hep0:0<=V.now.nP) (hep1:V.now.nP<=1099511627776) (hdw:d.wait.length<=800000) (zF:V.secret.size<=1000) (zdl:∀m∈V.marks,m.size=16) (znQ:∀s∈V.texts,s.size<=200) (R:oG w) (hR:∀b,qg D S wv b->b≠0):
  ae 124 #[.pointer (some ⟨B,0,none⟩)] w λe w'=>vK w w' B D C S V wv d n (V.now.nP+1) (qG V.texts 32) (λ_=>true) e∧Keep (λb=>qg D S wv b∨b=B∨b=C) w w':=by
 go_enter Tryz.func124,Tryz.ntmps124;have hmm:= @run_makeMap Tryz.prog;go_upto_region 2 with(fail)
 clear hmm;obtain⟨w1,hw1⟩:∃w1,w1=w.alloc (Obj.map #[] 0):=⟨_,rfl⟩
 have K1:Keep nM w w1:=by rw[hw1];exact(ah _ _).alloc _
 have m1:yl w1 w.heap.size 0 (qG V.texts 0):=by rw[hw1];exact World.ownsMap_made _ _ _ _
 rw[<-hw1];obtain⟨mb,hmb⟩:∃b,b=w.heap.size:=⟨_,rfl⟩
 rw[<-hmb]at m1⊢;have hV1:=h.keep K1 (λx=>x);obtain⟨ct,hct⟩:∃c,c=(V.texts.map Value.string).toArray:=⟨_,rfl⟩
 have zo9:ct.size=32:=by rw[hct,bT,aI,h.lens.texts]
 have h32:(Tryz.prog.info? 135).map (·.size)=some ct.size:=by rw[zo9];exact Jz
 have hpart:∀(j:Nat) (v:Value),ct[j]? =some v->(nU D C V).toArray[38+j]? =some v:=λj v hv=>by
  have hj:j<32:=by have:=(fO.1 hv).1;omega
  rw[aj,RN h.lens j hj];rw[hct,aj,bC,aC (by rw[h.lens.texts];exact hj)]at hv;rw[<-hv];simp[ax,h.lens.texts,hj]
 have zoh:=ag hpart;have H32:=ag h32;have Hmb:=ag hmb;have Hct:=ag hct;clear hpart h32 hw1 hmb hct;go_wp2_with (first|(refine Aa rfl 135 (.tmp 9) rfl B 38 rfl 137 (nU D C V).toArray (0,0) ct _ hV1.row zoh.out Tryz.underlying135 rfl H32.out ?_))
 go_loopw [11] (λiv wr=>∃k:Nat,iv= .int .i64 k∧k<=32∧Hid (yl wr mb k (qG V.texts k))∧Keep nM w wr) (λiv _=>32-(intOf iv).toNat)
 case atStart=>exact⟨0,rfl,by omega,ag m1,K1⟩
 case round=>
  obtain⟨k,rfl,hk,hmr,KR⟩:=hrel;obtain⟨wo,rfl⟩:∃wo,wo=wr:=⟨_,rfl⟩
  by_cases hlt:k<32
  ·have j1:(k:Int)<32:=by omega
   obtain⟨s,hs⟩:∃s,s=V.texts.getD k ⟨#[]⟩:=⟨_,rfl⟩
   have hix:∀W:World,(Instr.index 135 (.agg ct) (.int .i64 k)).run Tryz.prog W= .ok (.string s) W:=λW=>by rw[Hct.out,hs];exact P8 Tryz.underlying135 Tryz.underlying9 rfl (by have:=Po;cases hq:Tryz.prog.info? 9 with|none=>rw[hq]at this;cases this|some i=>rw[hq]at this;simp only[eQ,eU,iE]at this;rw[eQ,this.2.1]) V.texts k h.lens.texts hlt W
   have Hs:=ag hs;clear hs;have hsz:s.size<=maxLen:=by
    have h5:s∈V.texts:=by rw[Hs.out,ax,aC (by rw[h.lens.texts];exact hlt)];exact fD _
    have:=znQ s h5;unfold maxLen;omega
   have hkey:keyOf Tryz.prog 3 (.int .i64 k)=some (.int .i64 k):=Maps.keyOf_int_mk Tryz.underlying3 (by simp[Lit.wf,show IntKind.i64.min= -9223372036854775808 from rfl,show IntKind.i64.max=9223372036854775807 from rfl];omega);have hval:plainElem (H:=Unit) Tryz.prog 9 (.string s)=some (.lit (.string s.data.toList),[]):=by simp[plainElem,Tryz.underlying9,hsz]
   have hmo:=hmr.out;go_wp2_with (first|(at_mapUpdate;refine wpList_mapUpdate_own _ rfl _ _ _ 169 rfl 3 9 zaO Tryz.underlying169 _ mb k _ rfl hmo (by unfold maxLen;omega) _ _ _ rfl rfl hkey _ [] hval ?_));intro w2 hm2 hg2;rw[Hs.out,SH]at hm2;have K2:Keep nM w w2:=KR.grown hg2 (λq hq=> .inr (by have:=aH hq;have:=Hmb.out;omega));have Hm2:=ag hm2;clear hm2 hg2 hmo hmr hval hkey hix hsz;go_wp2_with fail;refine⟨⟨k+1,by rw[show((k+1:Nat):Int)=(k:Int)+1 from by omega],by omega,Hm2,K2⟩,?_⟩;show 32-((k:Int)+1).toNat<32-(k:Int).toNat;omega
  ·obtain⟨q,hq⟩:∃q:Nat,q=32:=⟨_,rfl⟩
   obtain rfl:k=q:=by omega
   have j1:¬(k:Int)<32:=by omega
   have zaQ:=hmr.out;rw[hq]at zaQ;have zpJ:=ag zaQ;have hVo:=h.keep KR (λx=>x);have ce:=hVo.nP;clear zaQ hmr hq;have hwr:wrap64 (V.now.nP+1)=V.now.nP+1:=by unfold wrap64;omega
   have hwi:IntKind.i64.wrap (V.now.nP+1)=V.now.nP+1:=aW _ (by omega);have hcall:=λ(eg:∀args w,(callFunc 170 args).run Tryz.prog w= .ok (.enter 170 args) w)=>
    IW (w:=wo) (mo:=some mb) (V.now.nP+1) 170 #[] (λ_=>true) hVo (hd.keep KR (λ_ _ x=>x)) (hc.keep KR (λx=>x)) zpJ.out (by omega) U9 U8 hdw zF zdl eg (λp _ _ W' _=>ZG _ _ W') (R.keep KR (λx=>x)) hR
   go_wp2_with fail;refine(hcall (λ_ _=>rfl)).mono ?_;rintro e w2 ⟨hs,K2⟩;obtain⟨v,rfl⟩:=hs.ret;have hs2:=hs.back (w0:=w) KR.size;go_wp2_with fail;go_ret;exact⟨hs2,KR.vN.trans K2 (λi hi h=>h)⟩
theorem RD{α:Type}(d:α){a b:List α}(hl:a.length=b.length)(h:∀i,i<a.length->a.getD i d=b.getD i d):a=b:=by
 apply jy hl;intro i h1 h2;have:=h i h1
 simpa [ax,h1,h2]using this
theorem CO{M:List Entry}{o:Entry->Bool}(hp:M.Pairwise (λp q=>p.1≠q.1))(hg:∀p∈M,Dv p=false):WOk (qE M o):=by
 refine⟨λq hq=>(Dk hp hg q hq).2.2.1,λq hq=>(Dk hp hg q hq).2.2.2,?_⟩;have h1:((M.filter o).map (·.1)).Pairwise (λa b=>a≠b):=by rw[dR];exact hp.filter o
 have h2:(Aj ((M.filter o).map (·.1))).Pairwise (λa b=>a≠b):=((gp _ _).pairwise_iff (λh=>Ne.symm h)).2 h1;rw[<-OY hg,dR]at h2;exact h2.imp λh e=>h (by rw[e])
theorem SG{M:List Entry}{o:Entry->Bool}(hp:M.Pairwise (λp q=>p.1≠q.1)){i:Nat}{s:af}(hm:((i:Int),s)∈M)(ho:o ((i:Int),s)=true):(i,s)∈qE M o:=by refine bf.2 ⟨(i:Int),(gp _ _).mem_iff.2 (bf.2 ⟨((i:Int),s),fJ.2 ⟨hm,ho⟩,rfl⟩),?_⟩;rw[AL hp hm];rfl
theorem OX{M:List Entry}{o:Entry->Bool}(hp:M.Pairwise (λp q=>p.1≠q.1))(hg:∀p∈M,Dv p=false){i:Nat}(h:∀s,((i:Int),s)∈M->o ((i:Int),s)=false):∀q∈qE M o,q.1≠i:=by intro q hq e;have h1:=(Dk hp hg q hq).1;obtain⟨p,hpf,he⟩:=bf.1 h1;have h2:=fJ.1 hpf;have h3:p=((i:Int),p.2):=Prod.ext (by rw[he,e]) rfl;have h4:=h p.2 (by rw[<-h3];exact h2.1);rw[<-h3,h2.2]at h4;cases h4
def textsOf(T:List af)(M:List Entry):List af:=(List.range 32).map λ(i:Nat)=>(getM M (i:Int)).getD (T.getD i ⟨#[]⟩)
theorem AU(T:List af)(M:List Entry):(textsOf T M).length=32:=by simp[textsOf]
theorem Jn(T:List af)(M:List Entry)(i:Nat)(hi:i<32):(textsOf T M).getD i ⟨#[]⟩=(getM M (i:Int)).getD (T.getD i ⟨#[]⟩):=by rw[textsOf,ax,bC,kX hi];rfl
theorem OM{T:List af}{M:List Entry}{o:Entry->Bool}(hT:T.length=32)(hp:M.Pairwise (λp q=>p.1≠q.1))(hg:∀p∈M,Dv p=false)(ho:∀(i:Nat) (s:af),((i:Int),s)∈M->o ((i:Int),s)=false->s=T.getD i ⟨#[]⟩):vI T (qE M o)=textsOf T M:=by
 refine RD ⟨#[]⟩ ((yQ _ _).trans (hT.trans (AU T M).symm)) λi hi=> ?_;have hi:i<32:=by rw[OO,yQ,hT]at hi;exact hi
 rw[Jn T M i hi,OO];cases hk:getM M (i:Int)with
 | none=>
  rw[zZ T i _ T (OX hp hg λs hs=>by rw[AL hp hs]at hk;cases hk)];rfl
 | some s=>
  have hm:=Zb hk;cases hos:o ((i:Int),s)with
  | true=>rw[D8 i s _ T (CO hp hg).apart (SG hp hm hos) (by rw[hT];exact hi)];rfl
  | false=>
   rw[zZ T i _ T (OX hp hg λs' hs'=> ?_)]
   ·rw[<-ho i s hm hos];rfl
   ·have h1:=AL hp hs';rw[hk]at h1;rw[<-aH h1];exact hos
theorem zac{V:nT}{i:Nat}{s:af}(h:y8 V ((i:Int),s)=false):s=V.texts.getD i ⟨#[]⟩:=by simp only[y8,Bool.not_eq_false',jP]at h;rw[show((i:Int)).toNat=i from rfl]at h;exact xy (by rw[bs,bs,<-bQ,<-bQ,h])
theorem ET{T:List af}{k:Nat}{p:Entry} :p∈qG T k↔∃i:Nat,i<k∧p=((i:Int),T.getD i ⟨#[]⟩):=by
 rw[qG,bf];constructor
 ·rintro⟨i,hi,rfl⟩;exact⟨i,iO.1 hi,rfl⟩
 ·rintro⟨i,hi,rfl⟩;exact⟨i,iO.2 hi,rfl⟩
theorem um(T:List af)(k:Nat):(qG T k).Pairwise (λp q=>p.1≠q.1):=by rw[qG,dR];exact List.nodup_range.imp λh e=>h (by exact Int.ofNat.inj e)
theorem vS{T:List af}(ht:∀s∈T,s.size<=200)(hT:T.length=32):∀p∈qG T 32,Dv p=false:=by intro p hp;obtain⟨i,hi,rfl⟩:=ET.1 hp;have h2:=getD_mem (P:=λs=>s.size<=200) ht i (by rw[hT];exact hi);simp only[Dv,Ut,Ol,jH,gJ];omega
theorem Xu{T:List af}(hT:T.length=32):textsOf T (qG T 32)=T:=by refine RD ⟨#[]⟩ ((AU _ _).trans hT.symm) λi hi=> ?_;rw[AU]at hi;rw[Jn _ _ i hi,AL (um T 32) (ET.2 ⟨i,hi,rfl⟩)];rfl
theorem SI{T:List af} :∀i,i<32->∃s,(i,s)∈qE (qG T 32) (λ_=>true):=λi hi=>
 ⟨T.getD i ⟨#[]⟩,SG (um T 32) (ET.2 ⟨i,hi,rfl⟩) rfl⟩
def VB(B D C S:Nat)(wv:Value):Nat->Prop:=λb=>qg D S wv b∨b=B∨b=C
structure VN(w0 w:World)(B D C S:Nat)(wv:Value)(V:nT)(d:pG)(n:Int):Prop where
 yX:og w B D C V
 dev:qi w D S wv d
 cnt:oL w C n
 own:∀b,VB B D C S wv b->w0.heap.size<=b
 keep:Keep nM w0 w
section
variable {w0 w w':World}{B D C S:Nat}{wv wv':Value}{V V':nT}{d d':pG}{n n':Int}
theorem VN.lt(h:VN w0 w B D C S wv V d n):∀b,VB B D C S wv b->b<w.heap.size:=by
 rintro b (hb|rfl|rfl)
 ·exact Xn h.dev b hb
 ·exact h.yX.lt
 ·exact lt_of_heap h.cnt
theorem VN.oz(h:VN w0 w B D C S wv V d n)(hk:Keep nM w w'):VN w0 w' B D C S wv V d n:=
 ⟨h.yX.keep hk (λx=>x),h.dev.keep hk (λ_ _ x=>x),h.cnt.keep hk (λx=>x),h.own,h.keep.nK hk⟩
theorem VN.out(h:VN w0 w B D C S wv V d n){X:Nat->Prop}(hk:Keep X w w')(hn:∀b,VB B D C S wv b->¬X b)(hx:∀b,b<w0.heap.size->¬X b):VN w0 w' B D C S wv V d n:=
 ⟨h.yX.keep hk (hn B (.inr (.inl rfl))),h.dev.keep hk (λb hb=>hn b (.inl hb)),h.cnt.keep hk (hn C (.inr (.inr rfl))),h.own,h.keep.trans hk (λi hi hs=>absurd hs (hx i hi))⟩
theorem Gp(h:zL w wv wv'):∀b,VB B D C S wv' b->VB B D C S wv b∨w.heap.size<=b:=by
 rintro b ((rfl|rfl|hb)|rfl|rfl)
 ·exact .inl (.inl (.inl rfl))
 ·exact .inl (.inl (.inr (.inl rfl)))
 ·rcases h with h|h
  ·exact .inl (.inl (.inr (.inr (h▸hb))))
  ·exact .inr (h b hb)
 ·exact .inl (.inr (.inl rfl))
 ·exact .inl (.inr (.inr rfl))
theorem VN.step(h:VN w0 w B D C S wv V d n)(hv:og w' B D C V')(hd:qi w' D S wv' d')(hc:oL w' C n')(hm:zL w wv wv')(hk:Keep (VB B D C S wv) w w'):VN w0 w' B D C S wv' V' d' n':=
 ⟨hv,hd,hc,λb hb=>by
  rcases Gp hm b hb with hb|hb
  ·exact h.own b hb
  ·exact bH h.keep.size hb,h.keep.trans hk (λi hi hs=>by have:=h.own i hs;omega)⟩
theorem VN.rounds(h:VN w0 w B D C S wv V d n)(R:oG w0):∀b,qg D S wv b->b≠0:=by
 intro b hb e;have h1:=h.own b (.inl hb);have h2:=dX (R 0 (by decide));rw[e]at h1
 have:(0:Nat)<w0.heap.size:=h2
 omega
theorem ziS(hd:qi w D S wv d)(hk:Keep nM w0 w)(hown:∀b,qg D S wv b∨b=C->w0.heap.size<=b){n:Nat}(hc:oL w C n)(hn:n<1000000)(hb:∀i,i<66->(d.now.getD i ⟨#[]⟩).size=256){secret:af}(hs:secret.size=16)(R:oG w0){V:nT}{m:Int}(ho:yS secret d.now n=some (V,m)):
  ae 57 #[.pointer (some ⟨D,0,none⟩),.pointer (some ⟨C,0,none⟩),.string secret] w λe w'=>(∃B,w.heap.size<=B∧e= .returned (.tuple #[.pointer (some ⟨B,0,none⟩),.nilIface])∧VN w0 w' B D C S wv V d m)∧Keep (nY C) w w':=by
 refine(IX hd hb n (by omega) hc secret hs (R.keep hk (λx=>x))).mono ?_;rintro e w' ⟨hs,hk'⟩;rw[ho]at hs;obtain⟨B,he,hB,hv,hc'⟩:=hs;refine⟨⟨B,hB,he,hv,hd.keep hk' (λb hb e=>by cases e;exact yP hd hc hb),hc',?_,hk.trans hk' (λi hi e=>by cases e;have:=hown C (.inr rfl);omega)⟩,hk'⟩;rintro b (hb|rfl|rfl)
 ·exact hown b (.inl hb)
 ·exact bH hk.size hB
 ·exact hown b (.inr rfl)
end
def vY(V:nT)(d:pG)(n ep:Int)(W:List (Nat×af)):Told:=if V.dead=true then⟨6,V,d,n⟩else sO V d n ep W
structure Qv(N:Int)(V:nT):Prop where
 m16:∀m∈V.marks,m.size=16
 t200:∀s∈V.texts,s.size<=200
 MV:0<=V.now.count
 cnt1:V.now.count<=N
 ep0:0<=V.now.nP
 ep1:V.now.nP<=1099511627776
 sec:V.secret.size=16
 sides:V.now.sides.length=32
 texts:V.texts.length=32
 marks:V.marks.length=32
theorem Qv.mono{N N':Int}{V:nT}(h:Qv N V)(hn:N<=N'):Qv N' V:= { h with cnt1:=Int.le_trans h.cnt1 hn }
theorem Qv.die{N:Int}{V:nT}(h:Qv N V):Qv N (QD V):=⟨h.m16,h.t200,h.MV,h.cnt1,h.ep0,h.ep1,h.sec,h.sides,h.texts,h.marks⟩
structure vC(M:Nat)(d:pG):Prop where
 len:d.sure.length=66
 sure:∀s∈d.sure,s.size=256
 wait:∀p∈d.wait,p.2.size=256
 few:d.wait.length<=M
theorem vC.mono{M M':Nat}{d:pG}(h:vC M d)(hm:M<=M'):vC M' d:= { h with few:=bH h.few hm }
theorem vC.zcT{M:Nat}{d:pG}(h:vC M d):d.now.length=66:=(yQ _ _).trans h.len
theorem vC.now{M:Nat}{d:pG}(h:vC M d):∀s∈d.now,s.size=256:=CU (P:=λs=>s.size=256) _ _ h.wait h.sure
theorem vC.at{M:Nat}{d:pG}(h:vC M d):∀i,i<66->(d.now.getD i ⟨#[]⟩).size=256:=λi hi=>getD_mem (P:=λs=>s.size=256) h.now i (by rw[h.zcT];exact hi)
theorem vC.sync{M:Nat}{d:pG}(h:vC M d):vC 0 d.sync:=⟨h.zcT,h.now,λp hp=>(by cases hp),aF _⟩
theorem vC.put{M:Nat}{d:pG}(h:vC M d)(k:Nat)(s:af)(hs:s.size<=256):vC (M+1) (d.put k s):=by
 refine⟨h.len,h.sure,λp hp=> ?_,?_⟩
 ·rcases dG.1 hp with hp|hp
  ·exact h.wait p hp
  ·obtain rfl:=bD.1 hp;exact Iq s hs
 ·show(d.wait++ [(k,BC s)]).length<=M+1;rw[ay];have:=h.few;simp only[aK,bI];omega
structure zbc(M:Nat)(st:xA):Prop where
 dev:vC M st.dev
 marks:∀m∈st.marks,m.size=16
 sides:st.sides.length=32
 len:st.marks.length=32
theorem Vm(key:af)(pg:Int):∀(W:List (Nat×af)) (st:xA) (M:Nat),zbc M st->(∀p∈W,p.2.size<=200)->zbc (M+W.length) (rJ key pg W st).1
 | [],st,M,h,_=>h
 | p::W,st,M,h,hW=>by
  rw[rJ];split
  ·exact⟨h.dev.mono (by omega),h.marks,h.sides,h.len⟩
  ·have hp:=hW p aY;have h1:zbc (M+1) (uA key pg st p):=by
    refine⟨h.dev.put _ _ (by rw[EP _ _ _ _ hp];omega),λm hm=> ?_,?_,?_⟩
    ·rcases iT hm with hm|rfl
     ·exact h.marks m hm
     ·exact xI _ _ _
    ·show(st.sides.set _ _).length=32;rw[dN,h.sides]
    ·show(st.marks.set _ _).length=32;rw[dN,h.len]
   have h2:=Vm key pg W _ (M+1) h1 (λq hq=>hW q (aQ _ hq));rw[aK,show M+(W.length+1)=M+1+W.length by omega];exact h2
theorem Vt{key:af}{x:rC}(h:qL key x=true):0<=x.nP∧x.nP<=1099511627776:=by unfold qL JO at h;simp only[aZ,aS]at h;omega
theorem zgx{M:Nat}{secret:af}{x0:rC}{marks:List af}{d:pG}{W:List (Nat×af)}(h:vC M d)(hx:x0.sides.length=32)(hm:∀m∈marks,m.size=16)(hl:marks.length=32)(hW:∀p∈W,p.2.size<=200):
  vC (M+W.length+1) (qR secret x0 marks d W).dev∧(∀m∈(qR secret x0 marks d W).marks,m.size=16)∧(qR secret x0 marks d W).marks.length=32∧(qR secret x0 marks d W).x.sides.length=32∧(qR secret x0 marks d W).x.count=x0.count∧((qR secret x0 marks d W).err=0->0<=(qR secret x0 marks d W).x.nP∧(qR secret x0 marks d W).x.nP<=1099511627776):=by
 have ht:=Vm (Ba secret x0.nP) x0.count W ⟨x0.sides,marks,d⟩ M ⟨h,hm,hx,hl⟩ hW;unfold qR;obtain⟨r,hr⟩:∃r,r=rJ (Ba secret x0.nP) x0.count W ⟨x0.sides,marks,d⟩:=⟨_,rfl⟩
 rw[<-hr]at ht⊢;simp only[];have h0:=ht.dev.mono (show M+W.length<=M+W.length+1 by omega);have h1:=ht.dev.sync.mono (show 0<=M+W.length+1 by omega);split
 ·exact⟨h0,ht.marks,ht.len,ht.sides,rfl,λe=>by cases e⟩
 split
 ·exact⟨h0,ht.marks,ht.len,ht.sides,rfl,λe=>by cases e⟩
 split
 ·exact⟨h1,ht.marks,ht.len,ht.sides,rfl,λe=>by cases e⟩
 split
 ·exact⟨h1,ht.marks,ht.len,ht.sides,rfl,λe=>by cases e⟩
 rename_i hmay _;have hmay:qL (rH secret) ⟨x0.count,x0.nP,r.1.sides,rV r.1.marks⟩=true:=by
  cases hq:qL (rH secret) ⟨x0.count,x0.nP,r.1.sides,rV r.1.marks⟩with
  | true=>rfl
  | false=>exact absurd hq hmay
 have h2:=ht.dev.sync.put (x0.count % 2).toNat (zC (rH secret) ⟨x0.count,x0.nP,r.1.sides,rV r.1.marks⟩) (by rw[Io ht.sides hmay];omega);split
 ·exact⟨h2.mono (by omega),ht.marks,ht.len,ht.sides,rfl,λe=>by cases e⟩
 ·exact⟨h2.sync.mono (by omega),ht.marks,ht.len,ht.sides,rfl,λ_=>Vt hmay⟩
theorem YS{M:Nat}{N:Int}{V:nT}{d:pG}{n ep:Int}{W:List (Nat×af)}(hV:Qv N V)(h:vC M d)(hW:∀p∈W,p.2.size<=200):
  Qv (N+1) (vY V d n ep W).v∧vC (M+W.length+1) (vY V d n ep W).dev∧((vY V d n ep W).n=n∨(vY V d n ep W).n=V.now.count+1):=by
 unfold vY;split
 ·exact⟨hV.mono (by omega),h.mono (by omega),.inl rfl⟩
 ·obtain⟨t1,t2,t3,t4,t5,t6⟩:=zgx (secret:=V.secret) (x0:=⟨V.now.count+1,ep,V.now.sides,V.now.root⟩) h hV.sides hV.m16 hV.marks hW;unfold sO;obtain⟨t,ht⟩:∃t,t=qR V.secret ⟨V.now.count+1,ep,V.now.sides,V.now.root⟩ V.marks d W:=⟨_,rfl⟩
  rw[<-ht]at t1 t2 t3 t4 t5 t6⊢;simp only[];split
  ·exact⟨hV.die.mono (by omega),t1,.inl rfl⟩
  ·rename_i he;have he:t.err=0:=Decidable.not_not.1 he;split
   ·exact⟨hV.die.mono (by omega),t1,.inl rfl⟩
   ·refine⟨⟨t2,CU (P:=λs=>s.size<=200) _ _ hW hV.t200,?_,?_,(t6 he).1,(t6 he).2,hV.sec,t4,(yQ _ _).trans hV.texts,t3⟩,t1,.inr rfl⟩
    ·show 0<=t.x.count;rw[t5];have:=hV.MV;show 0<=V.now.count+1;omega
    ·show t.x.count<=_;rw[t5];have:=hV.cnt1;show V.now.count+1<=_;omega
theorem XO(key s:List Nat):(xB key s).length<=200:=by unfold xB;rw[bG];omega
theorem Z9{key:af}{i:Nat}{s:af}{p:af×af}(h:yc key i s=some p):p.1.size<=200:=by
 unfold yc at h;split at h
 ·rw[<-aH h];exact dL _
 ·split at h
  ·rw[<-aH h];show(txt _).size<=200;rw[oU];exact XO _ _
  ·cases h
theorem zdL{secret:af}{B:List af}{c:Int}{x:rC}(h:yI secret B c=some x):x.count=c∧0<=x.nP∧x.nP<=1099511627776∧x.sides.length=32:=by
 unfold yI at h;split at h
 ·rename_i he;have hx:=aH h;rw[hx]at he;refine⟨he.2,?_⟩;have h1:=he.1;unfold vG at h1;split at h1
  ·rename_i hk;split at h1
   ·cases h1
   ·rename_i hl;split at h1
    ·rename_i hp;have e:x=qI (B.getD (c % 2).toNat ⟨#[]⟩):=by rw[<-hx,tC,aP ⟨hk,by omega,hp⟩]
     have hm:qL (rH secret) x=true:=by rw[e];unfold x9 at hp;simp only[aZ]at hp;exact hp.1.1
     have:=Vt hm;exact⟨this.1,this.2,by rw[e];exact uZ _⟩
    ·cases h1
  ·cases h1
 ·cases h
theorem zbR{key:af}{B:List af}{sides:List Bool}{l:List (af×af)}(h:uQ key B sides 32=some l):l.length=32∧(∀p∈l,p.1.size<=200∧p.2.size=16):=by have hl:=Dj 32 l h;refine⟨hl,λp hp=> ?_⟩;obtain⟨i,hi,rfl⟩:=jQ hp;have hg:=GU 32 l h i (by omega);rw[aC hi]at hg;exact⟨Z9 hg,O0 hg⟩
theorem RU{secret:af}(hs:secret.size=16){B:List af}{c:Int}(hc:0<=c){V:nT}(h:vW secret B c=some V):Qv c V∧V.now.count=c∧V.dead=false∧V.secret=secret:=by
 unfold vW at h;split at h
 ·cases h
 ·rename_i x hx;obtain⟨x1,x2,x3,x4⟩:=zdL hx;unfold Ap at h;split at h
  ·cases h
  ·rename_i l hl;split at h
   ·obtain⟨l1,l2⟩:=zbR hl;obtain rfl:=aH h;refine⟨⟨λm hm=> ?_,λs hs=> ?_,by show 0<=x.count;omega,by show x.count<=c;omega,x2,x3,hs,x4,by simpa using l1,by simpa using l1⟩,x1,rfl,rfl⟩
    ·obtain⟨p,hp,rfl⟩:=bf.1 hm;exact(l2 p hp).2
    ·obtain⟨p,hp,rfl⟩:=bf.1 hs;exact(l2 p hp).1
   ·cases h
theorem Ry{secret:af}(hs:secret.size=16):Qv 0 (uU secret):=by
 refine⟨λm hm=> ?_,λs hs=> ?_,jO _,jO _,by show(0:Int)<=1;decide,by show(1:Int)<=_;decide,hs,bP,bP,by simp[uU]⟩
 ·obtain⟨i,_,rfl⟩:=bf.1 hm;exact xI _ _ _
 ·rw[kZ hs];exact dL _
theorem zgZ{secret:af}(hs:secret.size=16){B:List af}{n m:Int}(hn:0<=n){V:nT}(h:yS secret B n=some (V,m)):Qv m V∧V.now.count=m∧V.dead=false∧V.secret=secret∧(m=n∨m=n+1):=by
 unfold yS at h;split at h
 ·rename_i v hv;simp only[eU,iE]at h;obtain⟨rfl,rfl⟩:=h;obtain⟨h1,h2,h3,h4⟩:=RU hs (by omega) hv;exact⟨h1,h2,h3,h4,.inr rfl⟩
 ·split at h
  ·simp only[eU,iE]at h;obtain⟨rfl,rfl⟩:=h;exact⟨Ry hs,rfl,rfl,rfl,.inl (by omega)⟩
  ·cases hv:vW secret B n with
   | none=>rw[hv]at h;cases h
   | some v=>
    rw[hv]at h;simp only[eQ,eU,iE]at h;obtain⟨rfl,rfl⟩:=h;obtain⟨h1,h2,h3,h4⟩:=RU hs hn hv;exact⟨h1,h2,h3,h4,.inl rfl⟩
section
variable {w0 w w':World}{B D C S:Nat}{wv:Value}{V:nT}{d:pG}{n:Int}
def YD(w0 w w':World)(B D C S:Nat)(wv:Value)(V:nT)(d:pG)(n ep:Int)(W:List (Nat×af))(e:Ending):Prop:=
 e= .returned (errVal (vY V d n ep W).err)∧∃wv',zL w wv wv'∧VN w0 w' B D C S wv' (vY V d n ep W).v (vY V d n ep W).dev (vY V d n ep W).n
theorem YQ(h:VN w0 w B D C S wv V d n){M:List Entry}{o:Entry->Bool}{ep:Int}(hg:∀p∈M,Dv p=false){e:Ending}
  (hs:vK w w' B D C S V wv d n ep M o e) (hk:Keep (VB B D C S wv) w w'):YD w0 w w' B D C S wv V d n ep (qE M o) e:=by
 unfold YD vY;rcases hs with⟨hd,he,hv,hdv,hc⟩|⟨_,⟨p,hpm,hb⟩,_⟩|⟨hd,_,he',hv,⟨wv',hdv,hm⟩,hc⟩
 ·rw[aP hd];exact⟨he,wv,.inl rfl,h.step hv hdv hc (.inl rfl) hk⟩
 ·rw[hg p hpm]at hb;cases hb
 ·rw[aB (by rw[hd];decide)];exact⟨he',wv',hm,h.step hv hdv hc hm hk⟩
theorem zlk(h:VN w0 w B D C S wv V d n){N:Int}(hV:Qv N V)(hN:N<1000000)(hw:d.wait.length<=800000)(R:oG w0){mb nm:Nat}{M:List Entry}(hm:yl w mb nm M)(hnm:nm<=1000)(hg:∀p∈M,Dv p=false):
  ae 114 #[.pointer (some ⟨B,0,none⟩),.map (some mb)] w λe w'=>YD w0 w w' B D C S wv V d n V.now.nP (qE M (y8 V)) e∧Keep (VB B D C S wv) w w':=by
 refine(ZH (mo:=some mb) h.yX h.dev h.cnt hm hnm hV.MV (by have:=hV.cnt1;omega) hw (by rw[hV.sec];decide) hV.m16 (R.keep h.keep (λx=>x)) (h.rounds R)).mono ?_;rintro e w' ⟨hs,hk⟩;exact⟨YQ h hg hs hk,hk⟩
theorem zli(h:VN w0 w B D C S wv V d n){N:Int}(hV:Qv N V)(hN:N<1000000)(hw:d.wait.length<=800000)(R:oG w0):
  ae 124 #[.pointer (some ⟨B,0,none⟩)] w λe w'=>YD w0 w w' B D C S wv V d n (V.now.nP+1) (qE (qG V.texts 32) (λ_=>true)) e∧Keep (VB B D C S wv) w w':=by
 refine(ZF h.yX h.dev h.cnt hV.MV (by have:=hV.cnt1;omega) hV.ep0 hV.ep1 hw (by rw[hV.sec];decide) hV.m16 hV.t200 (R.keep h.keep (λx=>x)) (h.rounds R)).mono ?_;rintro e w' ⟨hs,hk⟩;exact⟨YQ h (vS hV.t200 hV.texts) hs hk,hk⟩
end
def zoz:af:=⟨#[48,49,50,51,52,53,54,55,56,57,97,98,99,100,101,102]⟩
theorem YZ(i:Nat)(hi:i<66):wU.getD i ⟨#[]⟩=ug:=by rw[wU,ax,jg,aP hi];rfl
structure LaidSt(w0 w:World)(B D C S:Nat)(wv:Value)(V:nT)(sure:List af)(n:Nat)(hv:Value)(hvs:List Value)(H:List (List af))(iv:Value)(ivs:List Value)(I:List (List af)):Prop where
 vn:VN w0 w B D C S wv V ⟨sure,[],-1⟩ n
 had:zjV w w0.heap.size 28 hv hvs H
 img:zjV w w0.heap.size 28 iv ivs I
 h1:∀b,zbd hv hvs H b->¬VB B D C S wv b∧¬zbd iv ivs I b
 i1:∀b,zbd iv ivs I b->¬VB B D C S wv b
section
variable {w0 w w':World}{B D C S:Nat}{wv wv':Value}{V V':nT}{sure sure':List af}{n n':Nat}{hv iv hv' iv' x:Value}{hvs ivs:List Value}{H I:List (List af)}{l:List af}
end
section
variable {w0 w:World}{B D C S:Nat}{wv:Value}{V:nT}{d:pG}{n':Int}
end
end Go.Proofs.YtopbkdebihcmcaaGreatDoor
