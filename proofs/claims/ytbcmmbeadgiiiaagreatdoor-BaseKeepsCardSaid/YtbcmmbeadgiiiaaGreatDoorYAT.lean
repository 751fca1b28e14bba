import Derived.Test.YtbcmmbeadgiiiaaGreatDoorYAK
import Derived.Test.YtbcmmbeadgiiiaaGreatDoorYAL
import Derived.Test.YtbcmmbeadgiiiaaGreatDoorYAR
set_option linter.all false
namespace Go.Proofs.YtbcmmbeadgiiiaaGreatDoor
open Go.RowKit Tryz
set_option maxRecDepth 100000
set_option maxHeartbeats 16000000
variable{a:Act}{ops:Array Oper}{cs:Array ay}{Q:Exit->Act->ax->Prop}{qx:List Bool}{rest:List Oper}{B:List af}{i j n:Nat}{key:af}
def tJ(s:af):uX:=⟨yV ((bs s).drop 2),yV ((bs s).drop 10),(List.range 32).map λi=>decide ((bs s).getD (18+i) 0=49),s.extract 50 66⟩
def xB(s:af):(tJ s).qx.length=32:=by simp[tJ]
def sZ:uX:=⟨0,0,List.replicate 32 false,⟨#[]⟩⟩
def Ac(key s:af):Bool:=uV key (tJ s)&&decide ((bs s).take 82=EF key (tJ s))&&decide ((bs s).drop 82=List.replicate (s.size-82) 0)
def xe(key s:af):Int:=if key.size=32 then(if s.size<82 then 15 else if Ac key s then 0 else 15)else 1
def vJ(key s:af):uX:=if key.size=32∧82<=s.size∧Ac key s=true then tJ s else sZ
def NL(key s:af):(vJ key s).qx.length=32:=by
 rw[vJ];split
 ·exact xB s
 exact bP
def Q9(s:af)(hs:8<=s.size)(JO:s.size<=1000000)(w:ax):
  ae 217 #[.string s] w λe w'=>e= .returned (.int .i64 (yV (bs s)))∧w'=w:=by
 go_enter func217,ntmps217;go_wp2_with fail
 go_loopw [3,5] (λv i wr=>∃k:Nat,k<=8∧i= .int .i64 k∧v= .int .i64 (zfC (Ov ((bs s).take k)))∧wr=w) (λ_ i _=>8-(intOf i).toNat)
 case atStart=>exact⟨0,by omega,rfl,by rw[dD];show _=Value.int .i64 (wrap64 ((0:Nat):Int));unfold wrap64;rfl,rfl⟩
 case round=>
  obtain⟨k,hk,rfl,rfl,rfl⟩:=hrel;by_cases rE:k<8
  ·have j1:(k:Int)<8:=by omega
   have Tu:k<s.size:=by omega
   have hki:(k:Int)<s.size:=by omega
   have wJ:=QH (bs s) k (by rw[ry];exact Tu);rw[xZ s k Tu]at wJ;have hor:=zor (Ov ((bs s).take k)) s[k].toNat s[k].toNat_lt;rw[<-wJ]at hor;have Jm:=ag wJ;have Hor:=ag hor;clear wJ hor;have hw8:=VU s k Tu;go_wp2_with fail;exact⟨⟨k+1,by omega,by go_num,by rw[Hor.o],trivial⟩,by simp[intOf];omega⟩
  obtain rfl:k=8:=by omega
  go_wp2_with fail;go_ret;exact⟨rfl,rfl⟩
def CQ(secret:af)(qB:Int):af:=uu (sha (mark 107 [bs secret,sS (vG qB)]))
def vV(secret:af):af:=uu (sha (mark 115 [bs secret]))
def QK(secret:af)(qB:Int):(CQ secret qB).size=32:=by rw[CQ,rH,Ei]
def zaK(secret:af):(vV secret).size=32:=by rw[vV,rH,Ei]
def uI(id rf:Int)(text:af):af:=uu (Sl id rf (bs text))
def FY(id rf:Int)(text:af):(uI id rf text).size=16:=by rw[uI,rH,Sl,Dh]
def vI(i:Nat)(side:Bool):Nat:=2+2*i+cond side 1 0
def Ff(h:i<32)(side:Bool):vI i side<66:=by cases side<;>simp[vI]<;>omega
def zdo(i:Nat)(side:Bool):2<=vI i side:=by cases side<;>simp[vI]<;>omega
def zaX{a b:Bool}(h:vI i a=vI j b):i=j∧a=b:=by cases a<;>cases b<;>simp[vI]at h⊢ <;>omega
instance (key:List Nat)(id:Int)(s:List Nat):Decidable (TQ key id s):=inferInstanceAs (Decidable (_=_))
def Ad(key:af)(i:Nat)(s:af):Option (af×af):=
 if (bs s).take 8=sS 0 then some (⟨#[]⟩,uI i 0 ⟨#[]⟩)
 else if TQ (bs key) i (bs s)then some (uu (yY (bs key) (bs s)),uI i (yV (bs s)) (uu (yY (bs key) (bs s))))else none
def BL(key:af)(B:List af)(qx:List Bool)(i:Nat):Option (af×af):=Ad key i (B.getD (vI i (qx.getD i false)) ⟨#[]⟩)
def yI(key:af)(B:List af)(qx:List Bool):Nat->Option (List (af×af))
 | 0=>some []
 | n+1=>match yI key B qx n,BL key B qx n with
  | some l,some p=>some (l++ [p])
  | _,_=>none
def PM :∀(n:Nat) (l:List (af×af)),yI key B qx n=some l->l.length=n
 | 0,l,h=>by
   obtain rfl: []=l:=by simpa [yI]using h
   rfl
 | n+1,l,h=>by
  rw[yI]at h;split at h
  ·rename_i l' p hl hp;rw[<-aU h,aN,PM n l' hl];rfl
  cases h
def UU(h:BL key B qx i=none):∀n,i<n->yI key B qx n=none
 | 0,hn=>by omega
 | n+1,hn=>by
  rw[yI];by_cases e:i=n
  ·subst e;rw[h];split<;>simp_all
  rw[UU h n (by omega)]
def UT(f:Nat->af×af):∀n,(∀i,i<n->BL key B qx i=some (f i))->yI key B qx n=some ((List.range n).map f)
 | 0,_=>rfl
 | n+1,h=>by rw[yI,UT f n (λi hi=>h i (by omega)),h n (by omega),lH,dK];rfl
def XW :∀(n:Nat) (l:List (af×af)),yI key B qx n=some l->∀i,i<n->BL key B qx i=l[i]?
 | 0,_,_,i,hi=>by omega
 | n+1,l,h,i,hi=>by
  rw[yI]at h;split at h
  ·rename_i l' p hl hp;have hlen:=PM n l' hl;rw[<-aU h];by_cases e:i=n
   ·subst e;rw[hp,bT (by omega),hlen,kz];rfl
   rw[dL (by omega)];exact XW n l' hl i (by omega)
  cases h
def zhX{s:af}{p:af×af}(h:Ad key i s=some p):p.2.size=16:=by
 unfold Ad at h;split at h
 ·rw[<-aU h];exact FY _ _ _
 split at h
 ·rw[<-aU h];exact FY _ _ _
 cases h
structure qI where
 secret:af
 now:uX
 texts:List af
 marks:List af
 dead:Bool
def EP(secret:af)(B:List af)(x:uX):Option (List af×List af):=
 match yI (CQ secret x.qB) B x.qx 32 with
 | none=>none
 | some l=>if vS (l.map (·.2))=x.root then some (l.map (·.1),l.map (·.2))else none
def DC(secret:af)(B:List af)(count:Int):Option uX:=
 if xe (vV secret) (B.getD (count % 2).toNat ⟨#[]⟩)=0∧(vJ (vV secret) (B.getD (count % 2).toNat ⟨#[]⟩)).count=count then some (vJ (vV secret) (B.getD (count % 2).toNat ⟨#[]⟩))else none
def xX(secret:af)(B:List af)(count:Int):Option qI:=
 match DC secret B count with
 | none=>none
 | some x=>(EP secret B x).map λp=>⟨secret,x,p.1,p.2,false⟩
def yS(secret:af):qI:=⟨secret,⟨0,1,List.replicate 32 false,⟨#[]⟩⟩,List.replicate 32 ⟨#[]⟩,(List.range 32).map λ(i:Nat)=>uI (i:Int) 0 ⟨#[]⟩,false⟩
def IX(secret:af)(B:List af)(n:Int):Option (qI×Int):=
 match xX secret B (n+1)with
 | some v=>some (v,n+1)
 | none=>if n=0 then some (yS secret,0)else(xX secret B n).map λv=>(v,n)
structure vN where
 qy:List af
 wait:List (Nat×af)
 qR:Int
def vN.now(d:vN):List af:=sQ d.qy d.wait
def vN.put(d:vN)(k:Nat)(s:af):vN:=⟨d.qy,d.wait++ [(k,BD s)],x9 d.qR⟩
def vN.sync(d:vN):vN:=⟨sQ d.qy d.wait,[],x9 d.qR⟩
def IW(key:af)(id rf:Int)(text:af):af:=uu (OT (bs key) id rf (bs text))
def Nl(key:af)(id rf:Int)(text:af)(h:text.size<=200):(IW key id rf text).size=237:=by rw[IW,rH,OT,MR,aN,aN,aN,zac,Ns,xU,Eh,WH (bs text) (by rw[ry];exact h)]
structure DK where
 qx:List Bool
 marks:List af
 dev:vN
def yX(key:af)(rf:Int)(st:DK)(p:Nat×af):DK:=
 ⟨st.qx.set p.1 (!st.qx.getD p.1 false),st.marks.set p.1 (uI p.1 rf p.2),st.dev.put (vI p.1 (!st.qx.getD p.1 false)) (IW key p.1 rf p.2)⟩
def wZ(key:af)(rf:Int):List (Nat×af)->DK->DK×Bool
 | [],st=>(st,true)
 | p::r,st=>if st.dev.qR=0 then(st,false)else wZ key rf r (yX key rf st p)
def ui(texts:List af)(W:List (Nat×af)):List af:=W.foldl (λl p=>l.set p.1 p.2) texts
def Jz(key:af)(rf:Int):∀(A B:List (Nat×af)) (st:DK),wZ key rf (A++B) st=if (wZ key rf A st).2=true then wZ key rf B (wZ key rf A st).1 else wZ key rf A st
 | [],B,st=>rfl
 | p::A,B,st=>by
  rw[fV,wZ,wZ];split
  ·rfl
  exact Jz key rf A B _
structure zcY where
 err:Int
 x:uX
 marks:List af
 dev:vN
def zg(secret:af)(x0:uX)(marks:List af)(d:vN)(W:List (Nat×af)):zcY:=
 let r:=wZ (CQ secret x0.qB) x0.count W ⟨x0.qx,marks,d⟩
 let x:uX:=⟨x0.count,x0.qB,r.1.qx,vS r.1.marks⟩
 if r.2=false then⟨14,x,r.1.marks,r.1.dev⟩
 else if r.1.dev.qR=0 then⟨14,x,r.1.marks,r.1.dev⟩
 else if uV (vV secret) x=false then⟨1,x,r.1.marks,r.1.dev.sync⟩
 else if r.1.dev.sync.qR=0 then⟨14,x,r.1.marks,r.1.dev.sync⟩
 else if (r.1.dev.sync.put (x0.count % 2).toNat (Cf (vV secret) x)).qR=0 then⟨14,x,r.1.marks,r.1.dev.sync.put (x0.count % 2).toNat (Cf (vV secret) x)⟩
 else⟨0,x,r.1.marks,(r.1.dev.sync.put (x0.count % 2).toNat (Cf (vV secret) x)).sync⟩
structure Told where
 err:Int
 v:qI
 dev:vN
 n:Int
def VC(v:qI):qI:= { v with dead:=true }
def xE(v:qI)(d:vN)(n:Int)(qB:Int)(W:List (Nat×af)):Told:=
 let t:=zg v.secret ⟨v.now.count+1,qB,v.now.qx,v.now.root⟩ v.marks d W
 if t.err≠0 then⟨t.err,VC v,t.dev,n⟩
 else if v.now.count+1<=n then⟨10,VC v,t.dev,n⟩
 else⟨0,⟨v.secret,t.x,ui v.texts W,t.marks,v.dead⟩,t.dev,v.now.count+1⟩
section
variable {P:Program}{w:ax}
def zcz{t:aB}(hi:(P.info? t).map (λi=>(i.zero,i.size))=some (some (.agg cs),n)):
  (Instr.alloc t true (.tuple #[])).run P w= .ok (.pointer (some ⟨w.heap.size,0,none⟩)) (w.alloc (.cells cs t)):=by
 cases hq:P.info? t with
 | none=>simp[hq]at hi
 | some inf=>
  have h1:inf.zero=some (.agg cs):=by simp[hq]at hi;exact hi.1
  simp[Instr.alloc,zeroValue,typeInfo,hq,h1,newVar,Value.cells,newRow]
def qN{o:Oper}(hg:o.guard=none)(t:aB)(ho:o.op= .alloc t)(hi:(P.info? t).map (λi=>(i.zero,i.size))=some (some (.agg cs),n))
  (h:wpList P ops Q rest (a.put o.dst (.pointer (some ⟨w.heap.size,0,none⟩))) (w.alloc (.cells cs t))):wpList P ops Q (o::rest) a w:=
 pR hg λK hK=>by unfold Oper.wp execOp;simp only[ho,lJ,Sem.run_pure,mQ,zcz hi];exact hK _ _ h
def qZ{o:Oper}(hg:o.guard=none)(t:aB)(parts:Array (Nat×Operand))(ho:o.op= .build t parts)(cells:Array ay)
  (hf:P.built t (parts.map λ(i,x)=>(i,a.eval x)).toList=some cells)
  (h:wpList P ops Q rest (a.put o.dst (.agg cells)) w):wpList P ops Q (o::rest) a w:=
 wpList_build hg t parts ho (by rw[hf];rfl) (by rw[hf];exact h)
end
def tZ{P:Program}{fn:Func}{p q:Tmp}{ty:aB}(h:fn.results= #[.cell p ty,.tmp q])(tmps:Array ay)(w:ax)(g:Nat)(t:aB)(cs:Array ay)(fr:Nat×Nat)(d:TypeDesc)(v:ay)
  (hp:tmps.getD p undef= .pointer (some ⟨g,0,none⟩)) (hq:tmps.getD q undef=v) (hg:w.heap[g]? =some (.cells cs t fr))
  (hu:P.underlying ty=some d) (hd:(match d with| .struct _| .array _ _=>true|_=>false)=true) (hi:(P.info? ty).map (·.size)=some cs.size):
  (results fn tmps).run P w= .ok (.tuple #[.agg cs,v]) w:=by
 have hp':tmps[p]?.getD undef= .pointer (some ⟨g,0,none⟩):=by simpa using hp
 have hq':tmps[q]?.getD undef=v:=by simpa using hq
 simp[results,h,hp',hq',asAddr,run_loadVar_row w g t ty cs fr d hg hu hd hi]
def sU(x:uX):(qG x).toArray.all (·.oneCell')=true:=by rw[List.all_toArray,gV];intro v hv;simp only[qG,dX,dO,iT,lN,bY]at hv;rcases hv with((rfl|rfl)|⟨b,_,rfl⟩)|rfl<;>rfl
def xP:(prog.info? 66).map (λi=>(i.zero,i.size))=some (some (tH sZ),35):=by kernel_rfl
def sK:(prog.info? 66).map (·.size)=some 35:=by kernel_rfl
def Aj:prog.built 66 []=some (qG sZ).toArray:=by kernel_rfl
def zdQ(a b:Int)(s:af):prog.built 66 [(0,.int .i64 a),(1,.int .i64 b),(3,.string s)]=some (qG ⟨a,b,List.replicate 32 false,s⟩).toArray:=by kernel_rfl
def Au:(qG sZ).toArray.size=35:=by kernel_rfl
def ze7(RB:Nat)(key s:af)(hk:key.size≠32)(w:ax):
  ae 141 #[.pointer (some ⟨RB,0,none⟩),.string key,.string s] w (au (.tuple #[tH sZ,.int .i64 1]) w):=by
 have j0:¬((key.size:Nat):Int)=32:=by omega
 have yh:=xP;have Qh:=Aj;have AP:=Au;have xu:=sU sZ;have Gg:(prog.info? 66).map (·.size)=some (qG sZ).toArray.size:=by rw[AP];exact sK
 rw[tH]at yh⊢;obtain⟨cz,JL⟩:=aj ((qG sZ).toArray);rw[<-JL]at yh Qh AP xu Gg⊢;clear JL;have EJ:=ag yh;have Hbz:=ag Qh;have Gf:=ag Gg;clear yh Qh Gg;go_enter func141,ntmps141;go_wp2_with (first|(refine qN rfl 66 rfl EJ.o ?_;refine qQ (λw9=>w9.heap[w.heap.size]? =some (.cells cz 66 (0,0))∧ak w w9) ⟨aQ w _,(ah qw w).alloc _⟩ ?_;rintro w9 ⟨Qj,K9⟩)|(refine qZ rfl 66 #[] rfl cz (by simpa using Hbz.o) ?_)|(refine qL rfl 66 (.tmp 6) (.tmp 15) rfl w.heap.size 66 cz cz rfl rfl Qj Gf.o 35 AP AP xu ?_;have wI:=qO (c':=cz) Qj;have BC:=K9.setRow (g:=w.heap.size) (.inr (aS _)) cz;refine qQ (λAV=>AV.heap[w.heap.size]? =some (.cells cz 66 (0,0))∧ak w AV) ⟨wI,BC⟩ ?_;clear wI BC;rintro AV ⟨wI,BC⟩));exact eF (v:= .tuple #[.agg cz,.int .i64 1]) (tZ rfl _ AV w.heap.size 66 cz (0,0) _ (.int .i64 1) rfl rfl wI dM rfl Gf.o) rfl ⟨rfl,BC⟩
def zbK(RB:Nat)(key s:af)(hk:key.size=32)(hs:s.size<82)(w:ax):
  ae 141 #[.pointer (some ⟨RB,0,none⟩),.string key,.string s] w (au (.tuple #[tH sZ,.int .i64 15]) w):=by
 have j0:((key.size:Nat):Int)=32:=by omega
 have j1:((s.size:Nat):Int)<82:=by omega
 have yh:=xP;have Qh:=Aj;have AP:=Au;have xu:=sU sZ;have Gg:(prog.info? 66).map (·.size)=some (qG sZ).toArray.size:=by rw[AP];exact sK
 rw[tH]at yh⊢;obtain⟨cz,JL⟩:=aj ((qG sZ).toArray);rw[<-JL]at yh Qh AP xu Gg⊢;clear JL;have EJ:=ag yh;have Hbz:=ag Qh;have Gf:=ag Gg;clear yh Qh Gg;go_enter func141,ntmps141;go_wp2_with (first|(refine qN rfl 66 rfl EJ.o ?_;refine qQ (λw9=>w9.heap[w.heap.size]? =some (.cells cz 66 (0,0))∧ak w w9) ⟨aQ w _,(ah qw w).alloc _⟩ ?_;rintro w9 ⟨Qj,K9⟩)|(refine qZ rfl 66 #[] rfl cz (by simpa using Hbz.o) ?_)|(refine qL rfl 66 (.tmp 6) (.tmp 19) rfl w.heap.size 66 cz cz rfl rfl Qj Gf.o 35 AP AP xu ?_;have wI:=qO (c':=cz) Qj;have BC:=K9.setRow (g:=w.heap.size) (.inr (aS _)) cz;refine qQ (λAV=>AV.heap[w.heap.size]? =some (.cells cz 66 (0,0))∧ak w AV) ⟨wI,BC⟩ ?_;clear wI BC;rintro AV ⟨wI,BC⟩));exact eF (v:= .tuple #[.agg cz,.int .i64 15]) (tZ rfl _ AV w.heap.size 66 cz (0,0) _ (.int .i64 15) rfl rfl wI dM rfl Gf.o) rfl ⟨rfl,BC⟩
def zeS(key s:af)(hk:key.size≠32)(w:ax):
  ae 150 #[.string key,.string s] w (au (.tuple #[tH sZ,qY 1]) w):=by
 have j0:¬((key.size:Nat):Int)=32:=by omega
 have yh:=xP;have Qh:=Aj;have AP:=Au;have xu:=sU sZ;have Gg:(prog.info? 66).map (·.size)=some (qG sZ).toArray.size:=by rw[AP];exact sK
 rw[tH]at yh⊢;obtain⟨cz,JL⟩:=aj ((qG sZ).toArray);rw[<-JL]at yh Qh AP xu Gg⊢;clear JL;have EJ:=ag yh;have Hbz:=ag Qh;have Gf:=ag Gg;clear yh Qh Gg;go_enter func150,ntmps150;go_wp2_with (first|(refine qN rfl 66 rfl EJ.o ?_;refine qQ (λw9=>w9.heap[w.heap.size]? =some (.cells cz 66 (0,0))∧ak w w9) ⟨aQ w _,(ah qw w).alloc _⟩ ?_;rintro w9 ⟨Qj,K9⟩)|(refine qZ rfl 66 #[] rfl cz (by simpa using Hbz.o) ?_)|(refine qL rfl 66 (.tmp 4) (.tmp 14) rfl w.heap.size 66 cz cz rfl rfl Qj Gf.o 35 AP AP xu ?_;have wI:=qO (c':=cz) Qj;have BC:=K9.setRow (g:=w.heap.size) (.inr (aS _)) cz;refine qQ (λAV=>AV.heap[w.heap.size]? =some (.cells cz 66 (0,0))∧ak w AV) ⟨wI,BC⟩ ?_;clear wI BC;rintro AV ⟨wI,BC⟩));exact eF (v:= .tuple #[.agg cz,qY 1]) (tZ rfl _ AV w.heap.size 66 cz (0,0) _ (qY 1) rfl rfl wI dM rfl Gf.o) rfl ⟨rfl,BC⟩
def zbD(key s:af)(hk:key.size=32)(hs:s.size<82)(w:ax):
  ae 150 #[.string key,.string s] w (au (.tuple #[tH sZ,qY 15]) w):=by
 have j0:((key.size:Nat):Int)=32:=by omega
 have j1:((s.size:Nat):Int)<82:=by omega
 have yh:=xP;have Qh:=Aj;have AP:=Au;have xu:=sU sZ;have Gg:(prog.info? 66).map (·.size)=some (qG sZ).toArray.size:=by rw[AP];exact sK
 rw[tH]at yh⊢;obtain⟨cz,JL⟩:=aj ((qG sZ).toArray);rw[<-JL]at yh Qh AP xu Gg⊢;clear JL;have EJ:=ag yh;have Hbz:=ag Qh;have Gf:=ag Gg;clear yh Qh Gg;go_enter func150,ntmps150;go_wp2_with (first|(refine qN rfl 66 rfl EJ.o ?_;refine qQ (λw9=>w9.heap[w.heap.size]? =some (.cells cz 66 (0,0))∧ak w w9) ⟨aQ w _,(ah qw w).alloc _⟩ ?_;rintro w9 ⟨Qj,K9⟩))
 go_quiet (fail)
 go_wp2_with (first|(refine qZ rfl 66 #[] rfl cz (by simpa using Hbz.o) ?_)|(refine qL rfl 66 (.tmp 4) (.tmp 36) rfl w.heap.size 66 cz cz rfl rfl (show(w9.drewN nq).heap[w.heap.size]? =_ from Qj) Gf.o 35 AP AP xu ?_;have wI:=qO (c':=cz) (show(w9.drewN nq).heap[w.heap.size]? =_ from Qj);have BC:=(K9.drewN nq).setRow (g:=w.heap.size) (.inr (aS _)) cz;refine qQ (λAV=>AV.heap[w.heap.size]? =some (.cells cz 66 (0,0))∧ak w AV) ⟨wI,BC⟩ ?_;clear wI BC;rintro AV ⟨wI,BC⟩));exact eF (v:= .tuple #[.agg cz,qY 15]) (tZ rfl _ AV w.heap.size 66 cz (0,0) _ (qY 15) rfl rfl wI dM rfl Gf.o) rfl ⟨rfl,BC⟩
def put_comm(a:Act)(h:i≠j)(x y:ay):(a.put (some i) x).put (some j) y=(a.put (some j) y).put (some i) x:=by
 show({ a with tmps:=(a.tmps.setIfInBounds i x).setIfInBounds j y } :Act)= { a with tmps:=(a.tmps.setIfInBounds j y).setIfInBounds i x }
 congr 1
 apply kW;intro k;simp only[Array.getElem?_setIfInBounds,Array.size_setIfInBounds];by_cases h1:j=k
 ·subst h1;rw[bu rfl,aV h];simp
 rw[aV h1];by_cases h2:i=k
 ·rw[bu h2,bu h2]
 rw[aV h2,aV h2,aV h1]
section
variable {P:Program}{ops:Array Oper}{C:ax->Prop}{Q:Exit->Act->ax->Prop}{a:Act}{w:ax}
structure znF(P:Program)(ops:Array Oper)(i:Nat)(d:Nat)(t:aB)(c:Array ay)(n:Nat):Prop where
 zero:(P.info? t).map (λi=>(i.zero,i.size))=some (some (.agg c),n)
 op:∃o,qC ops [i]= [o]∧o.guard=none∧o.op= .alloc t∧o.dst=some d
def znF.run{d:Nat}{t:aB}{c:Array ay}(h:znF P ops i d t c n){K:Act->ax->Prop}(hK:K (a.put (some d) (.pointer (some ⟨w.heap.size,0,none⟩))) (w.alloc (.cells c t))):wpList P ops (Exit.then K Q) (qC ops [i]) a w:=by obtain⟨o,h1,h2,h3,h4⟩:=h.op;rw[h1];exact qN h2 t h3 h.zero (by rw[h4];exact hK)
def zja{k di dj dk:Nat}{ti tj tk:aB}{ci cj ck:Array ay}{ni nj nk:Nat}(t:Tr)(hi:znF P ops i di ti ci ni)(hj:znF P ops j dj tj cj nj)(hk:znF P ops k dk tk ck nk)(hd:di≠dj∧di≠dk∧dj≠dk)(hC:∀W,ak w W->C W)
  (h:∀X T S y,(w.heap.size<=X∧w.heap.size<=T∧w.heap.size<=S∧X≠T∧X≠S∧T≠S)->y.heap[X]? =some (.cells ci ti (0,0))->y.heap[T]? =some (.cells cj tj (0,0))->y.heap[S]? =some (.cells ck tk (0,0))->ak w y->wC P ops C Q t true (((a.put (some di) (.pointer (some ⟨X,0,none⟩))).put (some dj) (.pointer (some ⟨T,0,none⟩))).put (some dk) (.pointer (some ⟨S,0,none⟩))) y):
  wC P ops C Q (.alt i (.alt j (.alt k t .no) (.alt k (.alt j t .no) .no)) (.alt j (.alt i (.alt k t .no) (.alt k (.alt i t .no) .no)) (.alt k (.alt i (.alt j t .no) (.alt j (.alt i t .no) .no)) .no))) true a w:=by
 have e0:∀(w:ax) (o:Obj),(w.alloc o).heap.size=w.heap.size+1:=λw o=>dW _;have n0:∀(w:ax) (c:Array ay) (t:aB),ak w (w.alloc (.cells c t)):=λw c t=>(ah qw w).alloc _;have f3:∀(c1 c2 c3:Array ay) (t1 t2 t3:aB),∃y,y=((w.alloc (.cells c1 t1)).alloc (.cells c2 t2)).alloc (.cells c3 t3)∧y.heap[w.heap.size]? =some (.cells c1 t1 (0,0))∧y.heap[w.heap.size+1]? =some (.cells c2 t2 (0,0))∧y.heap[w.heap.size+2]? =some (.cells c3 t3 (0,0))∧ak w y:=by
  intro c1 c2 c3 t1 t2 t3;refine⟨_,rfl,?_,?_,?_,((ah qw w).alloc _).alloc _|>.alloc _⟩
  ·exact(n0 _ c3 t3).heap ((n0 _ c2 t2).heap (aQ w _) (λx=>x)) (λx=>x)
  ·have:=(n0 ((w.alloc (.cells c1 t1)).alloc (.cells c2 t2)) c3 t3).heap (aQ (w.alloc (.cells c1 t1)) (.cells c2 t2)) (λx=>x)
   rwa [e0]at this
  have:=aQ ((w.alloc (.cells c1 t1)).alloc (.cells c2 t2)) (.cells c3 t3)
  rwa [e0,e0]at this
 have k1:∀(c:Array ay) (t:aB),C (w.alloc (.cells c t)):=λc t=>hC _ (n0 w c t);have k2:∀(c c2:Array ay) (t t2:aB),C ((w.alloc (.cells c t)).alloc (.cells c2 t2)):=λc c2 t t2=>hC _ ((n0 w c t).alloc _);obtain⟨d1,d2,d3⟩:=hd;unfold wC;refine⟨hC w (ah _ _),hi.run ?_,?_⟩
 ·unfold wC;refine⟨k1 _ _,hj.run ?_,?_⟩
  ·unfold wC;refine⟨k2 _ _ _ _,hk.run ?_,by unfold wC;trivial⟩;obtain⟨y,hy,h1,h2,h3,K⟩:=f3 ci cj ck ti tj tk;have:=h w.heap.size (w.heap.size+1) (w.heap.size+2) y (by omega) h1 h2 h3 K;rw[hy]at this;simp only[e0];exact this
  unfold wC;refine⟨hk.run ?_,by unfold wC;trivial⟩;unfold wC;refine⟨k2 _ _ _ _,hj.run ?_,by unfold wC;trivial⟩;obtain⟨y,hy,h1,h2,h3,K⟩:=f3 ci ck cj ti tk tj;have:=h w.heap.size (w.heap.size+2) (w.heap.size+1) y (by omega) h1 h3 h2 K;rw[hy,put_comm _ d3]at this;simp only[e0];exact this
 ·unfold wC;refine⟨hj.run ?_,?_⟩
  ·unfold wC;refine⟨k1 _ _,hi.run ?_,?_⟩
   ·unfold wC;refine⟨k2 _ _ _ _,hk.run ?_,by unfold wC;trivial⟩;obtain⟨y,hy,h1,h2,h3,K⟩:=f3 cj ci ck tj ti tk;have:=h (w.heap.size+1) w.heap.size (w.heap.size+2) y (by omega) h2 h1 h3 K;rw[hy,put_comm a d1]at this;simp only[e0];exact this
   unfold wC;refine⟨hk.run ?_,by unfold wC;trivial⟩;unfold wC;refine⟨k2 _ _ _ _,hi.run ?_,by unfold wC;trivial⟩;obtain⟨y,hy,h1,h2,h3,K⟩:=f3 cj ck ci tj tk ti;have:=h (w.heap.size+2) w.heap.size (w.heap.size+1) y (by omega) h3 h1 h2 K;rw[hy,put_comm a d1,put_comm _ d2]at this;simp only[e0];exact this
  unfold wC;refine⟨hk.run ?_,by unfold wC;trivial⟩;unfold wC;refine⟨k1 _ _,hi.run ?_,?_⟩
  ·unfold wC;refine⟨k2 _ _ _ _,hj.run ?_,by unfold wC;trivial⟩;obtain⟨y,hy,h1,h2,h3,K⟩:=f3 ck ci cj tk ti tj;have:=h (w.heap.size+1) (w.heap.size+2) w.heap.size y (by omega) h2 h3 h1 K;rw[hy,put_comm _ d3,put_comm a d2]at this;simp only[e0];exact this
  unfold wC;refine⟨hj.run ?_,by unfold wC;trivial⟩;unfold wC;refine⟨k2 _ _ _ _,hi.run ?_,by unfold wC;trivial⟩;obtain⟨y,hy,h1,h2,h3,K⟩:=f3 ck cj ci tk tj ti;have:=h (w.heap.size+2) (w.heap.size+1) w.heap.size y (by omega) h3 h2 h1 K;rw[hy,put_comm _ d3,put_comm a d2,put_comm _ d1]at this;simp only[e0];exact this
end
