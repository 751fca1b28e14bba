import Derived.Test.YtopbkdebihcmcaaGreatDoorYAO
import Derived.Test.YtopbkdebihcmcaaGreatDoorYAP
import Derived.Test.YtopbkdebihcmcaaGreatDoorYBE
import Derived.WideMake
set_option linter.unusedSimpArgs false
set_option linter.unusedVariables false
namespace Go.Proofs.YtopbkdebihcmcaaGreatDoor
open Go.RowKit
set_option maxRecDepth 100000
set_option maxHeartbeats 16000000
section
variable {P:Program}{w:World}
end
def qI(s:af):rC:=⟨zi ((bs s).drop 2),zi ((bs s).drop 10),(List.range 32).map λi=>decide ((bs s).getD (18+i) 0=49),s.extract 50 66⟩
theorem uZ(s:af):(qI s).sides.length=32:=by simp[qI]
def qX:rC:=⟨0,0,List.replicate 32 false,⟨#[]⟩⟩
def x9(key s:af):Bool:=qL key (qI s)&&decide ((bs s).take 82=Dt key (qI s))&&decide ((bs s).drop 82=List.replicate (s.size-82) 0)
def vG(key s:af):Int:=if key.size=32 then(if s.size<82 then 15 else if x9 key s then 0 else 15)else 1
def tC(key s:af):rC:=if key.size=32∧82<=s.size∧x9 key s=true then qI s else qX
theorem LH(key s:af):(tC key s).sides.length=32:=by
 rw[tC];split
 ·exact uZ s
 ·exact bP
theorem IZ(s:af)(hs:8<=s.size)(hs2:s.size<=1000000)(w:World):
  ae 176 #[.string s] w λe w'=>e= .returned (.int .i64 (zi (bs s)))∧w'=w:=by
 go_enter Tryz.func176,Tryz.ntmps176;go_wp2_with fail
 go_loopw [3,5] (λv i wr=>∃k:Nat,k<=8∧i= .int .i64 k∧v= .int .i64 (zaM (Je ((bs s).take k)))∧wr=w) (λ_ i _=>8-(intOf i).toNat)
 case atStart=>exact⟨0,by omega,rfl,by rw[bZ];show _=Value.int .i64 (wrap64 ((0:Nat):Int));unfold wrap64;rfl,rfl⟩
 case round=>
  obtain⟨k,hk,rfl,rfl,rfl⟩:=hrel;by_cases hlt:k<8
  ·have j1:(k:Int)<8:=by omega
   have hks:k<s.size:=by omega
   have hki:(k:Int)<s.size:=by omega
   have hstep:=VK (bs s) k (by rw[bs_len];exact hks);rw[bs_getD s k hks]at hstep;have hor:=zf8 (Je ((bs s).take k)) s[k].toNat s[k].toNat_lt;rw[<-hstep]at hor;have Hst:=ag hstep;have Hor:=ag hor;clear hstep hor;have hw8:=VA s k hks;go_wp2_with fail;exact⟨⟨k+1,by omega,by go_num,by rw[Hor.out],trivial⟩,by simp[intOf];omega⟩
  ·obtain rfl:k=8:=by omega
   go_wp2_with fail;go_ret;exact⟨rfl,rfl⟩
def Ba(secret:af)(nP:Int):af:=txt (sha (mark 107 [bs secret,qB (uf nP)]))
def rH(secret:af):af:=txt (sha (mark 115 [bs secret]))
theorem VX(secret:af)(nP:Int):(Ba secret nP).size=32:=by rw[Ba,oU,yB]
theorem Si(secret:af):(rH secret).size=32:=by rw[rH,oU,yB]
def uy(id pg:Int)(text:af):af:=txt (QV id pg (bs text))
theorem xI(id pg:Int)(text:af):(uy id pg text).size=16:=by rw[uy,oU,QV,AB]
def tX(i:Nat)(side:Bool):Nat:=2+2*i+cond side 1 0
theorem DZ{i:Nat}(h:i<32)(side:Bool):tX i side<66:=by cases side<;>simp[tX]<;>omega
theorem VF(i:Nat)(side:Bool):2<=tX i side:=by cases side<;>simp[tX]<;>omega
theorem SE{i j:Nat}{a b:Bool}(h:tX i a=tX j b):i=j∧a=b:=by cases a<;>cases b<;>simp[tX]at h⊢ <;>omega
instance (key:List Nat)(id:Int)(s:List Nat):Decidable (U6 key id s):=inferInstanceAs (Decidable (_=_))
def yc(key:af)(i:Nat)(s:af):Option (af×af):=
 if (bs s).take 8=qB 0 then some (⟨#[]⟩,uy i 0 ⟨#[]⟩)
 else if U6 (bs key) i (bs s)then some (txt (xB (bs key) (bs s)),uy i (zi (bs s)) (txt (xB (bs key) (bs s))))else none
def zT(key:af)(B:List af)(sides:List Bool)(i:Nat):Option (af×af):=yc key i (B.getD (tX i (sides.getD i false)) ⟨#[]⟩)
def uQ(key:af)(B:List af)(sides:List Bool):Nat->Option (List (af×af))
 | 0=>some []
 | n+1=>match uQ key B sides n,zT key B sides n with
  | some l,some p=>some (l++ [p])
  | _,_=>none
theorem Dj{key:af}{B:List af}{sides:List Bool} :∀(n:Nat) (l:List (af×af)),uQ key B sides n=some l->l.length=n
 | 0,l,h=>by
   obtain rfl: []=l:=by simpa [uQ]using h
   rfl
 | n+1,l,h=>by
  rw[uQ]at h;split at h
  ·rename_i l' p hl hp;rw[<-aH h,ay,Dj n l' hl];rfl
  ·cases h
theorem LQ{key:af}{B:List af}{sides:List Bool}{i:Nat}(h:zT key B sides i=none):∀n,i<n->uQ key B sides n=none
 | 0,hn=>by omega
 | n+1,hn=>by
  rw[uQ];by_cases e:i=n
  ·subst e;rw[h];split<;>simp_all
  ·rw[LQ h n (by omega)]
theorem LP{key:af}{B:List af}{sides:List Bool}(f:Nat->af×af):∀n,(∀i,i<n->zT key B sides i=some (f i))->uQ key B sides n=some ((List.range n).map f)
 | 0,_=>rfl
 | n+1,h=>by rw[uQ,LP f n (λi hi=>h i (by omega)),h n (by omega),mF,di];rfl
theorem GU{key:af}{B:List af}{sides:List Bool} :∀(n:Nat) (l:List (af×af)),uQ key B sides n=some l->∀i,i<n->zT key B sides i=l[i]?
 | 0,_,_,i,hi=>by omega
 | n+1,l,h,i,hi=>by
  rw[uQ]at h;split at h
  ·rename_i l' p hl hp;have hlen:=Dj n l' hl;rw[<-aH h];by_cases e:i=n
   ·subst e;rw[hp,cu (by omega),hlen,lU];rfl
   ·rw[dE (by omega)];exact GU n l' hl i (by omega)
  ·cases h
theorem O0{key:af}{i:Nat}{s:af}{p:af×af}(h:yc key i s=some p):p.2.size=16:=by
 unfold yc at h;split at h
 ·rw[<-aH h];exact xI _ _ _
 ·split at h
  ·rw[<-aH h];exact xI _ _ _
  ·cases h
structure nT where
 secret:af
 now:rC
 texts:List af
 marks:List af
 dead:Bool
def Ap(secret:af)(B:List af)(x:rC):Option (List af×List af):=
 match uQ (Ba secret x.nP) B x.sides 32 with
 | none=>none
 | some l=>if rV (l.map (·.2))=x.root then some (l.map (·.1),l.map (·.2))else none
def yI(secret:af)(B:List af)(count:Int):Option rC:=
 if vG (rH secret) (B.getD (count % 2).toNat ⟨#[]⟩)=0∧(tC (rH secret) (B.getD (count % 2).toNat ⟨#[]⟩)).count=count then some (tC (rH secret) (B.getD (count % 2).toNat ⟨#[]⟩))else none
def vW(secret:af)(B:List af)(count:Int):Option nT:=
 match yI secret B count with
 | none=>none
 | some x=>(Ap secret B x).map λp=>⟨secret,x,p.1,p.2,false⟩
def uU(secret:af):nT:=⟨secret,⟨0,1,List.replicate 32 false,⟨#[]⟩⟩,List.replicate 32 ⟨#[]⟩,(List.range 32).map λ(i:Nat)=>uy (i:Int) 0 ⟨#[]⟩,false⟩
def yS(secret:af)(B:List af)(n:Int):Option (nT×Int):=
 match vW secret B (n+1)with
 | some v=>some (v,n+1)
 | none=>if n=0 then some (uU secret,0)else(vW secret B n).map λv=>(v,n)
structure pG where
 sure:List af
 wait:List (Nat×af)
 oD:Int
def pG.now(d:pG):List af:=qx d.sure d.wait
def pG.put(d:pG)(k:Nat)(s:af):pG:=⟨d.sure,d.wait++ [(k,BC s)],wE d.oD⟩
def pG.sync(d:pG):pG:=⟨qx d.sure d.wait,[],wE d.oD⟩
def Fp(key:af)(id pg:Int)(text:af):af:=txt (IM (bs key) id pg (bs text))
theorem EP(key:af)(id pg:Int)(text:af)(h:text.size<=200):(Fp key id pg text).size=237:=by rw[Fp,oU,IM,EF,ay,ay,ay,Rh,EW,yx,BG,NW (bs text) (by rw[bs_len];exact h)]
structure xA where
 sides:List Bool
 marks:List af
 dev:pG
def uA(key:af)(pg:Int)(st:xA)(p:Nat×af):xA:=
 ⟨st.sides.set p.1 (!st.sides.getD p.1 false),st.marks.set p.1 (uy p.1 pg p.2),st.dev.put (tX p.1 (!st.sides.getD p.1 false)) (Fp key p.1 pg p.2)⟩
def rJ(key:af)(pg:Int):List (Nat×af)->xA->xA×Bool
 | [],st=>(st,true)
 | p::r,st=>if st.dev.oD=0 then(st,false)else rJ key pg r (uA key pg st p)
def vI(texts:List af)(W:List (Nat×af)):List af:=W.foldl (λl p=>l.set p.1 p.2) texts
theorem Dy(key:af)(pg:Int):∀(A B:List (Nat×af)) (st:xA),rJ key pg (A++B) st=if (rJ key pg A st).2=true then rJ key pg B (rJ key pg A st).1 else rJ key pg A st
 | [],B,st=>rfl
 | p::A,B,st=>by
  rw[dI,rJ,rJ];split
  ·rfl
  ·exact Dy key pg A B _
structure Va where
 err:Int
 x:rC
 marks:List af
 dev:pG
def qR(secret:af)(x0:rC)(marks:List af)(d:pG)(W:List (Nat×af)):Va:=
 let r:=rJ (Ba secret x0.nP) x0.count W ⟨x0.sides,marks,d⟩
 let x:rC:=⟨x0.count,x0.nP,r.1.sides,rV r.1.marks⟩
 if r.2=false then⟨14,x,r.1.marks,r.1.dev⟩
 else if r.1.dev.oD=0 then⟨14,x,r.1.marks,r.1.dev⟩
 else if qL (rH secret) x=false then⟨1,x,r.1.marks,r.1.dev.sync⟩
 else if r.1.dev.sync.oD=0 then⟨14,x,r.1.marks,r.1.dev.sync⟩
 else if (r.1.dev.sync.put (x0.count % 2).toNat (zC (rH secret) x)).oD=0 then⟨14,x,r.1.marks,r.1.dev.sync.put (x0.count % 2).toNat (zC (rH secret) x)⟩
 else⟨0,x,r.1.marks,(r.1.dev.sync.put (x0.count % 2).toNat (zC (rH secret) x)).sync⟩
structure Told where
 err:Int
 v:nT
 dev:pG
 n:Int
def QD(v:nT):nT:= { v with dead:=true }
def sO(v:nT)(d:pG)(n:Int)(nP:Int)(W:List (Nat×af)):Told:=
 let t:=qR v.secret ⟨v.now.count+1,nP,v.now.sides,v.now.root⟩ v.marks d W
 if t.err≠0 then⟨t.err,QD v,t.dev,n⟩
 else if v.now.count+1<=n then⟨10,QD v,t.dev,n⟩
 else⟨0,⟨v.secret,t.x,vI v.texts W,t.marks,v.dead⟩,t.dev,v.now.count+1⟩
section
variable {P:Program}{w:World}
theorem UM{t:TypeId}{cs:Array Value}{n:Nat}(hi:(P.info? t).map (λi=>(i.zero,i.size))=some (some (.agg cs),n)):
  (Instr.alloc t true (.tuple #[])).run P w= .ok (.pointer (some ⟨w.heap.size,0,none⟩)) (w.alloc (.cells cs t)):=by
 cases hq:P.info? t with
 | none=>simp[hq]at hi
 | some inf=>
  have h1:inf.zero=some (.agg cs):=by simp[hq]at hi;exact hi.1
  simp[Instr.alloc,zeroValue,typeInfo,hq,h1,newVar,Value.cells,newRow]
theorem oP{ops:Array Oper}{rest:List Oper}{o:Oper}{a:Act}{Q:Exit->Act->World->Prop}(hg:o.guard=none)(t:TypeId)(ho:o.op= .alloc t){cs:Array Value}{n:Nat}(hi:(P.info? t).map (λi=>(i.zero,i.size))=some (some (.agg cs),n))
  (h:wpList P ops Q rest (a.put o.dst (.pointer (some ⟨w.heap.size,0,none⟩))) (w.alloc (.cells cs t))):wpList P ops Q (o::rest) a w:=
 wpList_plain hg λK hK=>by unfold Oper.wp execOp;simp only[ho,jG,Sem.run_pure,lQ,UM hi];exact hK _ _ h
theorem pU{ops:Array Oper}{rest:List Oper}{o:Oper}{a:Act}{Q:Exit->Act->World->Prop}(hg:o.guard=none)(t:TypeId)(parts:Array (Nat×Operand))(ho:o.op= .build t parts)(cells:Array Value)
  (hf:P.built t (parts.map λ(i,x)=>(i,a.eval x)).toList=some cells)
  (h:wpList P ops Q rest (a.put o.dst (.agg cells)) w):wpList P ops Q (o::rest) a w:=
 wpList_build hg t parts ho (by rw[hf];rfl) (by rw[hf];exact h)
end
theorem qZ{P:Program}{fn:Func}{p q:Tmp}{ty:TypeId}(h:fn.results= #[.cell p ty,.tmp q])(tmps:Array Value)(w:World)(g:Nat)(t:TypeId)(cs:Array Value)(fr:Nat×Nat)(d:TypeDesc)(v:Value)
  (hp:tmps.getD p undef= .pointer (some ⟨g,0,none⟩)) (hq:tmps.getD q undef=v) (hg:w.heap[g]? =some (.cells cs t fr))
  (hu:P.underlying ty=some d) (hd:(match d with| .struct _| .array _ _=>true|_=>false)=true) (hi:(P.info? ty).map (·.size)=some cs.size):
  (results fn tmps).run P w= .ok (.tuple #[.agg cs,v]) w:=by
 have hp':tmps[p]?.getD undef= .pointer (some ⟨g,0,none⟩):=by simpa using hp
 have hq':tmps[q]?.getD undef=v:=by simpa using hq
 simp[results,h,hp',hq',asAddr,run_loadVar_row w g t ty cs fr d hg hu hd hi]
theorem qY(x:rC):(oq x).toArray.all (·.oneCell')=true:=by rw[List.all_toArray,gQ];intro v hv;simp only[oq,dG,bK,iJ,jY,bf]at hv;rcases hv with((rfl|rfl)|⟨b,_,rfl⟩)|rfl<;>rfl
theorem yN:(Tryz.prog.info? 134).map (λi=>(i.zero,i.size))=some (some (ry qX),35):=by kernel_rfl
theorem qF:(Tryz.prog.info? 134).map (·.size)=some 35:=by kernel_rfl
theorem zY:Tryz.prog.built 134 []=some (oq qX).toArray:=by kernel_rfl
theorem zfb(a b:Int)(s:af):Tryz.prog.built 134 [(0,.int .i64 a),(1,.int .i64 b),(3,.string s)]=some (oq ⟨a,b,List.replicate 32 false,s⟩).toArray:=by kernel_rfl
theorem Cf:(oq qX).toArray.size=35:=by kernel_rfl
theorem Xy(key s:af)(hk:key.size≠32)(w:World):
  ae 130 #[.string key,.string s] w λe w'=>e= .returned (.tuple #[ry qX,errVal 1])∧Keep nM w w':=by
 have j0:¬((key.size:Nat):Int)=32:=by omega
 have hin:=yN;have hbz:=zY;have hzl:=Cf;have hone:=qY qX;have FK:(Tryz.prog.info? 134).map (·.size)=some (oq qX).toArray.size:=by rw[hzl];exact qF
 rw[ry]at hin⊢;obtain⟨cz,hcz⟩:∃cz,cz=(oq qX).toArray:=⟨_,rfl⟩
 rw[<-hcz]at hin hbz hzl hone FK⊢;clear hcz;have Qw:=ag hin;have Hbz:=ag hbz;have JG:=ag FK;clear hin hbz FK;go_enter Tryz.func130,Tryz.ntmps130;go_wp2_with (first|(refine oP rfl 134 rfl Qw.out ?_;refine o8 (λw9=>w9.heap[w.heap.size]? =some (.cells cz 134 (0,0))∧Keep nM w w9) ⟨aG w _,(ah nM w).alloc _⟩ ?_;rintro w9 ⟨hX9,K9⟩)|(refine pU rfl 134 #[] rfl cz (by simpa using Hbz.out) ?_)|(refine oH rfl 134 (.tmp 4) (.tmp 14) rfl w.heap.size 134 cz cz rfl rfl hX9 JG.out 35 hzl hzl hone ?_;have xO:=oO (c':=cz) hX9;have K10:=K9.setRow (g:=w.heap.size) (.inr (aF _)) cz;refine o8 (λw10=>w10.heap[w.heap.size]? =some (.cells cz 134 (0,0))∧Keep nM w w10) ⟨xO,K10⟩ ?_;clear xO K10;rintro w10 ⟨xO,K10⟩));exact dW (v:= .tuple #[.agg cz,errVal 1]) (qZ rfl _ w10 w.heap.size 134 cz (0,0) _ (errVal 1) rfl rfl xO Tryz.underlying134 rfl JG.out) rfl ⟨rfl,K10⟩
theorem TP(key s:af)(hk:key.size=32)(hs:s.size<82)(w:World):
  ae 130 #[.string key,.string s] w λe w'=>e= .returned (.tuple #[ry qX,errVal 15])∧Keep nM w w':=by
 have j0:((key.size:Nat):Int)=32:=by omega
 have j1:((s.size:Nat):Int)<82:=by omega
 have hin:=yN;have hbz:=zY;have hzl:=Cf;have hone:=qY qX;have FK:(Tryz.prog.info? 134).map (·.size)=some (oq qX).toArray.size:=by rw[hzl];exact qF
 rw[ry]at hin⊢;obtain⟨cz,hcz⟩:∃cz,cz=(oq qX).toArray:=⟨_,rfl⟩
 rw[<-hcz]at hin hbz hzl hone FK⊢;clear hcz;have Qw:=ag hin;have Hbz:=ag hbz;have JG:=ag FK;clear hin hbz FK;go_enter Tryz.func130,Tryz.ntmps130;go_wp2_with (first|(refine oP rfl 134 rfl Qw.out ?_;refine o8 (λw9=>w9.heap[w.heap.size]? =some (.cells cz 134 (0,0))∧Keep nM w w9) ⟨aG w _,(ah nM w).alloc _⟩ ?_;rintro w9 ⟨hX9,K9⟩))
 go_quiet (fail)
 go_wp2_with (first|(refine pU rfl 134 #[] rfl cz (by simpa using Hbz.out) ?_)|(refine oH rfl 134 (.tmp 4) (.tmp 36) rfl w.heap.size 134 cz cz rfl rfl (show(w9.drewN nq).heap[w.heap.size]? =_ from hX9) JG.out 35 hzl hzl hone ?_;have xO:=oO (c':=cz) (show(w9.drewN nq).heap[w.heap.size]? =_ from hX9);have K10:=(K9.drewN nq).setRow (g:=w.heap.size) (.inr (aF _)) cz;refine o8 (λw10=>w10.heap[w.heap.size]? =some (.cells cz 134 (0,0))∧Keep nM w w10) ⟨xO,K10⟩ ?_;clear xO K10;rintro w10 ⟨xO,K10⟩));exact dW (v:= .tuple #[.agg cz,errVal 15]) (qZ rfl _ w10 w.heap.size 134 cz (0,0) _ (errVal 15) rfl rfl xO Tryz.underlying134 rfl JG.out) rfl ⟨rfl,K10⟩
end Go.Proofs.YtopbkdebihcmcaaGreatDoor
