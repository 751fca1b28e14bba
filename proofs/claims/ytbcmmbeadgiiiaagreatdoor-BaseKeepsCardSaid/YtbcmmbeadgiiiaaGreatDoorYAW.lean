import Derived.Test.YtbcmmbeadgiiiaaGreatDoorYAE
import Derived.Test.YtbcmmbeadgiiiaaGreatDoorYAT
set_option linter.all false
namespace Go.Proofs.YtbcmmbeadgiiiaaGreatDoor
open Go.RowKit Tryz
set_option maxRecDepth 100000
set_option maxHeartbeats 16000000
variable{cs:Array ay}{W:List (Nat×af)}{B B':List af}{i n:Nat}{key:af}{w:ax}{V:qI}{x:uX}
def Bh(s:af)(t:Nat):List Bool:=(List.range 32).map λi=>decide (i<t)&&decide ((bs s).getD (18+i) 0=49)
def Jc(s:af)(t:Nat):(Bh s t).length=32:=by simp[Bh]
def UJ(s:af):Bh s 0=List.replicate 32 false:=by show(List.range 32).map (λi=>decide (i<0)&&decide ((bs s).getD (18+i) 0=49))=_;simp only[Nat.not_lt_zero,decide_false,iH];rfl
def XJ(s:af):Bh s 32=(List.range 32).map λi=>decide ((bs s).getD (18+i) 0=49):=by refine gU λi hi=> ?_;rw[bF (iJ.1 hi),jG]
def UK(s:af)(t:Nat):(Bh s t).set t (decide ((bs s).getD (18+t) 0=49))=Bh s (t+1):=by
 refine kV (by simp[Bh]) λi h1 h2=> ?_;rw[List.getElem_set];simp only[Bh,List.getElem_map,List.getElem_range];by_cases e:t=i
 ·subst e;rw[bu rfl,bF (Nat.lt_succ_self t),jG]
 rw[aV e]
 have:decide (i<t)=decide (i<t+1):=by rw[decide_eq_decide];omega
 rw[this]
def GM(a b:Int)(l:List Bool)(r:af)(t:Nat)(v:Bool)(ht:t<l.length):(qG ⟨a,b,l,r⟩).toArray.setIfInBounds (2+t) (.bool v)=(qG ⟨a,b,l.set t v,r⟩).toArray:=by
 rw[fJ]
 congr 1
 simp only[qG];rw[List.set_append_left _ _ (by simp;omega),iE _ _ (by simp),kR];simp
def yg(x:uX)(t:Nat)(ht:t<x.qx.length):(qG x).toArray[2+t]? =some (.bool (x.qx.getD t false)):=by rw[aF,qG,bC,bT (by simp),dL (by simp[ht])];simp[ht]
def Pj(key:af)(x:uX)(hx:x.qx.length=32)(ho:uV key x=true):(EF key x).length=82:=by simp only[uV,OQ,bI,aW]at ho;have h5:x.root.size=16:=ho.2.2;rw[EF,DZ,JZ,aN,aN,aN,aN,aN,sS,tu,sS,tu,Be,aP,hx,ry,h5,mark,dJ,Ei];rfl
def PU(x:uX):Bytes (DZ x):=by
 rw[DZ,JZ];refine vg (vg (vg (vg ?_ (uj _)) (uj _)) ?_) (yE _)
 ·intro x hx;simp only[dO,iT,lN]at hx;rcases hx with rfl|rfl<;>decide
 intro y hy;simp only[Be,bY]at hy;obtain⟨b,_,rfl⟩:=hy;cases b<;>decide
def QF(key s:af)(hm:uV key (tJ s)=true)(hs:82<=s.size):Ac key s=decide (bs s=EF key (tJ s)++List.replicate (s.size-82) 0):=by
 have hl:=Pj key (tJ s) (xB s) hm;rw[Ac,hm,jG,iQ,bI,aW,aW,aW];constructor
 ·rintro⟨h1,h2⟩;rw[<-h1,<-h2,iV]
 intro h;have e1:=dB (List.take 82) h;have e2:=dB (List.drop 82) h;rw[gZ hl]at e1;rw[jl hl]at e2;exact⟨e1,e2⟩
def qK{B:Nat}{t:aB}{fr:Nat×Nat}(h:w.heap[B]? =some (.cells cs t fr))(v:ay):(w.setCell ⟨B,i,none⟩ v).heap[B]? =some (.cells (cs.setIfInBounds i v) t fr):=by
 have rE:=lt_of_heap h;have h':w.heap[B]= .cells cs t fr:=by simpa [dQ rE]using h
 show(w.heap.modify B _)[B]? =_;rw[dQ (by simpa using rE),fQ,h'];rfl
def heap_setCell_other{B C:Nat}{o:Option Obj}(h:w.heap[C]? =o)(hn:C≠B)(v:ay):(w.setCell ⟨B,i,none⟩ v).heap[C]? =o:=(gK w ⟨B,i,none⟩ v C hn).t h
def sO{P:Program}{g:Nat}{t:aB}{cb:Array ay}(hg:w.heap[g]? =some (.cells cs t (0,0)))(hs:cs.size=cb.size)(h1:cb.all (·.oneCell')=true):
  (storeCells ⟨g,0,none⟩ cb.toList).run P w= .ok () (w.setRow g cb):=by
 have h:=BX P g 0 t (0,0) cb.toList 0 cs w hg (Clear.zero _) (by simp;omega) (λv hv=>lU.1 h1 v (by simpa using hv));simp only[iY,dD,fZ,eH,pJ]at h;rw[h,mJ (by simp;omega),dS]
def zcA(RB:Nat)(key s:af)(hk:key.size=32)(hs:82<=s.size)(JO:s.size<=1000)(w:ax)(RR:D7 w RB):
  ae 141 #[.pointer (some ⟨RB,0,none⟩),.string key,.string s] w λe w'=>e= .returned (.tuple #[tH (vJ key s),.int .i64 (xe key s)])∧ak w w':=by
 obtain⟨PV,YX⟩:=aj (vJ key s);obtain⟨PE,hPE⟩:=aj (xe key s);rw[<-YX,<-hPE];have HPV:=ag YX;have HPE:=ag hPE;clear YX hPE;have j0:((key.size:Nat):Int)=32:=by omega
 have j1:¬((s.size:Nat):Int)<82:=by omega
 have e1:(2:Int)<=s.size:=by omega
 have e2:(10:Int)<=s.size:=by omega
 have e3:(66:Int)<=s.size:=by omega
 obtain⟨P2,Lt⟩:=aj (s.extract 2 s.size);obtain⟨P10,ziK⟩:=aj (s.extract 10 s.size);have b2:bs P2=(bs s).drop 2:=by rw[Lt,rQ,bg (by rw[gY,ry];exact aS _)]
 have b10:bs P10=(bs s).drop 10:=by rw[ziK,rQ,bg (by rw[gY,ry];exact aS _)]
 have s2:P2.size=s.size-2:=by rw[<-ry,b2,gY,ry]
 have s10:P10.size=s.size-10:=by rw[<-ry,b10,gY,ry]
 obtain⟨va,LG⟩:=aj (yV ((bs s).drop 2));obtain⟨vb,hvb⟩:=aj (yV ((bs s).drop 10));have Dw:=λw=>JC P2 (by omega) (by omega) w;have ziE:=λw=>JC P10 (by omega) (by omega) w;rw[b2,<-LG,Lt]at Dw;rw[b10,<-hvb,ziK]at ziE;have Hn2:=ag Dw;have zeg:=ag ziE;have Hva:=ag LG;have Hvb:=ag hvb;clear Dw ziE b2 b10 s2 s10 Lt ziK LG hvb P2 P10;obtain⟨cb,hcb⟩:=aj ((qG ⟨va,vb,List.replicate 32 false,s.extract 50 66⟩).toArray);have hbu:=zdQ va vb (s.extract 50 66);have OM:cb.size=35:=by rw[hcb,bZ,uk _ (by simp)]
 have RU:cb.all (·.oneCell')=true:=by rw[hcb];exact sU _
 rw[<-hcb]at hbu;have Hbu:=ag hbu;have Hcb:=ag hcb;have QP:(prog.info? 66).map (·.size)=some cb.size:=by rw[OM];exact sK
 have Gf:=ag QP;clear hbu hcb QP;have yh:=xP;have AP:=Au;rw[tH]at yh;obtain⟨cz,JL⟩:=aj ((qG sZ).toArray);rw[<-JL]at yh AP;have EJ:=ag yh;have Hcz:=ag JL;clear yh JL;go_enter func141,ntmps141;go_upto_region 5 with(refine qN rfl 66 rfl EJ.o ?_;refine qQ (λw9=>w9.heap[w.heap.size]? =some (.cells cz 66 (0,0))∧ak w w9) ⟨aQ w _,(ah qw w).alloc _⟩ ?_;rintro w9 ⟨Qj,K9⟩)
 go_cut [8] (λyv wx=>∃Y,yv= .pointer (some ⟨Y,0,none⟩)∧w.heap.size<Y∧wx.heap[Y]? =some (.cells cb 66 (0,0))∧wx.heap[w.heap.size]? =some (.cells cz 66 (0,0))∧ak w wx)
 case first=>
  have h9l:w.heap.size<w9.heap.size:=lt_of_heap Qj;have h9k:=K9.size;refine PY [0,1,3,4,6,7] (.fork 2 (.fork 5 (.fork 8 (.row [9,10]) 9 (.row [8,10])) 9 (.row [5,8,10])) 9 (.row [2,5,8,10])) (by kernel_rfl) (by kernel_rfl) (λc a d v w h=>by cases d<;>exact h) ?_;simp only[qC,aF,aH,aI]
  repeat(refine xy (λK hK=> ?_);go_simp;refine hK _ ?_;clear hK K)
  refine yf ?_;refine⟨?_,?_⟩
  ·simp only[qC,aF,aH,aI];go_wp2_with fail;refine(Hn2.o _).m ?_;rintro e wx ⟨rfl,Yw⟩;subst wx;go_wp2_with fail;refine⟨?_,?_⟩
   ·simp only[qC,aF,aH,aI];go_wp2_with fail;refine(zeg.o _).m ?_;rintro e wx ⟨rfl,Yw⟩;subst wx;go_wp2_with fail;refine⟨?_,?_⟩
    ·simp only[qC,aF,aH,aI];go_wp2_with (first|(refine qN rfl 66 rfl EJ.o ?_;refine qQ (λyH=>yH.heap[w9.heap.size]? =some (.cells cz 66 (0,0))∧yH.heap[w.heap.size]? =some (.cells cz 66 (0,0))∧ak w yH) ⟨aQ w9.drew _,((ah qw w9).drew.alloc _).heap Qj (λx=>x),K9.drew.alloc _⟩ ?_;rintro yH ⟨BF,EW,FB⟩;have yx:=sO (P:=prog) BF (AP.t OM.s) RU;have Mc:=qO (c':=cb) BF;have Md:=(gm yH w9.heap.size w.heap.size cb (λe=>by omega)).t EW;have QQ:=FB.setRow (g:=w9.heap.size) (.inr (by omega)) cb)|(refine qZ rfl 66 #[(0,.tmp 22),(1,.tmp 25),(3,.tmp 27)] rfl cb (by simp only[fH,bH,dh,fD];exact Hbu.o) ?_));simp only[BI,qC,aF,aH,aI];go_wp2_with (first|(refine qN rfl 66 rfl EJ.o ?_;refine qQ (λyH=>yH.heap[w9.heap.size]? =some (.cells cz 66 (0,0))∧yH.heap[w.heap.size]? =some (.cells cz 66 (0,0))∧ak w yH) ⟨aQ w9.drew _,((ah qw w9).drew.alloc _).heap Qj (λx=>x),K9.drew.alloc _⟩ ?_;rintro yH ⟨BF,EW,FB⟩;have yx:=sO (P:=prog) BF (AP.t OM.s) RU;have Mc:=qO (c':=cb) BF;have Md:=(gm yH w9.heap.size w.heap.size cb (λe=>by omega)).t EW;have QQ:=FB.setRow (g:=w9.heap.size) (.inr (by omega)) cb)|(refine qZ rfl 66 #[(0,.tmp 22),(1,.tmp 25),(3,.tmp 27)] rfl cb (by simp only[fH,bH,dh,fD];exact Hbu.o) ?_));go_meet
     exact⟨w9.heap.size,rfl,h9l,Mc,Md,QQ⟩
    simp only[qC,aF,aH,aI];go_wp2_with (first|(refine qN rfl 66 rfl EJ.o ?_;refine qQ (λyH=>yH.heap[w9.heap.size]? =some (.cells cz 66 (0,0))∧yH.heap[w.heap.size]? =some (.cells cz 66 (0,0))∧ak w yH) ⟨aQ w9.drew _,((ah qw w9).drew.alloc _).heap Qj (λx=>x),K9.drew.alloc _⟩ ?_;rintro yH ⟨BF,EW,FB⟩;have yx:=sO (P:=prog) BF (AP.t OM.s) RU;have Mc:=qO (c':=cb) BF;have Md:=(gm yH w9.heap.size w.heap.size cb (λe=>by omega)).t EW;have QQ:=FB.setRow (g:=w9.heap.size) (.inr (by omega)) cb)|(refine qZ rfl 66 #[(0,.tmp 22),(1,.tmp 25),(3,.tmp 27)] rfl cb (by simp only[fH,bH,dh,fD];exact Hbu.o) ?_));simp only[BI,qC,aF,aH,aI];go_wp2_with (first|(refine qN rfl 66 rfl EJ.o ?_;refine qQ (λyH=>yH.heap[w9.heap.size]? =some (.cells cz 66 (0,0))∧yH.heap[w.heap.size]? =some (.cells cz 66 (0,0))∧ak w yH) ⟨aQ w9.drew _,((ah qw w9).drew.alloc _).heap Qj (λx=>x),K9.drew.alloc _⟩ ?_;rintro yH ⟨BF,EW,FB⟩;have yx:=sO (P:=prog) BF (AP.t OM.s) RU;have Mc:=qO (c':=cb) BF;have Md:=(gm yH w9.heap.size w.heap.size cb (λe=>by omega)).t EW;have QQ:=FB.setRow (g:=w9.heap.size) (.inr (by omega)) cb)|(refine qZ rfl 66 #[(0,.tmp 22),(1,.tmp 25),(3,.tmp 27)] rfl cb (by simp only[fH,bH,dh,fD];exact Hbu.o) ?_));go_meet
    exact⟨w9.heap.size,rfl,h9l,Mc,Md,QQ⟩
   simp only[qC,aF,aH,aI];go_wp2_with (refine qN rfl 66 rfl EJ.o ?_;refine qQ (λyH=>yH.heap[w9.heap.size]? =some (.cells cz 66 (0,0))∧yH.heap[w.heap.size]? =some (.cells cz 66 (0,0))∧ak w yH) ⟨aQ w9.drew _,((ah qw w9).drew.alloc _).heap Qj (λx=>x),K9.drew.alloc _⟩ ?_;rintro yH ⟨BF,EW,FB⟩;have yx:=sO (P:=prog) BF (AP.t OM.s) RU;have Mc:=qO (c':=cb) BF;have Md:=(gm yH w9.heap.size w.heap.size cb (λe=>by omega)).t EW;have QQ:=FB.setRow (g:=w9.heap.size) (.inr (by omega)) cb);simp only[BI,qC,aF,aH,aI];go_wp2_with fail;refine(zeg.o _).m ?_;rintro e wx ⟨rfl,Yw⟩;subst wx;go_wp2_with (refine qZ rfl 66 #[(0,.tmp 22),(1,.tmp 25),(3,.tmp 27)] rfl cb (by simp only[fH,bH,dh,fD];exact Hbu.o) ?_);go_meet
   exact⟨w9.heap.size,rfl,h9l,Mc,Md,QQ⟩
  simp only[qC,aF,aH,aI];go_wp2_with (refine qN rfl 66 rfl EJ.o ?_;refine qQ (λyH=>yH.heap[w9.heap.size]? =some (.cells cz 66 (0,0))∧yH.heap[w.heap.size]? =some (.cells cz 66 (0,0))∧ak w yH) ⟨aQ w9.drew _,((ah qw w9).drew.alloc _).heap Qj (λx=>x),K9.drew.alloc _⟩ ?_;rintro yH ⟨BF,EW,FB⟩;have yx:=sO (P:=prog) BF (AP.t OM.s) RU;have Mc:=qO (c':=cb) BF;have Md:=(gm yH w9.heap.size w.heap.size cb (λe=>by omega)).t EW;have QQ:=FB.setRow (g:=w9.heap.size) (.inr (by omega)) cb);simp only[BI,qC,aF,aH,aI];go_wp2_with fail;refine(Hn2.o _).m ?_;rintro e wx ⟨rfl,Yw⟩;subst wx;go_wp2_with fail;refine(zeg.o _).m ?_;rintro e wx ⟨rfl,Yw⟩;subst wx;go_wp2_with (refine qZ rfl 66 #[(0,.tmp 22),(1,.tmp 25),(3,.tmp 27)] rfl cb (by simp only[fH,bH,dh,fD];exact Hbu.o) ?_);go_meet
  exact⟨w9.heap.size,rfl,h9l,Mc,Md,QQ⟩
 case rest=>
  obtain⟨Y,rfl,hYl,hY0,Vl,K0⟩:=hcut;rw[Hcb.o,<-UJ s]at hY0;have HY0:=ag hY0;have HX0:=ag Vl;clear hY0 Vl;go_wp2_with fail
  go_loopw [9,29] (λ_ iv wr=>∃t:Nat,t<=32∧iv= .int .i64 t∧Hid (wr.heap[Y]? =some (.cells (qG ⟨va,vb,Bh s t,s.extract 50 66⟩).toArray 66 (0,0)))∧Hid (wr.heap[w.heap.size]? =some (.cells cz 66 (0,0)))∧ak w wr) (λ_ iv _=>32-(intOf iv).toNat)
  ·exact⟨0,by omega,rfl,HY0,HX0,K0⟩
  obtain⟨t,ht,rfl,hY,hX,K⟩:=hrel;by_cases rE:t<32
  ·have j3:(t:Int)<32:=by omega
   have Tu:18+t<s.size:=by omega
   have hki:(18:Int)+t<s.size:=by omega
   have cY:wr.cell? ⟨Y,2+t,none⟩=some (.bool ((Bh s t).getD t false)):=by rw[aO wr Y (2+t) _ _ (0,0) hY.o];exact yg _ t (by rw[Jc];exact rE)
   have fY:wr.frozen? ⟨Y,2+t,none⟩=false:=by have h:=hY.o;simp[World.frozen?,h]
   have hv:((s[18+t].toNat:Int)==49)=decide ((bs s).getD (18+t) 0=49):=by rw[xZ s _ Tu,iQ,jZ,aW];omega
   have Hv:=ag hv;clear hv;go_wp2_with fail;refine⟨⟨t+1,by omega,by go_num,ag ?_,ag (heap_setCell_other hX.o (by omega) _),K.setCell (.inr (show w.heap.size<=Y by omega)) _⟩,by simp[intOf];omega⟩;rw[Hv.o,qK hY.o,GM _ _ _ _ _ _ (by rw[Jc];exact rE),UK]
  obtain rfl:t=32:=by omega
  have zf1:(⟨va,vb,Bh s 32,s.extract 50 66⟩:uX)=tJ s:=by rw[Hva.o,Hvb.o,XJ];rfl
  have hYr:=hY.o;rw[zf1]at hYr;have Oz:=hX.o;have Gn:=λ(w:ax) (R:D7 w RB)=>Oj RB key (tJ s) (xB s) w R;have xu:=sU (tJ s);have hoz:cz.all (·.oneCell')=true:=by rw[Hcz.o];exact sU _
  have Ce:(qG (tJ s)).toArray.size=35:=by rw[bZ];exact uk _ (xB s)
  have ziL:(prog.info? 66).map (·.size)=some (qG (tJ s)).toArray.size:=by rw[Ce];exact sK
  have zfL:(prog.info? 66).map (·.size)=some cz.size:=by rw[AP];exact sK
  have Qh:prog.built 66 []=some cz:=by rw[Hcz.o];exact Aj
  have hvz:tH sZ= .agg cz:=by rw[Hcz.o];rfl
  have hvr:tH (tJ s)= .agg (qG (tJ s)).toArray:=rfl;have hpb:=λhm=>QF key s hm hs;have YX:=HPV.o;have hPE:=HPE.o;rw[vJ]at YX;rw[xe,bu hk,aV (show¬s.size<82 by omega)]at hPE;rw[hvr]at Gn;obtain⟨W,hW⟩:=aj (Cf key (tJ s));obtain⟨E,hE⟩:=aj (RF key (tJ s));rw[<-hW,<-hE]at Gn;rw[Cf]at hW;rw[RF]at hE;obtain⟨M,hM⟩:=aj (uV key (tJ s));rw[<-hM]at hpb hW hE;have hMB:M=false->Ac key s=false:=λh=>by rw[Ac,<-hM,h,iH,iH]
  have HM:Hid (M=true->uV key (tJ s)=true):=ag (λh=>hM.s.t h);obtain⟨cr,Xg⟩:=aj ((qG (tJ s)).toArray);rw[<-Xg]at hYr Gn xu Ce ziL hvr;have Hwr:=ag Gn;have Hz:=ag zfL;have Hr:=ag ziL;have Hbz:=ag Qh;have Hvr:=ag hvr;have Hvz:=ag hvz;have HhX:=ag Oz;clear zf1 Gn Xg hvr hvz Oz zfL ziL Qh HY0 HX0 K0 Hn2 zeg Hbu Hcb RU OM Gf K9 Qj EJ Hcz rE ht hM;go_wp2_with (first|(refine jI rfl 66 (.tmp 8) rfl Y rfl 66 cr (0,0) _ hYr dM rfl Hr.o ?_));have HhY:=ag hYr;have HV:=ag YX;have HE:=ag hPE;clear hYr YX hPE hX hY HPV HPE Hva Hvb;refine(Hwr.o _ (RR.qm K (λx=>x))).m ?_;rintro e w5 ⟨rfl,K5⟩;have Oz:=K5.heap HhX.o (λx=>x);have hY5:=K5.heap HhY.o (λx=>x);have K6:=K.qo K5;clear Hwr K5 HhX HhY K;cases M with
  | false=>
   have hB:=hMB rfl;have tN:Ending.returned (.tuple #[.agg cz,.int .i64 15])= .returned (.tuple #[tH PV,.int .i64 PE]):=by rw[HV.o,HE.o,hB,aV (λh=>by cases h.2.2),aV (λh=>by cases h),Hvz.o]
   have xM:=ag tN;rw[aV (λh=>by cases h)]at hE hW;clear hB tN HV HE Hvr Hvz hpb hMB;subst hE;subst hW;go_wp2_with (first|(refine qZ rfl 66 #[] rfl cz (by simpa using Hbz.o) ?_)|(refine qL rfl 66 (.tmp 6) (.tmp 60) rfl w.heap.size 66 cz cz rfl rfl Oz Hz.o 35 AP AP hoz ?_;have wI:=qO (c':=cz) Oz;have BC:=K6.setRow (g:=w.heap.size) (.inr (aS _)) cz;refine qQ (λAV=>AV.heap[w.heap.size]? =some (.cells cz 66 (0,0))∧ak w AV) ⟨wI,BC⟩ ?_;clear wI BC;rintro AV ⟨wI,BC⟩));exact eF (v:= .tuple #[.agg cz,.int .i64 15]) (tZ rfl _ AV w.heap.size 66 cz (0,0) _ (.int .i64 15) rfl rfl wI dM rfl Hz.o) rfl ⟨xM.o,BC⟩
  | true=>
   rw[bu rfl]at hE hW;subst hE;have hMt:=HM.o rfl;have hWs:W.size<=82:=by rw[hW,rH,Pj key _ (xB s) hMt];exact aS _
   have hzz:=λw=>Ky ((s.size:Int)-82) (s.size-82) (by omega) (by omega) w;obtain⟨Z,hZ⟩:=aj (uu (List.replicate (s.size-82) 0));have hZs:Z.size<=1000:=by rw[hZ,rH,bP];omega
   rw[<-hZ]at hzz;have hbT:bs (W++Z)=EF key (tJ s)++List.replicate (s.size-82) 0:=by
    have hb1:Bytes (EF key (tJ s)):=by
     have:bs (uu (EF key (tJ s)))=_:=rfl
     rw[EF];exact vg (PU _) (uN _ _)
    have zC:Bytes (List.replicate (s.size-82) 0):=λx hx=>by rw[List.eq_of_mem_replicate hx];decide
    rw[tX,hW,hZ,rM hb1,rM zC]
   have G8:¬(9223372036854775807<W.size+Z.size):=by omega
   have Hpb:=ag (hpb rfl);have HbT:=ag hbT;clear hW hpb hMB hZ hbT;go_wp2_with fail;refine(hzz _).m ?_;rintro e w6 ⟨rfl,K7⟩;have QX:=K7.heap Oz (λx=>x);have YV:=K7.heap hY5 (λx=>x);have K8:=K6.qo K7;clear Oz hY5 K6 K7 hzz;by_cases heq:s=W++Z
   ·have hB:Ac key s=true:=by rw[Hpb.o,aW,<-HbT.o,<-heq]
    have zC:zQ s (W++Z)=true:=by rw[<-heq];exact BO s
    unfold zQ at zC;have tN:Ending.returned (.tuple #[.agg cr,.int .i64 0])= .returned (.tuple #[tH PV,.int .i64 PE]):=by rw[HV.o,HE.o,hB,bu ⟨hk,hs,rfl⟩,bu rfl,Hvr.o]
    have xM:=ag tN;clear heq hB tN HV HE Hvr Hvz Hpb HbT;go_wp2_with (first|(refine jI rfl 66 (.tmp 8) rfl Y rfl 66 cr (0,0) _ YV dM rfl Hr.o ?_)|(refine qL rfl 66 (.tmp 6) (.tmp 61) rfl w.heap.size 66 cz cr rfl rfl QX Hr.o 35 AP Ce xu ?_;have wI:=qO (c':=cr) QX;have BC:=K8.setRow (g:=w.heap.size) (.inr (aS _)) cr;refine qQ (λAV=>AV.heap[w.heap.size]? =some (.cells cr 66 (0,0))∧ak w AV) ⟨wI,BC⟩ ?_;clear wI BC;rintro AV ⟨wI,BC⟩));exact eF (v:= .tuple #[.agg cr,.int .i64 0]) (tZ rfl _ AV w.heap.size 66 cr (0,0) _ (.int .i64 0) rfl rfl wI dM rfl Hr.o) rfl ⟨xM.o,BC⟩
   have hB:Ac key s=false:=by
    rw[Hpb.o,gq,<-HbT.o];exact λh=>heq (xJ h)
   have zC:zQ s (W++Z)=false:=CJ heq;unfold zQ at zC;have tN:Ending.returned (.tuple #[.agg cz,.int .i64 15])= .returned (.tuple #[tH PV,.int .i64 PE]):=by rw[HV.o,HE.o,hB,aV (λh=>by cases h.2.2),aV (λh=>by cases h),Hvz.o]
   have xM:=ag tN;clear heq hB tN HV HE Hvr Hvz Hpb HbT;go_wp2_with (first|(refine qZ rfl 66 #[] rfl cz (by simpa using Hbz.o) ?_)|(refine qL rfl 66 (.tmp 6) (.tmp 60) rfl w.heap.size 66 cz cz rfl rfl QX Hz.o 35 AP AP hoz ?_;have wI:=qO (c':=cz) QX;have BC:=K8.setRow (g:=w.heap.size) (.inr (aS _)) cz;refine qQ (λAV=>AV.heap[w.heap.size]? =some (.cells cz 66 (0,0))∧ak w AV) ⟨wI,BC⟩ ?_;clear wI BC;rintro AV ⟨wI,BC⟩));exact eF (v:= .tuple #[.agg cz,.int .i64 15]) (tZ rfl _ AV w.heap.size 66 cz (0,0) _ (.int .i64 15) rfl rfl wI dM rfl Hz.o) rfl ⟨xM.o,BC⟩
def ze8(RB:Nat)(key s:af)(JO:s.size<=1000)(w:ax)(RR:D7 w RB):
  ae 141 #[.pointer (some ⟨RB,0,none⟩),.string key,.string s] w λe w'=>e= .returned (.tuple #[tH (vJ key s),.int .i64 (xe key s)])∧ak w w':=by
 by_cases hk:key.size=32
 ·by_cases hs:s.size<82
  ·have h1:vJ key s=sZ:=by rw[vJ,aV (by omega)]
   have h2:xe key s=15:=by rw[xe,bu hk,bu hs]
   rw[h1,h2];exact zbK RB key s hk hs w
  exact zcA RB key s hk (by omega) JO w RR
 ·have h1:vJ key s=sZ:=by rw[vJ,aV (by omega)]
  have h2:xe key s=1:=by rw[xe,aV hk]
  rw[h1,h2];exact ze7 RB key s hk w
def zmA(l:List Nat)(b:Nat):Ov (l++ [b])=Ov l*256+b:=by rw[Ov,iL];rfl
def X5(n:Nat)(h:n<18446744073709551616):∀k,k<=8->Ov (uz n k)=n/2^(8*(8-k))
 | 0,_=>by rw[uz];show 0=_;rw[Nat.div_eq_of_lt];exact h
 | k+1,hk=>by
  rw[uz,zmA,X5 n h k (by omega)];have e:8*(8-k)=8*(7-k)+8:=by omega
  have e2:8*(8-(k+1))=8*(7-k):=by omega
  rw[e,e2,Nat.pow_add,<-kQ];generalize n/2^(8*(7-k))=q
  have:(2:Nat)^8=256:=rfl
  rw[this];omega
def V8(n:Nat)(h:n<18446744073709551616):Ov (sS n)=n:=by rw[sS,X5 n h 8 (aS _)];show n/2^0=n;rw[pU,Nat.div_one]
def zgt(n:Int)(h0:0<=n)(h1:n<9223372036854775808):vG n=n.toNat:=by unfold vG;omega
def zjM(n:Nat)(h:n<9223372036854775808):zfC n=n:=by unfold zfC wrap64;omega
def NM(n:Int)(h0:0<=n)(h1:n<9223372036854775808)(r:List Nat):yV (sS (vG n)++r)=n:=by rw[yV,gZ (show(sS (vG n)).length=8 from tu _ 8),zgt n h0 h1,V8 _ (by omega),zjM _ (by omega)];omega
def zr4{n:Int}(h0:1<=n)(h1:n<9223372036854775808):sS (vG n)≠sS 0:=by intro e;have:=dB Ov e;rw[zgt n (by omega) h1,V8 _ (by omega),V8 0 (by omega)]at this;omega
def zoK(key qH s:List Nat):xor key qH (xor key qH s)=s:=by
 apply kV (by rw[Eh,Eh]);intro i h1 h2;have e:(xor key qH (xor key qH s)).getD i 0=s.getD i 0:=by rw[zgr _ _ _ _ (by rw[Eh];exact h2),zgr _ _ _ _ h2,Nat.xor_assoc,Nat.xor_self,Nat.xor_zero]
 simpa [aG,aK h1,aK h2]using e
def Z9:bs zO=List.replicate 256 0:=by rw[zO,rM];intro x hx;rw[(ji.1 hx).2];omega
def zkK(s:af)(h:s.size<=256):bs (BD s)=bs s++List.replicate (256-s.size) 0:=by rw[BD,tX,rQ,Z9,Fj,nO,List.take_replicate,Nat.min_self]
def zhz(key:List Nat)(id rf:Int)(text:List Nat)(ht:Bytes text)(hl:text.length<=200):Bytes (OT key id rf text):=by
 intro x hx;rw[OT,MR]at hx;simp only[dX]at hx;rcases hx with((hx|hx)|hx)|hx
 ·exact uj _ x hx
 ·exact UX _ _ _ _ x hx
 ·refine Qy _ _ _ ?_ x hx;intro y hy;rw[OZ]at hy;simp only[dX,bJ]at hy;rcases hy with(hy|hy)|hy
  ·omega
  ·exact ht y hy
  rw[(ji.1 hy).2];omega
 exact Il _ _ _ x hx
def zpm(key:af)(id rf:Int)(text:af)(h:text.size<=200):bs (IW key id rf text)=OT (bs key) id rf (bs text):=
 rM (zhz _ _ _ _ (yE _) (by rw[ry];exact h))
def zeZ(key:af)(i rf:Int)(text:af)(ht:text.size<=200):∃z,bs (BD (IW key i rf text))=sS (vG rf)++(AY (bs key) i rf (bs text)++(xor (bs key) (AY (bs key) i rf (bs text)) (OZ (bs text))++(LW (bs key) i (sS (vG rf)++AY (bs key) i rf (bs text)++xor (bs key) (AY (bs key) i rf (bs text)) (OZ (bs text)))++z))):=by have hs:(IW key i rf text).size<=256:=bQ (Nat.le_of_eq (Nl key i rf text ht)) (by decide);have hb:=zpm key i rf text ht;obtain⟨T,hT⟩:=aj (IW key i rf text);rw[<-hT]at hs hb⊢;refine⟨List.replicate (256-T.size) 0,?_⟩;rw[zkK T hs,hb,OT,MR];simp only[bC]
def zh1(key vb nc xx z:List Nat)(i:Int)(hvl:vb.length=8)(CV:nc.length=12)(hx:xx.length=201):
  TQ key i (vb++(nc++(xx++(LW key i (vb++nc++xx)++z))))∧QY key (vb++(nc++(xx++(LW key i (vb++nc++xx)++z))))=xor key nc xx:=by
 obtain⟨tg,Zl⟩:=aj (LW key i (vb++nc++xx));have NQ:tg.length=16:=by rw[Zl];exact zac _ _ _
 rw[<-Zl];obtain⟨S,e⟩:=aj (vb++(nc++(xx++(tg++z))));rw[<-e];have e2:S=(vb++nc++xx)++(tg++z):=by rw[e];simp only[bC]
 have e3:S=(vb++nc)++(xx++(tg++z)):=by rw[e];simp only[bC]
 have zvD:(vb++nc++xx).length=221:=by rw[aN,aN,hvl,CV,hx]
 have l20:(vb++nc).length=20:=by rw[aN,hvl,CV]
 have zAl:S.take 221=vb++nc++xx:=by rw[e2];exact gZ zvD
 have hd:S.drop 221=tg++z:=by rw[e2];exact jl zvD
 have hd8:S.drop 8=nc++(xx++(tg++z)):=by rw[e];exact jl hvl
 have zz0:S.drop 20=xx++(tg++z):=by rw[e3];exact jl l20
 refine⟨?_,?_⟩
 ·show LW _ _ _=_;rw[zAl,hd,gZ NQ,Zl]
 ·rw[QY,hd8,zz0,gZ CV,gZ hx]
def zhW(key:af)(i:Nat)(rf:Int)(text:af)(hv:1<=rf)(hv2:rf<=1099511627776)(ht:text.size<=200):Ad key i (BD (IW key i rf text))=some (text,uI i rf text):=by
 have hl:(bs text).length<=200:=by rw[ry];exact ht
 obtain⟨z,hz⟩:=zeZ key i rf text ht;obtain⟨B,hB⟩:=aj (BD (IW key i rf text));rw[<-hB]at hz⊢;clear hB;have Zr:=WH (bs text) hl;have h2:=zh1 (bs key) (sS (vG rf)) (AY (bs key) i rf (bs text)) (xor (bs key) (AY (bs key) i rf (bs text)) (OZ (bs text))) z i (tu _ 8) (Ns _ _ _ _) (by rw[Eh,Zr]);rw[<-hz,zoK]at h2;have h8:(bs B).take 8=sS (vG rf):=by rw[hz];exact gZ (tu _ 8)
 have zyg:yY (bs key) (bs B)=bs text:=by rw[yY,h2.2,OZ,bC];show List.take (min (bs text).length 200) (bs text++_)=_;rw[kM hl];exact gZ rfl
 have TC:yV (bs B)=rf:=by rw[hz];exact NM rf (by omega) (by omega) _
 rw[Ad,h8,aV (zr4 hv (by omega)),bu h2.1,zyg,TC,ziY]
def zhV(key:af)(i:Nat):Ad key i zO=some (⟨#[]⟩,uI i 0 ⟨#[]⟩):=by
 have h:(bs zO).take 8=sS 0:=by rw[Z9];decide+kernel
 rw[Ad,bu h]
def zde(h:uV key x=true):key.size=32∧1<=x.count∧x.count<=1099511627776∧1<=x.qB∧x.qB<=1099511627776∧x.root.size=16:=by simp only[uV,OQ,bI,aW]at h;omega
def zjl(key:af)(x:uX):Bytes (EF key x):=by
 intro y hy;rw[EF]at hy;rcases dX.1 hy with hy|hy
 ·exact PU x y hy
 exact uN _ _ y hy
def zkC(hm:uV key x=true):bs (Cf key x)=EF key x:=by rw[Cf,bu hm,rM (zjl key x)]
def QA(hx:x.qx.length=32)(hm:uV key x=true):(Cf key x).size=82:=by rw[<-ry,zkC hm,Pj key x hx hm]
def zma(l:List Bool)(i:Nat)(h:i<l.length):decide ((Be l).getD i 0=49)=l.getD i false:=by rw[Be,aG,aX,aG,aK h];cases l[i]<;>rfl
def zjC(key:af)(x:uX)(hx:x.qx.length=32)(hm:uV key x=true)(s:af)(z:List Nat)(hs:bs s=EF key x++z):tJ s=x:=by
 obtain⟨h1,h2,h3,h4,h5,h6⟩:=zde hm;obtain⟨c,e,sd,r⟩:=x;simp only at hx h2 h3 h4 h5 h6;have hb:bs s= [99,102]++(sS (vG c)++(sS (vG e)++(Be sd++(bs r++(mark 122 [bs key,DZ ⟨c,e,sd,r⟩]++z))))):=by rw[hs,EF,DZ,JZ];simp only[bC]
 have l1:(sS (vG c)).length=8:=tu _ 8;have l2:(sS (vG e)).length=8:=tu _ 8;have l3:(Be sd).length=32:=by rw[Be,aP,hx]
 have l4:(bs r).length=16:=by rw[ry,h6]
 have d2:(bs s).drop 2=sS (vG c)++(sS (vG e)++(Be sd++(bs r++(mark 122 [bs key,DZ ⟨c,e,sd,r⟩]++z)))):=by rw[hb];rfl
 have d10:(bs s).drop 10=sS (vG e)++(Be sd++(bs r++(mark 122 [bs key,DZ ⟨c,e,sd,r⟩]++z))):=by rw[show 10=2+8 by rfl,<-List.drop_drop,d2];exact jl l1
 have d18:(bs s).drop 18=Be sd++(bs r++(mark 122 [bs key,DZ ⟨c,e,sd,r⟩]++z)):=by rw[show 18=10+8 by rfl,<-List.drop_drop,d10];exact jl l2
 have d50:(bs s).drop 50=bs r++(mark 122 [bs key,DZ ⟨c,e,sd,r⟩]++z):=by rw[show 50=18+32 by rfl,<-List.drop_drop,d18];exact jl l3
 have Gt:s.extract 50 66=r:=by apply xJ;rw[rQ,d50];exact gZ l4
 have zva:((List.range 32).map λi=>decide ((bs s).getD (18+i) 0=49))=sd:=by
  apply kV (by simp[hx]);intro i i1 i2;rw[List.getElem_map,List.getElem_range];have hi:i<sd.length:=i2;have e1:(bs s).getD (18+i) 0=(Be sd).getD i 0:=by rw[aG,<-nV,d18,dL (by omega),aG]
  rw[e1,zma sd i hi,aG,aK hi];rfl
 rw[tJ,Gt,zva,d2,d10,NM c (by omega) (by omega),NM e (by omega) (by omega)]
def zcD(key:af)(x:uX)(hx:x.qx.length=32)(hm:uV key x=true):xe key (BD (Cf key x))=0∧vJ key (BD (Cf key x))=x:=by
 have hk:=(zde hm).1;have hw:=QA hx hm;have uF:(BD (Cf key x)).size=256:=VY _ (by omega);have hb:bs (BD (Cf key x))=EF key x++List.replicate (256-82) 0:=by rw[zkK _ (by omega),zkC hm,hw]
 have hr:=zjC key x hx hm _ _ hb;have hp:Ac key (BD (Cf key x))=true:=by rw[QF key _ (by rw[hr];exact hm) (by omega),hr,hb,uF];simp
 rw[xe,vJ,bu hk,aV (by omega),bu hp,bu ⟨hk,by omega,hp⟩];exact⟨rfl,hr⟩
def zpA{s:af}(h:xe key s=0):key.size=32∧82<=s.size∧uV key (vJ key s)=true∧(bs s).take 82=EF key (vJ key s):=by
 unfold xe at h;split at h
 ·rename_i hk;split at h
  ·cases h
  rename_i hs;split at h
  ·rename_i hp;have e:vJ key s=tJ s:=by rw[vJ,bu ⟨hk,by omega,hp⟩]
   simp only[Ac,bI,aW]at hp;rw[e];exact⟨hk,by omega,hp.1.1,hp.1.2⟩
  cases h
 cases h
def zjH(key:af):xe key zO≠0:=by
 intro h;obtain⟨_,_,_,h4⟩:=zpA h;have e:=dB (λl=>l.getD 0 7) h4;rw[Z9,EF,DZ,JZ]at e;simp only[fV,List.getD_cons_zero]at e;have e2:((List.replicate 256 0).take 82).getD 0 7=0:=by decide+kernel
 rw[e2]at e;cases e
def wR{α:Type}(l:List α)(i j:Nat)(v d:α):(l.set i v).getD j d=if i=j∧j<l.length then v else l.getD j d:=by
 rw[aG,oD,aG];by_cases e:i=j
 ·subst e;by_cases h:i<l.length
  ·rw[bu rfl,bu h,bu ⟨rfl,h⟩];rfl
  rw[bu rfl,aV h,aV (λx=>h x.2),jF (by omega)]
 rw[aV e,aV (λx=>e x.1)]
def Fv(L:List af)(q:Nat):∀(W:List (Nat×af)) (L:List af),(∀p∈W,p.1≠q)->(sQ L W).getD q ⟨#[]⟩=L.getD q ⟨#[]⟩
 | [],L,_=>rfl
 | p::W,L,h=>by rw[sQ,dY,<-sQ,Fv L q W _ (λx hx=>h x (bD _ hx)),wR,aV (λx=>h p (bW ..) x.1)]
def Lh(q:Nat)(s:af):∀(W:List (Nat×af)) (L:List af),W.Pairwise (λp q=>p.1≠q.1)->(q,s)∈W->q<L.length->(sQ L W).getD q ⟨#[]⟩=s
 | [],L,_,h,_=>by cases h
 | p::W,L,hp,h,hq=>by
  rw[sQ,dY,<-sQ];have YR:=(dR.1 hp).1;rcases dO.1 h with h|h
  ·rw[Fv L q W _ (λx hx e=>YR x hx (by rw[<-h];exact e.s)),wR,bu ⟨by rw[<-h],hq⟩,<-h]
  exact Lh q s W _ (dR.1 hp).2 h (by rw[fC];exact hq)
structure zn7(B:List af)(ws:List (Nat×af))(B':List af):Prop where
 len:B'.length=B.length
 at_:∀q,B'.getD q ⟨#[]⟩=B.getD q ⟨#[]⟩∨∃s,(q,s)∈ws∧B'.getD q ⟨#[]⟩=s
def PN:∀(ws:List (Nat×af)) (B:List af),zn7 B ws (sQ B ws)
 | [],B=>⟨rfl,λq=> .inl rfl⟩
 | p::ws,B=>by
  have ih:=PN ws (B.set p.1 p.2);rw[sQ,dY,<-sQ];refine⟨by rw[ih.len,fC],λq=> ?_⟩;rcases ih.at_ q with h|⟨s,h1,h2⟩
  ·rw[h,wR];split
   ·rename_i h3;exact .inr ⟨p.2,by rw[<-h3.1];exact bW ..,rfl⟩
   exact .inl rfl
  exact .inr ⟨s,bD _ h1,h2⟩
def X8(B:List af)(ws:List (Nat×af))(keeps:List Bool):∀k,k<=ws.length->zn7 B ws (wO B ws keeps k)
 | 0,_=>⟨rfl,λq=> .inl rfl⟩
 | k+1,hk=>by
  have ih:=X8 B ws keeps k (by omega);rw[wO];split
  ·refine⟨by rw[fC,ih.len],λq=> ?_⟩;rw[wR];split
   ·rename_i h3;refine .inr ⟨_,?_,rfl⟩;have e:ws.getD k (0,⟨#[]⟩)=ws[k]:=by rw[aG,aK (by omega)];rfl
    rw[<-h3.1,e];exact fO _
   exact ih.at_ q
  exact ih
structure xR(secret:af)(V:qI)(B:List af)(n:Nat):Prop where
 sec:V.secret=secret
 alive:V.dead=false
 Ea:V.now.count=n
 ep1:1<=V.now.qB
 ep2:V.now.qB<=n+1
 qx:V.now.qx.length=32
 texts:V.texts.length=32
 marks:V.marks.length=32
 m16:∀m∈V.marks,m.size=16
 t200:∀s∈V.texts,s.size<=200
 zug:B.length=66
 bsz:∀i,i<66->(B.getD i ⟨#[]⟩).size=256
 Xr:∀i,i<32->BL (CQ secret V.now.qB) B V.now.qx i=some (V.texts.getD i ⟨#[]⟩,V.marks.getD i ⟨#[]⟩)
 fresh:n=0->V=yS secret
 zse:0<n->DC secret B n=some V.now
 root:0<n->vS V.marks=V.now.root
 old:∀c:Int,n<c->DC secret B c=none
def zbf{α:Type}(l:List α)(d:α)(n:Nat)(h:l.length=n):(List.range n).map (λi=>l.getD i d)=l:=by apply kV (by simp[h]);intro i h1 h2;simp[aG,h2]
def zop{secret:af}(h:xR secret V B n)(h0:0<n):xX secret B n=some V:=by
 obtain⟨m,hm⟩:∃m,m=32:=⟨_,rfl⟩
 have hp:=UT (λi=>(V.texts.getD i ⟨#[]⟩,V.marks.getD i ⟨#[]⟩)) m (by rw[hm];exact h.Xr);have e1:((List.range m).map (λi=>(V.texts.getD i ⟨#[]⟩,V.marks.getD i ⟨#[]⟩))).map (·.1)=V.texts:=by rw[iy];exact zbf V.texts ⟨#[]⟩ m (by rw[hm];exact h.texts)
 have e2:((List.range m).map (λi=>(V.texts.getD i ⟨#[]⟩,V.marks.getD i ⟨#[]⟩))).map (·.2)=V.marks:=by rw[iy];exact zbf V.marks ⟨#[]⟩ m (by rw[hm];exact h.marks)
 obtain⟨L,hL⟩:=aj ((List.range m).map (λi=>(V.texts.getD i ⟨#[]⟩,V.marks.getD i ⟨#[]⟩)));rw[<-hL]at hp e1 e2;have TT:EP secret B V.now=some (V.texts,V.marks):=by rw[hm]at hp;unfold EP;rw[hp];show(if vS (L.map (·.2))=V.now.root then some (L.map (·.1),L.map (·.2))else none)=_;rw[e1,e2,bu (h.root h0)]
 have hV:(⟨secret,V.now,V.texts,V.marks,false⟩:qI)=V:=by have h1:=h.sec;have h2:=h.alive;obtain⟨a,b,c,d,e⟩:=V;simp only at h1 h2;subst h1;subst h2;rfl
 unfold xX;rw[h.zse h0];show(EP secret B V.now).map (λp=>(⟨secret,V.now,p.1,p.2,false⟩:qI))=some V;rw[TT];exact dB some hV
def zgY{secret:af}(h:xR secret V B n)(c:Int)(hc:n<c):xX secret B c=none:=by rw[xX,h.old c hc]
def zgX{secret:af}(h:xR secret V B n):IX secret B n=some (V,(n:Int)):=by
 rw[IX,zgY h _ (by omega)];by_cases e:n=0
 ·have:(n:Int)=0:=by omega
  simp only[this,if_true];rw[h.fresh e]
 have:¬(n:Int)=0:=by omega
 simp only[this,if_false];rw[zop h (by omega)];rfl
def PH{secret:af}{c:Int}(h:B'.getD (c % 2).toNat ⟨#[]⟩=B.getD (c % 2).toNat ⟨#[]⟩):DC secret B' c=DC secret B c:=by rw[DC,DC,h]
def Ws{secret:af}{ws:List (Nat×af)}(h:xR secret V B n)(hm:zn7 B ws B')(hw:∀p∈ws,∃i,i<32∧p.1=vI i (!V.now.qx.getD i false)∧p.2.size=256):xR secret V B' n:=by
 have hs:∀q,q<2->B'.getD q ⟨#[]⟩=B.getD q ⟨#[]⟩:=λq hq=>by
  rcases hm.at_ q with h1|⟨s,h1,_⟩
  ·exact h1
  obtain⟨i,hi,h2,_⟩:=hw _ h1;have h2:q=vI i (!V.now.qx.getD i false):=h2;have:=zdo i (!V.now.qx.getD i false);omega
 refine⟨h.sec,h.alive,h.Ea,h.ep1,h.ep2,h.qx,h.texts,h.marks,h.m16,h.t200,by rw[hm.len];exact h.zug,λi hi=> ?_,λi hi=> ?_,h.fresh,λh0=> ?_,h.root,λc hc=> ?_⟩
 ·rcases hm.at_ i with h1|⟨s,h1,h2⟩
  ·rw[h1];exact h.bsz i hi
  obtain⟨j,_,_,h3⟩:=hw _ h1;rw[h2];exact h3
 ·have e:B'.getD (vI i (V.now.qx.getD i false)) ⟨#[]⟩=B.getD (vI i (V.now.qx.getD i false)) ⟨#[]⟩:=by
   rcases hm.at_ (vI i (V.now.qx.getD i false))with h1|⟨s,h1,_⟩
   ·exact h1
   ·obtain⟨j,hj,h2,_⟩:=hw _ h1;have h3:=zaX h2;obtain⟨h3,h4⟩:=h3;subst h3;cases hb:V.now.qx.getD i false<;>rw[hb]at h4<;>cases h4
  rw[BL,e];exact h.Xr i hi
 ·rw[PH (hs _ (by omega))];exact h.zse h0
 rw[PH (hs _ (by omega))];exact h.old c hc
def zhr(secret:af)(c:Int)(B:List af)(h:B.getD (c % 2).toNat ⟨#[]⟩=zO):DC secret B c=none:=by rw[DC,h,aV (λx=>zjH _ x.1)]
def zjF(n:Nat)(h:n=32):((List.range n).map λ(i:Nat)=>uI (i:Int) 0 ⟨#[]⟩).length=32:=by simp[h]
def zdA(secret:af)(B:List af)(hl:B.length=66)(hz:∀i,i<66->B.getD i ⟨#[]⟩=zO):xR secret (yS secret) B 0:=by
 refine⟨rfl,rfl,rfl,qh 1,qh 1,bP,bP,zjF 32 rfl,λm hm=> ?_,λs hs=> ?_,hl,λi hi=> ?_,λi hi=> ?_,λ_=>rfl,λh=>absurd h (by omega),λh=>absurd h (by omega),λc hc=> ?_⟩
 ·obtain⟨i,_,rfl⟩:=bY.1 hm;exact FY _ _ _
 ·rw[(ji.1 hs).2];exact fP 200
 ·rw[hz i hi];exact Fj
 ·rw[BL,hz _ (Ff hi _),zhV];have e1:(yS secret).texts.getD i ⟨#[]⟩=⟨#[]⟩:=by
   show(List.replicate 32 (⟨#[]⟩:af)).getD i ⟨#[]⟩=_;rw[aG,jP,bu hi];rfl
  have e2:(yS secret).marks.getD i ⟨#[]⟩=uI (i:Int) 0 ⟨#[]⟩:=by show((List.range 32).map λ(i:Nat)=>uI (i:Int) 0 ⟨#[]⟩).getD i ⟨#[]⟩=_;rw[aG,aX,kP hi];rfl
  rw[e1,e2]
 exact zhr _ _ _ (hz _ (by omega))
structure WOk(W:List (Nat×af)):Prop where
 ids:∀p∈W,p.1<32
 small:∀p∈W,p.2.size<=200
 apart:W.Pairwise (λp q=>p.1≠q.1)
def wrV(key:af)(rf:Int)(qx:List Bool)(W:List (Nat×af)):List (Nat×af):=W.map λp=>(vI p.1 (!qx.getD p.1 false),BD (IW key p.1 rf p.2))
def uB(qx:List Bool)(W:List (Nat×af)):List Bool:=W.foldl (λl p=>l.set p.1 (!l.getD p.1 false)) qx
def CB(rf:Int)(marks:List af)(W:List (Nat×af)):List af:=sQ marks (W.map λp=>(p.1,uI p.1 rf p.2))
def zU:∀(W:List (Nat×af)) (qx:List Bool),(uB qx W).length=qx.length
 | [],_=>rfl
 | p::W,qx=>by rw[uB,dY,<-uB,zU W,fC]
def Jb(q:Nat):∀(W:List (Nat×af)) (qx:List Bool),(∀p∈W,p.1≠q)->(uB qx W).getD q false=qx.getD q false
 | [],_,_=>rfl
 | p::W,qx,h=>by rw[uB,dY,<-uB,Jb q W _ (λx hx=>h x (bD _ hx)),wR,aV (λx=>h p (bW ..) x.1)]
def zaL(q:Nat)(s:af):∀(W:List (Nat×af)) (qx:List Bool),W.Pairwise (λp q=>p.1≠q.1)->(q,s)∈W->q<qx.length->(uB qx W).getD q false= !qx.getD q false
 | [],_,_,h,_=>by cases h
 | p::W,qx,hp,h,hq=>by
  rw[uB,dY,<-uB];have YR:=(dR.1 hp).1;rcases dO.1 h with h|h
  ·rw[Jb q W _ (λx hx e=>YR x hx (by rw[<-h];exact e.s)),wR,bu ⟨by rw[<-h],hq⟩,<-h]
  rw[zaL q s W _ (dR.1 hp).2 h (by rw[fC];exact hq),wR,aV (λx=>YR _ h x.1)]
def zlG(key:af)(rf:Int)(a b:List Bool)(W:List (Nat×af))(h:∀p∈W,a.getD p.1 false=b.getD p.1 false):wrV key rf a W=wrV key rf b W:=by rw[wrV,wrV];apply gU;intro p hp;rw[h p hp]
structure zvr(key:af)(rf:Int)(W:List (Nat×af))(st:DK)(r:DK×Bool)(k:Nat):Prop where
 le:k<=W.length
 qy:r.1.dev.qy=st.dev.qy
 wait:r.1.dev.wait=st.dev.wait++wrV key rf st.qx (W.take k)
 qx:r.1.qx=uB st.qx (W.take k)
 marks:r.1.marks=CB rf st.marks (W.take k)
 all:r.2=true->k=W.length
 zx2:r.2=false->r.1.dev.qR=0
 free:st.dev.qR<0->r.2=true∧r.1.dev.qR=st.dev.qR
 held:0<=st.dev.qR->0<=r.1.dev.qR
def zdd(key:af)(rf:Int):∀(W:List (Nat×af)) (st:DK),W.Pairwise (λp q=>p.1≠q.1)->∃k,zvr key rf W st (wZ key rf W st) k
 | [],st,_=>⟨0,aS _,rfl,(dS _).s,rfl,rfl,λ_=>rfl,λh=>absurd h (by simp[wZ]),λ_=>⟨rfl,rfl⟩,λh=>h⟩
 | p::W,st,hp=>by
  have YR:=(dR.1 hp).1;rw[wZ];by_cases hf:st.dev.qR=0
  ·rw[bu hf];exact⟨0,by omega,rfl,(dS _).s,rfl,rfl,λh=>(by cases h),λ_=>hf,λh=>absurd h (by omega),λh=>h⟩
  rw[aV hf];obtain⟨k,h⟩:=zdd key rf W (yX key rf st p) (dR.1 hp).2;have hw:wrV key rf (yX key rf st p).qx (W.take k)=wrV key rf st.qx (W.take k):=by
   refine zlG _ _ _ _ _ λq hq=> ?_;show(st.qx.set p.1 (!st.qx.getD p.1 false)).getD q.1 false=_;rw[wR,aV (λx=>YR q (iq hq) x.1)]
  have hbf:x9 st.dev.qR<0↔st.dev.qR<0:=by unfold x9;split<;>omega
  refine⟨k+1,by have:=h.le;simp only[bf];omega,h.qy,?_,?_,?_,λe=>by rw[h.all e];rfl,h.zx2,λe=> ?_,λe=> ?_⟩
  ·rw[h.wait,hw];show(st.dev.wait++ [_])++_=st.dev.wait++(_::_)
   rw[bC];rfl
  ·rw[h.qx];rfl
  ·rw[h.marks];rfl
  ·have h2:=h.free (show x9 st.dev.qR<0 from hbf.2 e);refine⟨h2.1,h2.2.t ?_⟩;show x9 st.dev.qR=_;unfold x9;rw[aV (by omega)]
  exact h.held (show 0<=x9 st.dev.qR by unfold x9;split<;>omega)
def xG(V:qI)(ep:Int)(W:List (Nat×af)):qI:=
 ⟨V.secret,⟨V.now.count+1,ep,uB V.now.qx W,vS (CB (V.now.count+1) V.marks W)⟩,ui V.texts W,CB (V.now.count+1) V.marks W,V.dead⟩
def zdX(V:qI)(B:List af)(ep:Int)(W:List (Nat×af)):List af:=sQ B (wrV (CQ V.secret ep) (V.now.count+1) V.now.qx W)
def DX(V:qI)(B:List af)(ep:Int)(W:List (Nat×af)):List af:=(zdX V B ep W).set ((V.now.count+1) % 2).toNat (BD (Cf (vV V.secret) (xG V ep W).now))
def zer{rf:Int}{qx:List Bool}(hW:WOk W):∀p∈wrV key rf qx W,∃i,i<32∧p.1=vI i (!qx.getD i false)∧p.2.size=256:=by intro p hp;obtain⟨q,hq,rfl⟩:=bY.1 hp;refine⟨q.1,hW.ids q hq,rfl,VY _ ?_⟩;rw[Nl _ _ _ _ (hW.small q hq)];omega
def WOk.take(h:WOk W)(k:Nat):WOk (W.take k):=
 ⟨λp hp=>h.ids p (iq hp),λp hp=>h.small p (iq hp),h.apart.sublist (List.take_sublist k W)⟩
def zjv{l:List af}(h:l.length=32)(h16:∀m∈l,m.size=16):(vS l).size=16:=by
 rw[vS,bu (y8.2 ⟨h,h16⟩)];have hl:(ups 4 l).length=2:=by rw[Qo,h]
 show((upL (ups 4 l)).getD 0 ⟨#[]⟩).size=16;rw[upL,hl];exact zao _ _
def dropWhile_nil{α:Type}(p:α->Bool):∀l:List α,(∀x∈l.dropWhile p,p x=true)->l.dropWhile p= []
 | [],_=>rfl
 | a::l,h=>by
  by_cases ha:p a=true
  ·rw[mZ ha]at h⊢;exact dropWhile_nil p l h
  rw[List.dropWhile_cons_of_neg ha]at h;exact absurd (h a bW) ha
def JH{α:Type}(p:α->Bool):∀l:List α,l.dropWhile p= []->∀x∈l,p x=true
 | [],_=>λx hx=>by cases hx
 | a::l,h=>by
  by_cases ha:p a=true
  ·rw[mZ ha]at h;intro x hx;rcases dO.1 hx with rfl|hx
   ·exact ha
   exact JH p l h x hx
  rw[List.dropWhile_cons_of_neg ha]at h;cases h
def Lr{α:Type}(p:α->Bool):∀l:List α,(∀x∈l,p x=true)->l.dropWhile p= []
 | [],_=>rfl
 | a::l,h=>by rw[mZ (h a bW)];exact Lr p l λx hx=>h x (bD _ hx)
def zlX(l:List UInt8)(c:UInt8):Lib.trimB l c= []↔∀x∈l,x=c:=by
 unfold Lib.trimB Lib.trimLeftB Lib.trimRightB;constructor
 ·intro h x hx;have h1:=JH _ _ h;have h2:=dropWhile_nil (· ==c) l.reverse λy hy=>h1 y (mg.2 hy);have h3:=JH _ _ h2 x (mg.2 hx)
  simpa using h3
 intro h;have h2:=Lr (· ==c) l.reverse λy hy=>by simpa using h y (mg.1 hy)
 rw[h2];rfl
def zc8(s:af):(⟨(Lib.trimB s.data.toList 0).toArray⟩:af)=⟨#[]⟩↔bs s=List.replicate s.size 0:=by
 have e:((⟨(Lib.trimB s.data.toList 0).toArray⟩:af)=⟨#[]⟩)↔Lib.trimB s.data.toList 0= []:=by
  constructor
  ·intro h;have:=dB (λb:af=>b.data.toList) h
   simpa using this
  intro h;rw[h]
 rw[e,zlX];rw[List.eq_replicate_iff];constructor
 ·intro h;refine⟨ry s,λx hx=> ?_⟩;simp only[bs,bY]at hx;obtain⟨y,hy,rfl⟩:=hx;rw[h y hy];rfl
 rintro⟨_,h⟩ x hx;have:=h x.toNat (by simp only[bs,bY];exact⟨x,hx,rfl⟩);exact UInt8.toNat_inj.1 this
def zcs(key s:af)(hk:key.size=32)(hs:82<=s.size)(JO:s.size<=1000)(hz:(bs s).drop 82≠List.replicate (s.size-82) 0)(w:ax):
  ae 150 #[.string key,.string s] w (au (.tuple #[tH sZ,qY 15]) w):=by
 have j0:((key.size:Nat):Int)=32:=by omega
 have j1:decide ((s.size:Int)<82)=false:=by simp;omega
 have j2:(82:Int)<=s.size:=by omega
 obtain⟨D,hD⟩:=aj (s.extract 82 s.size);have hDs:D.size=s.size-82:=by rw[hD,fK];omega
 have htr:=λw=>strings_Trim_one D 0 (by decide) w (by omega);obtain⟨T,hT⟩:∃T:af,T=⟨(Lib.trimB D.data.toList 0).toArray⟩:=⟨_,rfl⟩
 rw[<-hT]at htr;have hTn:T≠⟨#[]⟩:=λh=>hz (by have:=(zc8 D).1 (hT.s.t h);rw[hDs,hD,rQ,bg (by rw[gY,ry];exact aS _)]at this;exact this)
 rw[hD]at htr;have hTq:∀(w:ax) (X:Ext w),ae 164 #[.string (s.extract 82 s.size),.string ⟨#[0]⟩] (w.ext X) λe w'=>e= .returned (.string T)∧ak (w.ext X) w':=λw X=>(htr (w.ext X)).m λe w' h=>⟨h.1,by rcases h.2 with rfl|rfl;exact ah _ _;exact(ah _ _).drew⟩
 have OD:T.toList.isEmpty=false:=by
  cases h:T.toList with
  | nil=>exact absurd (xJ (by rw[bs,<-dI,h];rfl)) hTn
  | cons a l=>rfl
 have yh:=xP;have Qh:=Aj;have AP:=Au;have xu:=sU sZ;have Gg:(prog.info? 66).map (·.size)=some (qG sZ).toArray.size:=by rw[AP];exact sK
 rw[tH]at yh⊢;obtain⟨cz,JL⟩:=aj ((qG sZ).toArray);rw[<-JL]at yh Qh AP xu Gg⊢;clear JL htr hD hT hTn hz hDs;have EJ:=ag yh;have Hbz:=ag Qh;have Gf:=ag Gg;have Hq:=ag hTq;clear yh Qh Gg hTq;go_enter func150,ntmps150;go_wp2_with (first|(refine qN rfl 66 rfl EJ.o ?_;refine qQ (λw9=>w9.heap[w.heap.size]? =some (.cells cz 66 (0,0))∧ak w w9) ⟨aQ w _,(ah qw w).alloc _⟩ ?_;rintro w9 ⟨Qj,K9⟩));refine rX (by kernel_rfl) (by kernel_rfl) ?_
 iterate 20 ((with_reducible refine jK (λK hK=> ?_));go_simp;first|(refine hK _ ?_;clear hK K)|(apply Exists.intro;refine⟨λ_=> ?_,hK _ ?_⟩;(go_at_call 164;exact vw _ (Hq.o _ _));clear hK K))
 refine dP ?_;intro X;have hXX:=(rZ w9 X).heap Qj (λx=>x);have KX:=K9.qo (rZ w9 X);go_wp2_with (first|(refine qZ rfl 66 #[] rfl cz (by simpa using Hbz.o) ?_)|(refine qL rfl 66 (.tmp 4) (.tmp 36) rfl w.heap.size 66 cz cz rfl rfl hXX Gf.o 35 AP AP xu ?_;have wI:=qO (c':=cz) hXX;have BC:=KX.setRow (g:=w.heap.size) (.inr (aS _)) cz;refine qQ (λAV=>AV.heap[w.heap.size]? =some (.cells cz 66 (0,0))∧ak w AV) ⟨wI,BC⟩ ?_;clear wI BC;rintro AV ⟨wI,BC⟩));exact eF (v:= .tuple #[.agg cz,qY 15]) (tZ rfl _ AV w.heap.size 66 cz (0,0) _ (qY 15) rfl rfl wI dM rfl Gf.o) rfl ⟨rfl,BC⟩
def zct(key s:af)(hk:key.size=32)(hs:82<=s.size)(JO:s.size<=1000)(hz:(bs s).drop 82=List.replicate (s.size-82) 0)(w:ax)(V:rF w):
  ae 150 #[.string key,.string s] w λe w'=>e= .returned (.tuple #[tH (vJ key s),qY (xe key s)])∧ak w w':=by
 obtain⟨PV,YX⟩:=aj (vJ key s);obtain⟨PE,hPE⟩:=aj (xe key s);rw[<-YX,<-hPE];rw[vJ]at YX;rw[xe,bu hk,aV (show¬s.size<82 by omega)]at hPE;have HPV:=ag YX;have HPE:=ag hPE;clear YX hPE;have j0:((key.size:Nat):Int)=32:=by omega
 have j1:decide ((s.size:Int)<82)=false:=by simp;omega
 have j2:(82:Int)<=s.size:=by omega
 have j3:(66:Int)<=s.size:=by omega
 obtain⟨D,hD⟩:=aj (s.extract 82 s.size);have hDs:D.size=s.size-82:=by rw[hD,fK];omega
 have htr:=λw=>strings_Trim_one D 0 (by decide) w (by omega);obtain⟨T,hT⟩:∃T:af,T=⟨(Lib.trimB D.data.toList 0).toArray⟩:=⟨_,rfl⟩
 have hTn:T=⟨#[]⟩:=hT.t ((zc8 D).2 (by rw[hDs,hD,rQ,bg (by rw[gY,ry];exact aS _),hz]));rw[<-hT,hTn,hD]at htr;obtain⟨M,hM⟩:=aj (s.extract 66 82);have hCs:(s.extract 0 66).size=66:=by rw[fK];omega
 have hml:(rG 122 ([key,s.extract 0 66].map bs)).length<=100000:=by simp[rG,sS,tu,ry];omega
 obtain⟨G,hG⟩:=aj (uu (mark 122 ([key,s.extract 0 66].map bs)));have e1:(2:Int)<=s.size:=by omega
 have e2:(10:Int)<=s.size:=by omega
 obtain⟨P2,Lt⟩:=aj (s.extract 2 s.size);obtain⟨P10,ziK⟩:=aj (s.extract 10 s.size);have b2:bs P2=(bs s).drop 2:=by rw[Lt,rQ,bg (by rw[gY,ry];exact aS _)]
 have b10:bs P10=(bs s).drop 10:=by rw[ziK,rQ,bg (by rw[gY,ry];exact aS _)]
 have s2:P2.size=s.size-2:=by rw[<-ry,b2,gY,ry]
 have s10:P10.size=s.size-10:=by rw[<-ry,b10,gY,ry]
 obtain⟨va,LG⟩:=aj (yV ((bs s).drop 2));obtain⟨vb,hvb⟩:=aj (yV ((bs s).drop 10));have Dw:=λw=>Q9 P2 (by omega) (by omega) w;have ziE:=λw=>Q9 P10 (by omega) (by omega) w;rw[b2,<-LG,Lt]at Dw;rw[b10,<-hvb,ziK]at ziE;have Hn2:=ag Dw;have zeg:=ag ziE;have Hva:=ag LG;have Hvb:=ag hvb;clear Dw ziE b2 b10 s2 s10 Lt ziK LG hvb P2 P10;obtain⟨cb,hcb⟩:=aj ((qG ⟨va,vb,List.replicate 32 false,s.extract 50 66⟩).toArray);have hbu:=zdQ va vb (s.extract 50 66);have OM:cb.size=35:=by rw[hcb,bZ,uk _ (by simp)]
 have RU:cb.all (·.oneCell')=true:=by rw[hcb];exact sU _
 rw[<-hcb]at hbu;have Hbu:=ag hbu;have Hcb:=ag hcb;have QP:(prog.info? 66).map (·.size)=some cb.size:=by rw[OM];exact sK
 have Gf:=ag QP;clear hbu hcb QP;have yh:=xP;have AP:=Au;rw[tH]at yh;obtain⟨cz,JL⟩:=aj ((qG sZ).toArray);rw[<-JL]at yh AP;have EJ:=ag yh;have Hcz:=ag JL;have Htr:Hid (∀w:ax,ae 164 #[.string (s.extract 82 s.size),.string ⟨#[0]⟩] w (au (.string ⟨#[]⟩) w)):=ag λw=>(htr w).m λe w' h=>⟨h.1,by rcases h.2 with rfl|rfl;exact ah _ _;exact(ah _ _).drew⟩
 have HM:=ag hM;have HG:=ag hG;have zA4:=ag hz;have Hml:=ag hml;clear yh JL htr hM hG hz hT hTn hD hDs hml hCs D T;go_enter func150,ntmps150;go_wp2_with (first|(refine qN rfl 66 rfl EJ.o ?_;refine qQ (λw9=>w9.heap[w.heap.size]? =some (.cells cz 66 (0,0))∧ak w w9) ⟨aQ w _,(ah qw w).alloc _⟩ ?_;rintro w9 ⟨Qj,K9⟩))
 go_region_with (first|(go_at_call 164;refine(Htr.o _).m ?_;rintro e w1 ⟨rfl,K1⟩)|(go_at_call 152;refine(Ep 122 (by decide) _ [key,s.extract 0 66] _ (V.qm ((K9.drew.qo K1).alloc _) (λx=>x)) (Strs.lit (w:=w1) [key,s.extract 0 66]) Hml.o (by simp)).m ?_;rw[<-HG.o];rintro e w2 ⟨rfl,K2⟩))
 have LQ:=((K9.drew.qo K1).alloc _).qo K2;have YW:=K2.heap (Keep.heap ((ah qw _).alloc _) (K1.heap (show w9.drew.heap[w.heap.size]? =_ from Qj) (λx=>x)) (λx=>x)) (λx=>x);rw[<-HM.o];by_cases heq:G=M
 ·have zC:zQ G M=true:=by rw[heq];exact BO M
  unfold zQ at zC;rw[zC,qi];clear zC heq;go_simp;go_upto_region 5 with(fail)
  go_cut [6] (λyv wx=>∃Y,yv= .pointer (some ⟨Y,0,none⟩)∧w.heap.size<Y∧wx.heap[Y]? =some (.cells cb 66 (0,0))∧wx.heap[w.heap.size]? =some (.cells cz 66 (0,0))∧ak w wx)
  ·have h2l:w.heap.size<w2.heap.size:=lt_of_heap YW;have h2k:=LQ.size;refine PY [0,1,3,4,6,7] (.fork 2 (.fork 5 (.fork 8 (.row [9,10]) 9 (.row [8,10])) 9 (.row [5,8,10])) 9 (.row [2,5,8,10])) (by kernel_rfl) (by kernel_rfl) (λc a d v w h=>by cases d<;>exact h) ?_;simp only[qC,aF,aH,aI]
   repeat(refine xy (λK hK=> ?_);go_simp;refine hK _ ?_;clear hK K)
   refine yf ?_;refine⟨?_,?_⟩
   ·simp only[qC,aF,aH,aI];go_wp2_with fail;refine(Hn2.o _).m ?_;rintro e wx ⟨rfl,Yw⟩;subst wx;go_wp2_with fail;refine⟨?_,?_⟩
    ·simp only[qC,aF,aH,aI];go_wp2_with fail;refine(zeg.o _).m ?_;rintro e wx ⟨rfl,Yw⟩;subst wx;go_wp2_with fail;refine⟨?_,?_⟩
     ·simp only[qC,aF,aH,aI];go_wp2_with (first|(refine qN rfl 66 rfl EJ.o ?_;refine qQ (λyH=>yH.heap[w2.heap.size]? =some (.cells cz 66 (0,0))∧yH.heap[w.heap.size]? =some (.cells cz 66 (0,0))∧ak w yH) ⟨aQ w2.drew _,((ah qw w2).drew.alloc _).heap YW (λx=>x),LQ.drew.alloc _⟩ ?_;rintro yH ⟨BF,EW,FB⟩;have yx:=sO (P:=prog) BF (AP.t OM.s) RU;have Mc:=qO (c':=cb) BF;have Md:=(gm yH w2.heap.size w.heap.size cb (λe=>by omega)).t EW;have QQ:=FB.setRow (g:=w2.heap.size) (.inr (by omega)) cb)|(refine qZ rfl 66 #[(0,.tmp 40),(1,.tmp 43),(3,.tmp 45)] rfl cb (by simp only[fH,bH,dh,fD];exact Hbu.o) ?_));simp only[BI,qC,aF,aH,aI];go_wp2_with (first|(refine qN rfl 66 rfl EJ.o ?_;refine qQ (λyH=>yH.heap[w2.heap.size]? =some (.cells cz 66 (0,0))∧yH.heap[w.heap.size]? =some (.cells cz 66 (0,0))∧ak w yH) ⟨aQ w2.drew _,((ah qw w2).drew.alloc _).heap YW (λx=>x),LQ.drew.alloc _⟩ ?_;rintro yH ⟨BF,EW,FB⟩;have yx:=sO (P:=prog) BF (AP.t OM.s) RU;have Mc:=qO (c':=cb) BF;have Md:=(gm yH w2.heap.size w.heap.size cb (λe=>by omega)).t EW;have QQ:=FB.setRow (g:=w2.heap.size) (.inr (by omega)) cb)|(refine qZ rfl 66 #[(0,.tmp 40),(1,.tmp 43),(3,.tmp 45)] rfl cb (by simp only[fH,bH,dh,fD];exact Hbu.o) ?_));go_meet
      exact⟨w2.heap.size,rfl,h2l,Mc,Md,QQ⟩
     simp only[qC,aF,aH,aI];go_wp2_with (first|(refine qN rfl 66 rfl EJ.o ?_;refine qQ (λyH=>yH.heap[w2.heap.size]? =some (.cells cz 66 (0,0))∧yH.heap[w.heap.size]? =some (.cells cz 66 (0,0))∧ak w yH) ⟨aQ w2.drew _,((ah qw w2).drew.alloc _).heap YW (λx=>x),LQ.drew.alloc _⟩ ?_;rintro yH ⟨BF,EW,FB⟩;have yx:=sO (P:=prog) BF (AP.t OM.s) RU;have Mc:=qO (c':=cb) BF;have Md:=(gm yH w2.heap.size w.heap.size cb (λe=>by omega)).t EW;have QQ:=FB.setRow (g:=w2.heap.size) (.inr (by omega)) cb)|(refine qZ rfl 66 #[(0,.tmp 40),(1,.tmp 43),(3,.tmp 45)] rfl cb (by simp only[fH,bH,dh,fD];exact Hbu.o) ?_));simp only[BI,qC,aF,aH,aI];go_wp2_with (first|(refine qN rfl 66 rfl EJ.o ?_;refine qQ (λyH=>yH.heap[w2.heap.size]? =some (.cells cz 66 (0,0))∧yH.heap[w.heap.size]? =some (.cells cz 66 (0,0))∧ak w yH) ⟨aQ w2.drew _,((ah qw w2).drew.alloc _).heap YW (λx=>x),LQ.drew.alloc _⟩ ?_;rintro yH ⟨BF,EW,FB⟩;have yx:=sO (P:=prog) BF (AP.t OM.s) RU;have Mc:=qO (c':=cb) BF;have Md:=(gm yH w2.heap.size w.heap.size cb (λe=>by omega)).t EW;have QQ:=FB.setRow (g:=w2.heap.size) (.inr (by omega)) cb)|(refine qZ rfl 66 #[(0,.tmp 40),(1,.tmp 43),(3,.tmp 45)] rfl cb (by simp only[fH,bH,dh,fD];exact Hbu.o) ?_));go_meet
     exact⟨w2.heap.size,rfl,h2l,Mc,Md,QQ⟩
    simp only[qC,aF,aH,aI];go_wp2_with (refine qN rfl 66 rfl EJ.o ?_;refine qQ (λyH=>yH.heap[w2.heap.size]? =some (.cells cz 66 (0,0))∧yH.heap[w.heap.size]? =some (.cells cz 66 (0,0))∧ak w yH) ⟨aQ w2.drew _,((ah qw w2).drew.alloc _).heap YW (λx=>x),LQ.drew.alloc _⟩ ?_;rintro yH ⟨BF,EW,FB⟩;have yx:=sO (P:=prog) BF (AP.t OM.s) RU;have Mc:=qO (c':=cb) BF;have Md:=(gm yH w2.heap.size w.heap.size cb (λe=>by omega)).t EW;have QQ:=FB.setRow (g:=w2.heap.size) (.inr (by omega)) cb);simp only[BI,qC,aF,aH,aI];go_wp2_with fail;refine(zeg.o _).m ?_;rintro e wx ⟨rfl,Yw⟩;subst wx;go_wp2_with (refine qZ rfl 66 #[(0,.tmp 40),(1,.tmp 43),(3,.tmp 45)] rfl cb (by simp only[fH,bH,dh,fD];exact Hbu.o) ?_);go_meet
    exact⟨w2.heap.size,rfl,h2l,Mc,Md,QQ⟩
   simp only[qC,aF,aH,aI];go_wp2_with (refine qN rfl 66 rfl EJ.o ?_;refine qQ (λyH=>yH.heap[w2.heap.size]? =some (.cells cz 66 (0,0))∧yH.heap[w.heap.size]? =some (.cells cz 66 (0,0))∧ak w yH) ⟨aQ w2.drew _,((ah qw w2).drew.alloc _).heap YW (λx=>x),LQ.drew.alloc _⟩ ?_;rintro yH ⟨BF,EW,FB⟩;have yx:=sO (P:=prog) BF (AP.t OM.s) RU;have Mc:=qO (c':=cb) BF;have Md:=(gm yH w2.heap.size w.heap.size cb (λe=>by omega)).t EW;have QQ:=FB.setRow (g:=w2.heap.size) (.inr (by omega)) cb);simp only[BI,qC,aF,aH,aI];go_wp2_with fail;refine(Hn2.o _).m ?_;rintro e wx ⟨rfl,Yw⟩;subst wx;go_wp2_with fail;refine(zeg.o _).m ?_;rintro e wx ⟨rfl,Yw⟩;subst wx;go_wp2_with (refine qZ rfl 66 #[(0,.tmp 40),(1,.tmp 43),(3,.tmp 45)] rfl cb (by simp only[fH,bH,dh,fD];exact Hbu.o) ?_);go_meet
   exact⟨w2.heap.size,rfl,h2l,Mc,Md,QQ⟩
  obtain⟨Y,rfl,hYl,hY0,Vl,K0⟩:=hcut;rw[Hcb.o,<-UJ s]at hY0;have HY0:=ag hY0;have HX0:=ag Vl;clear hY0 Vl;go_wp2_with fail
  go_loopw [7,47] (λ_ iv wr=>∃t:Nat,t<=32∧iv= .int .i64 t∧Hid (wr.heap[Y]? =some (.cells (qG ⟨va,vb,Bh s t,s.extract 50 66⟩).toArray 66 (0,0)))∧Hid (wr.heap[w.heap.size]? =some (.cells cz 66 (0,0)))∧ak w wr) (λ_ iv _=>32-(intOf iv).toNat)
  ·exact⟨0,by omega,rfl,HY0,HX0,K0⟩
  obtain⟨t,ht,rfl,hY,hX,K⟩:=hrel;by_cases rE:t<32
  ·have j3:(t:Int)<32:=by omega
   have Tu:18+t<s.size:=by omega
   have hki:(18:Int)+t<s.size:=by omega
   have cY:wr.cell? ⟨Y,2+t,none⟩=some (.bool ((Bh s t).getD t false)):=by rw[aO wr Y (2+t) _ _ (0,0) hY.o];exact yg _ t (by rw[Jc];exact rE)
   have fY:wr.frozen? ⟨Y,2+t,none⟩=false:=by have h:=hY.o;simp[World.frozen?,h]
   have hv:((s[18+t].toNat:Int)==49)=decide ((bs s).getD (18+t) 0=49):=by rw[xZ s _ Tu,iQ,jZ,aW];omega
   have Hv:=ag hv;clear hv;go_wp2_with fail;refine⟨⟨t+1,by omega,by go_num,ag ?_,ag (heap_setCell_other hX.o (by omega) _),K.setCell (.inr (show w.heap.size<=Y by omega)) _⟩,by simp[intOf];omega⟩;rw[Hv.o,qK hY.o,GM _ _ _ _ _ _ (by rw[Jc];exact rE),UK]
  obtain rfl:t=32:=by omega
  have zf1:(⟨va,vb,Bh s 32,s.extract 50 66⟩:uX)=tJ s:=by rw[Hva.o,Hvb.o,XJ];rfl
  have hYr:=hY.o;rw[zf1]at hYr;have Oz:=hX.o;have Gn:=λ(w:ax) (R:rF w)=>UG key (tJ s) (xB s) w R;have xu:=sU (tJ s);have hoz:cz.all (·.oneCell')=true:=by rw[Hcz.o];exact sU _
  have Ce:(qG (tJ s)).toArray.size=35:=by rw[bZ];exact uk _ (xB s)
  have ziL:(prog.info? 66).map (·.size)=some (qG (tJ s)).toArray.size:=by rw[Ce];exact sK
  have zfL:(prog.info? 66).map (·.size)=some cz.size:=by rw[AP];exact sK
  have Qh:prog.built 66 []=some cz:=by rw[Hcz.o];exact Aj
  have hvz:tH sZ= .agg cz:=by rw[Hcz.o];rfl
  have hvr:tH (tJ s)= .agg (qG (tJ s)).toArray:=rfl;have hpb:=λhm=>QF key s hm hs;have YX:=HPV.o;have hPE:=HPE.o;rw[hvr]at Gn;obtain⟨W,hW⟩:=aj (Cf key (tJ s));obtain⟨E,hE⟩:=aj (RF key (tJ s));rw[<-hW,<-hE]at Gn;rw[Cf]at hW;rw[RF]at hE;obtain⟨M,hM⟩:=aj (uV key (tJ s));rw[<-hM]at hpb hW hE;have hMB:M=false->Ac key s=false:=λh=>by rw[Ac,<-hM,h,iH,iH]
  have HM:Hid (M=true->uV key (tJ s)=true):=ag (λh=>hM.s.t h);obtain⟨cr,Xg⟩:=aj ((qG (tJ s)).toArray);rw[<-Xg]at hYr Gn xu Ce ziL hvr;have Hwr:=ag Gn;have Hz:=ag zfL;have Hr:=ag ziL;have Hbz:=ag Qh;have Hvr:=ag hvr;have Hvz:=ag hvz;have HhX:=ag Oz;clear zf1 Gn Xg hvr hvz Oz zfL ziL Qh HY0 HX0 K0 Hn2 zeg Hbu Hcb RU OM Gf K9 Qj EJ Hcz rE ht hM K1 K2 LQ YW Htr Hml;go_wp2_with (first|(refine jI rfl 66 (.tmp 6) rfl Y rfl 66 cr (0,0) _ hYr dM rfl Hr.o ?_));have HhY:=ag hYr;have HV:=ag YX;have HE:=ag hPE;clear hYr YX hPE hX hY HPV HPE Hva Hvb;refine(Hwr.o _ (V.qm K (λx=>x))).m ?_;rintro e w5 ⟨rfl,K5⟩;have Oz:=K5.heap HhX.o (λx=>x);have hY5:=K5.heap HhY.o (λx=>x);have K6:=K.qo K5;clear Hwr K5 HhX HhY K;cases M with
  | false=>
   have hB:=hMB rfl;have tN:Ending.returned (.tuple #[.agg cz,qY 15])= .returned (.tuple #[tH PV,qY PE]):=by rw[HV.o,HE.o,hB,aV (λh=>by cases h.2.2),aV (λh=>by cases h),Hvz.o]
   have xM:=ag tN;rw[aV (λh=>by cases h)]at hE hW;clear hB tN HV HE Hvr Hvz hpb hMB;subst hE;subst hW;have he1:qY 1= .iface 34 (.int .i64 1):=rfl;go_wp2_with (first|(refine qZ rfl 66 #[] rfl cz (by simpa using Hbz.o) ?_)|(refine qL rfl 66 (.tmp 4) (.tmp 73) rfl w.heap.size 66 cz cz rfl rfl Oz Hz.o 35 AP AP hoz ?_;have wI:=qO (c':=cz) Oz;have BC:=K6.setRow (g:=w.heap.size) (.inr (aS _)) cz;refine qQ (λAV=>AV.heap[w.heap.size]? =some (.cells cz 66 (0,0))∧ak w AV) ⟨wI,BC⟩ ?_;clear wI BC;rintro AV ⟨wI,BC⟩));exact eF (v:= .tuple #[.agg cz,qY 15]) (tZ rfl _ AV w.heap.size 66 cz (0,0) _ (qY 15) rfl rfl wI dM rfl Hz.o) rfl ⟨xM.o,BC⟩
  | true=>
   rw[bu rfl]at hE hW;subst hE;have he0:qY 0= .nilIface:=rfl;have hMt:=HM.o rfl;have hWl:=Pj key _ (xB s) hMt;have hWb:bs W=EF key (tJ s):=by rw[hW,rM];rw[EF];exact vg (PU _) (uN _ _)
   have HWb:=ag hWb;have Hpb:=ag (hpb rfl);have QX:=Oz;have YV:=hY5;have K8:=K6;clear hW hpb hMB hWb Oz hY5 K6;by_cases heq:W=s.extract 0 82
   ·have hB:Ac key s=true:=by
     rw[Hpb.o,aW,<-HWb.o,<-zA4.o,heq,rQ,dF,iV]
    have zC:zQ W (s.extract 0 82)=true:=by rw[<-heq];exact BO W
    unfold zQ at zC;have tN:Ending.returned (.tuple #[.agg cr,.nilIface])= .returned (.tuple #[tH PV,qY PE]):=by rw[HV.o,HE.o,hB,bu ⟨hk,hs,rfl⟩,bu rfl,Hvr.o];rfl
    have xM:=ag tN;clear heq hB tN HV HE Hvr Hvz Hpb HWb;go_wp2_with (first|(refine jI rfl 66 (.tmp 6) rfl Y rfl 66 cr (0,0) _ YV dM rfl Hr.o ?_)|(refine qL rfl 66 (.tmp 4) (.tmp 75) rfl w.heap.size 66 cz cr rfl rfl QX Hr.o 35 AP Ce xu ?_;have wI:=qO (c':=cr) QX;have BC:=K8.setRow (g:=w.heap.size) (.inr (aS _)) cr;refine qQ (λAV=>AV.heap[w.heap.size]? =some (.cells cr 66 (0,0))∧ak w AV) ⟨wI,BC⟩ ?_;clear wI BC;rintro AV ⟨wI,BC⟩));exact eF (v:= .tuple #[.agg cr,.nilIface]) (tZ rfl _ AV w.heap.size 66 cr (0,0) _ .nilIface rfl rfl wI dM rfl Hr.o) rfl ⟨xM.o,BC⟩
   have hB:Ac key s=false:=by
    rw[Hpb.o,gq];intro h;refine heq (xJ ?_);rw[HWb.o,rQ,dF,h,gZ hWl]
   have zC:zQ W (s.extract 0 82)=false:=CJ heq;unfold zQ at zC;have tN:Ending.returned (.tuple #[.agg cz,qY 15])= .returned (.tuple #[tH PV,qY PE]):=by rw[HV.o,HE.o,hB,aV (λh=>by cases h.2.2),aV (λh=>by cases h),Hvz.o]
   have xM:=ag tN;clear heq hB tN HV HE Hvr Hvz Hpb HWb;go_wp2_with (first|(refine qZ rfl 66 #[] rfl cz (by simpa using Hbz.o) ?_)|(refine qL rfl 66 (.tmp 4) (.tmp 73) rfl w.heap.size 66 cz cz rfl rfl QX Hz.o 35 AP AP hoz ?_;have wI:=qO (c':=cz) QX;have BC:=K8.setRow (g:=w.heap.size) (.inr (aS _)) cz;refine qQ (λAV=>AV.heap[w.heap.size]? =some (.cells cz 66 (0,0))∧ak w AV) ⟨wI,BC⟩ ?_;clear wI BC;rintro AV ⟨wI,BC⟩));exact eF (v:= .tuple #[.agg cz,qY 15]) (tZ rfl _ AV w.heap.size 66 cz (0,0) _ (qY 15) rfl rfl wI dM rfl Hz.o) rfl ⟨xM.o,BC⟩
 ·have zC:=CJ heq;unfold zQ at zC;have hB:Ac key s=false:=by
   cases hp:Ac key s with
   | false=>rfl
   | true=>
    exfalso;have hm:uV key (tJ s)=true:=by rw[Ac,bI,bI]at hp;exact hp.1.1
    have hl:=Pj key _ (xB s) hm;rw[QF key s hm hs,aW]at hp;have Zr:(DZ (tJ s)).length=66:=by rw[EF,aN,mark,dJ,Ei]at hl;omega
    refine heq (xJ ?_);have h66:(bs s).take 66=DZ (tJ s):=by rw[hp,EF,bC,gZ Zr]
    rw[HG.o,rM (uN _ _),HM.o,rQ,bH,bH,dh,rQ,dF,h66,hp,EF,bC,jl Zr,gZ (by rw[mark,dJ,Ei];rfl)]
  have tN:Ending.returned (.tuple #[.agg cz,qY 15])= .returned (.tuple #[tH PV,qY PE]):=by rw[HPV.o,HPE.o,hB,aV (λh=>by cases h.2.2),aV (λh=>by cases h),Hcz.o];rfl
  have xM:=ag tN;have Qh:prog.built 66 []=some cz:=by rw[Hcz.o];exact Aj
  have hoz:cz.all (·.oneCell')=true:=by rw[Hcz.o];exact sU _
  have zfL:(prog.info? 66).map (·.size)=some cz.size:=by rw[AP];exact sK
  have Hbz:=ag Qh;have Hz5:=ag zfL;rw[zC,oL];clear hB tN heq zC Qh zfL;go_wp2_with (first|(refine qZ rfl 66 #[] rfl cz (by simpa using Hbz.o) ?_)|(refine qL rfl 66 (.tmp 4) (.tmp 36) rfl w.heap.size 66 cz cz rfl rfl YW Hz5.o 35 AP AP hoz ?_;have wI:=qO (c':=cz) YW;have BC:=LQ.setRow (g:=w.heap.size) (.inr (aS _)) cz;refine qQ (λAV=>AV.heap[w.heap.size]? =some (.cells cz 66 (0,0))∧ak w AV) ⟨wI,BC⟩ ?_;clear wI BC;rintro AV ⟨wI,BC⟩));exact eF (v:= .tuple #[.agg cz,qY 15]) (tZ rfl _ AV w.heap.size 66 cz (0,0) _ (qY 15) rfl rfl wI dM rfl Hz5.o) rfl ⟨xM.o,BC⟩
def zeT(key s:af)(JO:s.size<=1000)(w:ax)(V:rF w):
  ae 150 #[.string key,.string s] w λe w'=>e= .returned (.tuple #[tH (vJ key s),qY (xe key s)])∧ak w w':=by
 by_cases hk:key.size=32
 ·by_cases hs:s.size<82
  ·have h1:vJ key s=sZ:=by rw[vJ,aV (by omega)]
   have h2:xe key s=15:=by rw[xe,bu hk,bu hs]
   rw[h1,h2];exact zbD key s hk hs w
  by_cases hz:(bs s).drop 82=List.replicate (s.size-82) 0
  ·exact zct key s hk (by omega) JO hz w V
  have hB:Ac key s=false:=by rw[Ac,cO hz,Bool.and_false]
  have h1:vJ key s=sZ:=by rw[vJ,hB,aV (λh=>by cases h.2.2)]
  have h2:xe key s=15:=by rw[xe,bu hk,aV hs,hB,aV (λh=>by cases h)]
  rw[h1,h2];exact zcs key s hk (by omega) JO hz w
 ·have h1:vJ key s=sZ:=by rw[vJ,aV (by omega)]
  have h2:xe key s=1:=by rw[xe,aV hk]
  rw[h1,h2];exact zeS key s hk w
