import Derived.Test.YtopbkdebihcmcaaGreatDoorYAJ
import Derived.Test.YtopbkdebihcmcaaGreatDoorYAZ
set_option linter.unusedSimpArgs false
set_option linter.unusedVariables false
namespace Go.Proofs.YtopbkdebihcmcaaGreatDoor
open Go.RowKit
set_option maxRecDepth 100000
set_option maxHeartbeats 16000000
def JI:af:=⟨#[10]⟩
def rF:List af->af
 | []=>⟨#[]⟩
 | [x]=>x
 | x::y::r=>x++JI++rF (y::r)
def EE(w:World)(b:Nat):Nat:=match w.cell? ⟨b,0,none⟩with
 | some (.string s)=>s.size
 | _=>0
theorem UL{L B2:Nat}(W:World)(v:Value)(h1:B2≠L)(h2:B2≠L+1):FZ L W (W.setCell ⟨B2,0,none⟩ v):=by
 have K:Keep (nY B2) W (W.setCell ⟨B2,0,none⟩ v):=(ah _ _).setCell (p:=⟨B2,0,none⟩) (.inl (show nY B2 B2 from rfl)) _;refine⟨K.size,?_,?_⟩
 ·by_cases h:L<W.heap.size
  ·exact K.block L h (λe=>h1 e.symm)
  ·have h3:(W.setCell ⟨B2,0,none⟩ v).heap.size=W.heap.size:=by simp
   rw[dU (by omega),dU (by omega)]
 ·by_cases h:L+1<W.heap.size
  ·exact K.block (L+1) h (λe=>h2 e.symm)
  ·have h3:(W.setCell ⟨B2,0,none⟩ v).heap.size=W.heap.size:=by simp
   rw[dU (by omega),dU (by omega)]
theorem Zm:∀(x r:List UInt8),(10:UInt8)∉x->Lib.index (x++10::r) [10]=x.length
 | [],r,_=>by simp[Lib.index]
 | b::x,r,h=>by
  have hb:¬(10:UInt8)=b:=λe=>h (by rw[e];exact aY);have ih:=Zm x r (λhx=>h (aQ _ hx));rw[dI,Lib.index,ih];have h1:List.isPrefixOf [(10:UInt8)] (b::(x++10::r))=false:=by simp[List.isPrefixOf,hb]
  rw[h1];have h2:((x.length:Int)== -1)=false:=by simp
  rw[h2];simp
theorem Zl:∀(x:List UInt8),(10:UInt8)∉x->Lib.index x [10]= -1
 | [],_=>by simp[Lib.index]
 | b::x,h=>by
  have hb:¬(10:UInt8)=b:=λe=>h (by rw[e];exact aY);have ih:=Zl x (λhx=>h (aQ _ hx));rw[Lib.index,ih];have h1:List.isPrefixOf [(10:UInt8)] (b::x)=false:=by simp[List.isPrefixOf,hb]
  rw[h1];simp
theorem zao(x y:af)(r:List af):(rF (x::y::r)).data.toList=x.data.toList++10::(rF (y::r)).data.toList:=by rw[rF];simp[dQ,JI]
theorem zhH(x t:af)(n:Nat)(h:n=x.size):(x++t).extract 0 n=x:=by subst h;apply iD;simp
theorem zhG(x t:af):(x++(JI++t)).extract (x.size+1) (x.size+1+t.size)=t:=by
 apply iD;have h1:(x.data.push 10).extract (x.size+1) (x.size+1+t.size)= #[]:=by apply Array.eq_empty_of_size_eq_zero;rw[Array.size_extract,dY];show min (x.size+1+t.size) (x.size+1)-(x.size+1)=0;omega
 have h2:t.data.extract 0 t.size=t.data:=mX;simp[JI,h1,h2]
theorem zan(ls:List af):∀k,(rF (ls.drop k)).size<=(rF ls).size:=by
 induction ls with
 | nil=>intro k;simp
 | cons x l ih=>
  intro k;cases k with
  | zero=>exact aF _
  | succ k=>
   refine bH (ih k) ?_;cases l with
   | nil=>exact dL _
   | cons y r=>rw[rF,aX];omega
section
open Go.Shelf
attribute [local go_sem] jF
theorem XC(s sep:af)(w:World):
  Calls Tryz.prog 6 #[.string s,.string sep] w λe w'=>e= .returned (.func (.func 29) #[] #[.pointer (some ⟨w.heap.size+1,0,none⟩),.pointer (some ⟨w.heap.size,0,none⟩),.pointer (some ⟨w.heap.size+2,0,none⟩)])∧w'=((w.alloc (.cells #[.string s] 9)).alloc (.cells #[.string sep] 9)).alloc (.cells #[.int .i64 0] 3):=by
 have hmf:∀(fn:Fn) (first cap:Array Value) (w:World),(Instr.makeFunc fn first cap).run Tryz.prog w= .ok (.func fn first cap) w:=λ_ _ _ _=>rfl;have hs:Calls Tryz.prog 15 #[.string s,.string sep,.int .i64 0] w λe w'=>e= .returned (.func (.func 29) #[] #[.pointer (some ⟨w.heap.size+1,0,none⟩),.pointer (some ⟨w.heap.size,0,none⟩),.pointer (some ⟨w.heap.size+2,0,none⟩)])∧w'=((w.alloc (.cells #[.string s] 9)).alloc (.cells #[.string sep] 9)).alloc (.cells #[.int .i64 0] 3):=by go_enter Tryz.func15,Tryz.ntmps15;go_wp2_with fail;go_ret;exact⟨rfl,rfl⟩
 have Hs:=Lib.hid hs;clear hs;go_enter Tryz.func6,Tryz.ntmps6;go_wp2_with fail;refine Hs.out.mono ?_;rintro e w' ⟨rfl,rfl⟩;go_wp2_with fail;go_ret;exact⟨rfl,rfl⟩
theorem zgD(n:Nat)(h1n:1<=n)(L B1 B2 B3:Nat)(ls:List af)(hne:ls≠ [])(hnl:∀x∈ls,(10:UInt8)∉x.data.toList)(hsz:(rF ls).size<=1000000)(hB:B1≠B2∧B3≠B2∧B2≠L∧B2≠L+1)
  (I J:Nat->World->Prop) (Kp:World->World->Prop)
  (hKp:∀A B,Kp A B->∀b,b=B1∨b=B2∨b=B3->B.heap[b]? =A.heap[b]?)
  (hJ:∀k W,J k W->I k W∧∀B,I k B->FZ L W B->J k B)
  (hIx:∀k W v,I k W->I k (W.setCell ⟨B2,0,none⟩ v))
  (hM:∀k W,I k W->∃m,W.cell? ⟨3,0,none⟩=some (.int .i64 m))
  (hY:∀k W,k<ls.length->J k W->YieldAt Fence.wide (n-1) Tryz.prog (L+1) #[.string (ls.getD k ⟨#[]⟩)] W λe W'=>e= .returned (.bool true)∧J (k+1) W'∧Kp W W')
  (W:World) (h0:J 0 W) (b1:Boxed W B1 9 (.string JI)) (b2:Boxed W B2 9 (.string (rF ls))) (b3:Boxed W B3 3 (.int .i64 0)):
  CallsIn Fence.wide n Tryz.prog 29 #[.func (.yield (L+1)) #[] #[],.pointer (some ⟨B1,0,none⟩),.pointer (some ⟨B2,0,none⟩),.pointer (some ⟨B3,0,none⟩)] W λe W'=>(∃v,e= .returned v)∧J ls.length W':=by
 have hro:(Fence.wide).round=none:=rfl;refine kY Tryz.func29 rfl trivial ?_ hro;simp only[Tryz.ntmps29,bT,aK,bI,Nat.reduceAdd,Nat.reduceSub,fP,fQ,ig,gm,fK,dI];have c1:=b1.cell;obtain⟨N,hN⟩:∃N,N=ls.length:=⟨_,rfl⟩
 have hN1:1<=N:=by rw[hN];exact kV.2 hne
 rw[<-hN]at hY⊢;have HN:=Lib.hid hN;have HKp:=Lib.hid hKp;have HJ:=Lib.hid hJ;have HIx:=Lib.hid hIx;have HM:=Lib.hid hM;have HY:=Lib.hid hY;have Hnl:=Lib.hid hnl;have Hsz:=Lib.hid hsz;clear hN hKp hJ hIx hM hY hnl hsz hne;gi_wp2
 gi_loopw [] (λwr=>∃k:Nat,k+1<=N∧J k wr∧Boxed wr B1 9 (.string JI)∧Boxed wr B2 9 (.string (rF (ls.drop k)))∧Boxed wr B3 3 (.int .i64 0)) (λwr=>EE wr B2)
 case atStart=>exact⟨0,hN1,h0,b1,by rw[cO];exact b2,b3⟩
 case round=>
  obtain⟨k,hk,hJk,d1,d2,d3⟩:=hrel;obtain⟨wo,rfl⟩:∃wo,wo=wr:=⟨_,rfl⟩
  obtain⟨hIk,hJB⟩:=HJ.out k wo hJk;obtain⟨mx,hmx⟩:=HM.out k wo hIk;have e1:=d1.cell;have e2:=d2.cell;have e3:=d3.cell;have hd:ls.drop k=ls.getD k ⟨#[]⟩::ls.drop (k+1):=by rw[ax,aC (by rw[<-HN.out];omega)];exact gY (by rw[<-HN.out];omega)
  obtain⟨x,hx⟩:∃x,x=ls.getD k ⟨#[]⟩:=⟨_,rfl⟩
  have hxn:(10:UInt8)∉x.data.toList:=by rw[hx,ax,aC (by rw[<-HN.out];omega)];exact Hnl.out _ (fD _)
  have hyk:=HY.out k wo (by omega) hJk;rw[<-hx]at hd hyk;have hjs:(rF (ls.drop k)).size<=1000000:=bH (zan ls k) Hsz.out;obtain⟨s,hs⟩:∃s,s=rF (ls.drop k):=⟨_,rfl⟩
  rw[<-hs]at e2 hjs;have hix:=Tryz.strings_Index s JI mx wo (by omega) hmx;have hlen0:EE wo B2=s.size:=by unfold EE;rw[e2]
  by_cases hlt:k+1<N
  ·obtain⟨y,r,hyr⟩:∃y r,ls.drop (k+1)=y::r:=by
    cases hq:ls.drop (k+1)with
    | nil=>have:=dK List.length hq;rw[gV,<-HN.out]at this;simp at this;omega
    | cons y r=>exact⟨y,r,rfl⟩
   have hsd:s.data.toList=x.data.toList++10::(rF (ls.drop (k+1))).data.toList:=by rw[hs,hd,hyr,zao]
   have hsb:s=x++(JI++rF (ls.drop (k+1))):=by rw[hs,hd,hyr,rF,jX]
   have hidx:Lib.index s.data.toList JI.data.toList=x.size:=by rw[hsd];exact Zm _ _ hxn
   rw[hidx]at hix;obtain⟨t,ht⟩:∃t,t=rF (ls.drop (k+1)):=⟨_,rfl⟩
   have hss:s.size=x.size+1+t.size:=by rw[hsb,ht,aX,aX,show JI.size=1 from rfl];omega
   have hcut:s.extract 0 x.size=x:=by rw[hsb];exact zhH _ _ _ rfl
   have znZ:s.extract (x.size+1) s.size=t:=by rw[hss,hsb,ht];exact zhG _ _
   obtain⟨q,hq⟩:∃q,q=x.size:=⟨_,rfl⟩
   rw[<-hq]at hix hcut znZ hss;have hqs1:q+1<=s.size:=by rw[hss];omega
   have Hix:=Lib.hid hix;have Hyk:=Lib.hid hyk;have Hss:=Lib.hid hss;have Hjs:=Lib.hid hjs;have Hs:=Lib.hid hs;have Ht:=Lib.hid ht;have Hyr:=Lib.hid hyr;have zoq:=Lib.hid hlen0;have HJB:=Lib.hid hJB;have HIk:=Lib.hid hIk;have HJk:=Lib.hid hJk;have Hd1:=Lib.hid d1;have Hd2:=Lib.hid d2;have Hd3:=Lib.hid d3;clear hix hyk hx hxn hd hsd hsb hidx hjs hs hq hmx ht hyr hlen0 hJB hIk hJk d1 d2 d3 b1 b2 b3 c1 h0;have hs6:s.size<=1000000:=Hjs.out;have hw0:Go.RowKit.wrap64 (q:Int)=q:=IntWalk.wrap64_in _ ⟨by omega,by omega⟩;have hw1:Go.RowKit.wrap64 ((q:Int)+1)=(q:Int)+1:=IntWalk.wrap64_in _ ⟨by omega,by omega⟩;have hnb:JI.size=1:=rfl;have hq0:¬(q:Int)<0:=by omega
   have hi1:(q:Int)<=(s.size:Int):=by omega
   have hi2:(q:Int)+1<=(s.size:Int):=by omega
   have hi3:(0:Int)<=(q:Int)+1:=by omega
   have hi4:(0:Int)<=(q:Int):=by omega
   have hqs:q<=s.size:=by omega
   clear hs6 hss;obtain⟨fn,tmps,assign,body,hy,hR⟩:=Hyk.out;have HR:=Lib.hid hR;clear hR Hyk
   gi_wp2_with (refine⟨trivial,?_⟩;gi_at_call 31;refine(fF.2 Hix.out).mono ?_;rintro e w' ⟨rfl,rfl⟩)
   refine HR.out.mono ?_;rintro e W3 ⟨rfl,hJ3,hkp⟩;have hsm:=HKp.out _ _ hkp;have f1:Boxed W3 B1 9 (.string JI):=(hsm B1 (.inl rfl)).trans Hd1.out;have f2:=(hsm B2 (.inr (.inl rfl))).trans Hd2.out;have f3:Boxed W3 B3 3 (.int .i64 0):=(hsm B3 (.inr (.inr rfl))).trans Hd3.out;rw[<-Hs.out]at f2;have f2:Boxed W3 B2 9 (.string s):=f2;have g1:=f1.cell;have g2:=f2.cell;have g3:=f3.cell;have z2:=f2.frozen;have HJ3:=Lib.hid hJ3;have Hf1:=Lib.hid f1;have Hf2:=Lib.hid f2;have Hf3:=Lib.hid f3;clear hJ3 hkp hsm f1 f2 f3 e1 e2 e3 HR hy;have hI3:=(HJ.out (k+1) W3 HJ3.out).1;have hJ4:J (k+1) (W3.setCell ⟨B2,0,none⟩ (.string t)):=(HJ.out (k+1) W3 HJ3.out).2 _ (HIx.out _ _ _ hI3) (UL W3 _ hB.2.2.1 hB.2.2.2);have q1:Boxed (W3.setCell ⟨B2,0,none⟩ (.string t)) B1 9 (.string JI):=Hf1.out.other hB.1 _;have q2:Boxed (W3.setCell ⟨B2,0,none⟩ (.string t)) B2 9 (.string t):=Hf2.out.set _;have q3:Boxed (W3.setCell ⟨B2,0,none⟩ (.string t)) B3 3 (.int .i64 0):=Hf3.out.other hB.2.1 _;have hlen1:EE (W3.setCell ⟨B2,0,none⟩ (.string t)) B2=t.size:=by unfold EE;rw[q2.cell]
   have zjM:EE (W3.setCell ⟨B2,0,none⟩ (.string t)) B2<EE w' B2:=by rw[hlen1,zoq.out,Hss.out];omega
   have q2:Boxed (W3.setCell ⟨B2,0,none⟩ (.string t)) B2 9 (.string (rF (ls.drop (k+1)))):=by rw[<-Ht.out];exact q2
   have HJ4:=Lib.hid hJ4;have Hq1:=Lib.hid q1;have Hq2:=Lib.hid q2;have Hq3:=Lib.hid q3;have zoo:=Lib.hid zjM;have hkN:k+1+1<=N:=by omega
   clear hI3 hJ4 q1 q2 q3 hlen1 zjM;gi_wp2;exact⟨⟨_,_,_,_,_,_,_,_,_,_,_,_,_,_,_,_,_,_,_,_,_,_,⟨k+1,hkN,HJ4.out,Hq1.out,Hq2.out,Hq3.out⟩,rfl⟩,zoo.out⟩
  ·have hkN:k+1=N:=by omega
   have hdn:ls.drop (k+1)= []:=List.drop_eq_nil_of_le (by rw[<-HN.out];omega);have hsx:s=x:=by rw[hs,hd,hdn,rF]
   have hidx:Lib.index s.data.toList JI.data.toList= -1:=by rw[hsx];exact Zl _ hxn
   rw[hidx]at hix;rw[hsx]at hix e2;have Hix:=Lib.hid hix;have HkN:=Lib.hid hkN;obtain⟨fn,tmps,assign,body,hy,hR⟩:=hyk;have HR:=Lib.hid hR;clear hix hR hx hxn hd hdn hidx hjs hmx hlen0 hJB hIk hJk d1 d2 d3 b1 b2 b3 c1 h0 hs hsx hkN
   gi_wp2_with (refine⟨trivial,?_⟩;gi_at_call 31;refine(fF.2 Hix.out).mono ?_;rintro e w' ⟨rfl,rfl⟩)
   refine HR.out.mono ?_;rintro e W3 ⟨rfl,hJ3,_⟩;rw[HkN.out]at hJ3;have HJ3:=Lib.hid hJ3;clear hJ3 HR hy;gi_wp2;go_end0;exact⟨⟨_,rfl⟩,HJ3.out⟩
end
end Go.Proofs.YtopbkdebihcmcaaGreatDoor
