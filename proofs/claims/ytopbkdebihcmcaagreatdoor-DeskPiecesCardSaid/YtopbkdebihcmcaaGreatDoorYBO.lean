import Derived.Test.YtopbkdebihcmcaaGreatDoorYAW
import Derived.Test.YtopbkdebihcmcaaGreatDoorYBH
set_option linter.unusedSimpArgs false
set_option linter.unusedVariables false
namespace Go.Proofs.YtopbkdebihcmcaaGreatDoor
open Go.RowKit
set_option maxRecDepth 100000
set_option maxHeartbeats 16000000
section
open Go.Lib
structure oZ where
 nS:Nat
 now:List (af×pR)
 wait:List (af×Option pR)
def o9(L:List (af×pR)):List pR:=L.map (·.2)
def oZ.next(b:oZ):List (af×pR):=qC b.now b.wait
structure Ed(b:oZ):Prop where
 rn:rX b.now
 rw:rX b.wait
 now:∀p∈b.now,p.1=p.2.1∧qM p.2 b.nS=true
 wait:∀p∈b.wait,∀x,p.2=some x->p.1=x.1∧qM x b.nS=true
 len:b.now.length<=60
 zaN:b.next.length<=60
 zero:b.nS=0->b.now= []∧b.wait= []
 eight:b.nS<=8
theorem Ed.Xf{b:oZ}(h:Ed b):∀p∈b.next,p.1=p.2.1∧qM p.2 b.nS=true:=
 NP (λ(k:af) (x:pR)=>k=x.1∧qM x b.nS=true) b.wait h.now (λp hp x hx=>h.wait p hp x hx)
theorem Ed.Js{b:oZ}(h:Ed b):rX b.next:=BL b.wait h.rn
theorem OJ:∀ {L:List (af×pR)},rX L->(∀p∈L,p.1=p.2.1)->uw (o9 L)=true
 | [],_,_=>rfl
 | [p],_,_=>rfl
 | p::q::L,h,hn=>by have h1:=bU.1 h;show(decide (p.2.1.data.toList<q.2.1.data.toList)&&uw (o9 (q::L)))=true;rw[aZ];refine⟨?_,OJ h1.2 λr hr=>hn r (aQ _ hr)⟩;have h2:=h1.1 q (aY ..);rw[hn p (aY ..),hn q (aQ _ (aY ..))]at h2;exact bJ (Dn _ _ h2)
theorem VE{L:List (af×pR)}{nS:Nat}(h1:1<=nS)(h8:nS<=8)(hr:rX L)(hl:L.length<=60)(hn:∀p∈L,p.1=p.2.1∧qM p.2 nS=true):qJ nS (o9 L)=true:=by simp only[qJ,aZ,aS];refine⟨⟨⟨⟨by omega,by omega⟩,by rw[o9,aI];exact hl⟩,?_⟩,OJ hr λp hp=>(hn p hp).1⟩;rw[gQ];intro x hx;obtain⟨p,hp,rfl⟩:=bf.1 hx;exact(hn p hp).2
theorem zcS:∀ns:List Int,(∀n∈ns,-10000<n∧n<10000)->((ns.map Lib.itoa).flatMap (λq=>(32:UInt8)::q)).length<=6*ns.length
 | [],_=>aF _
 | n::ns,h=>by rw[bF,df,ay,aK,aK];have h1:=xE n (h n aY);have h2:=zcS ns λm hm=>h m (aQ _ hm);omega
theorem CP{s:af}(h:nameB s=true):s.size<=10:=by simp only[nameB,aZ,aS]at h;exact h.1.1.2
theorem zek{x:pR}{nS:Int}(h:qM x nS=true):(Dc x).length<=70:=by
 simp only[qM,aZ,dP,aS,eY]at h;obtain⟨⟨⟨⟨⟨h1,h2⟩,h3⟩,h4⟩,h5⟩,h6⟩:=h;have hn:x.1.data.toList.length<=10:=CP h1;have ht:x.2.1.data.toList.length<=10:=by
  rcases h2 with h2|h2
  ·rw[h2];exact dL _
  ·exact CP h2
 have hs:=zcS x.2.2 (V6 h6);rw[Dc,bodyT,ay,ay,df,ay,aK];simp only[aK,bI];omega
theorem Tc:∀(l:List pR) (nS:Int),(∀x∈l,qM x nS=true)->(l.flatMap Dc).length<=70*l.length
 | [],_,_=>aF _
 | x::l,nS,h=>by rw[df,ay,aK];have h1:=zek (h x aY);have h2:=Tc l nS λy hy=>h y (aQ _ hy);omega
theorem SA{nS:Int}{l:List pR}(h:qJ nS l=true):(uT nS l).length<=6400:=by simp only[qJ,aZ,aS]at h;obtain⟨⟨⟨⟨h1,h2⟩,h3⟩,h4⟩,h5⟩:=h;have ha:=Tc l nS (gQ.1 h4);have hb:=xE nS (by omega);have hc:BF.length=4:=rfl;rw[uT,ay,ay,ay];simp only[aK,bI];omega
def Df(T:List af):List UInt8:=T.flatMap λt=>t.data.toList
def uz(s:af):List af:=(List.range 32).map (Ez s)
theorem zam{s:af}(h:s.size<=6400):Df (uz s)=s.data.toList:=U0 h
theorem zd3(nS:Int)(l:List pR):uT nS l≠ []:=by unfold uT BF;simp
def xY(b:oZ)(x:pR):Int×oZ:=
 if b.nS=0 then(6,b)
 else if qM x b.nS=false then(1,b)
 else if qQ b.next x.1=none∧b.next.length=60 then(12,b)
 else(0,{ b with wait:=xN b.wait x.1 (some x) })
def C9(b:oZ)(k:af):Int×oZ:=
 if qQ b.next k=none then(7,b)else(0,{ b with wait:=xN b.wait k none })
def Om(b:oZ):oZ:= { b with wait:= [] }
def Ot(b:oZ):oZ:= { b with now:=b.next,wait:= [] }
def vZ(b:oZ)(d:Int):Int×oZ:=
 if b.nS≠0 then(6,b)else if d<1∨8<d then(1,b)else(0,{ b with nS:=d.toNat })
theorem VM{b:oZ}(h:Ed b)(k:af)(o:Option pR):qC b.now (xN b.wait k o)=PU b.next (k,o):=zg4 h.rn h.rw k o
theorem UO{α:Type}{L:List (af×α)}(hr:rX L){k:af}{v u:α}(h:qQ L k=some u):(xN L k v).length=L.length:=by
 rw[xN,Zj];have hp:=hr.ne;clear hr
 induction L with
 | nil=>cases h
 | cons p L ih=>
  have hp1:=bU.1 hp;unfold Uu;rw[kJ];by_cases e:p.1=k
  ·have hno:L.filter (λp=> !decide (p.1=k))=L:=by
    rw[List.filter_eq_self];intro q hq;have:=hp1.1 q hq;simp only[eY,gJ];exact λx=>this (e.trans x.symm)
   rw[bJ e,hno];simp
  ·have h2:qQ L k=some u:=by
    unfold qQ at h⊢;rw[dD,bV e]at h;exact h
   have h3:=ih h2 hp1.2;unfold Uu at h3;rw[bV e];simp only[lS,if_true,aK];omega
theorem Ed.put{b:oZ}(h:Ed b)(x:pR):Ed (xY b x).2:=by
 unfold xY;split
 ·exact h
 split
 ·exact h
 split
 ·exact h
 ·rename_i h0 h1 h2;have h1:qM x b.nS=true:=by simpa using h1
  refine⟨h.rn,AX h.rw _ _,h.now,?_,h.len,?_,λe=>absurd e h0,h.eight⟩
  ·intro p hp y hy;rcases Gw hp with rfl|hp
   ·obtain rfl:x=y:=aH hy;exact⟨rfl,h1⟩
   ·exact h.wait p hp.1 y hy
  ·show(qC b.now (xN b.wait x.1 (some x))).length<=60;rw[VM h];show(xN b.next x.1 x).length<=60;have h60:=h.zaN;cases hg:qQ b.next x.1 with
   | none=>
    have h3:b.next.length≠60:=λe=>h2 ⟨hg,e⟩;have:=zgT b.next x.1 x;omega
   | some u=>
    rw[UO h.Js hg];exact h60
theorem Ed.del{b:oZ}(h:Ed b)(k:af):Ed (C9 b k).2:=by
 unfold C9;split
 ·exact h
 ·rename_i hne;refine⟨h.rn,AX h.rw _ _,h.now,?_,h.len,?_,λe=> ?_,h.eight⟩
  ·intro p hp y hy;rcases Gw hp with rfl|hp
   ·cases hy
   ·exact h.wait p hp.1 y hy
  ·show(qC b.now (xN b.wait k none)).length<=60;rw[VM h];exact bH (iq ..) h.zaN
  ·exfalso;have h0:=h.zero e;apply hne;unfold oZ.next;rw[h0.1,h0.2];rfl
theorem Ed.zow{b:oZ}(h:Ed b):Ed (Om b):=
 ⟨h.rn,List.Pairwise.nil,h.now,(λp hp=>by cases hp),h.len,h.len,λe=>⟨(h.zero e).1,rfl⟩,h.eight⟩
theorem Ed.done{b:oZ}(h:Ed b):Ed (Ot b):=
 ⟨h.Js,List.Pairwise.nil,h.Xf,(λp hp=>by cases hp),h.zaN,h.zaN,λe=>⟨by have h0:=h.zero e;show b.next= [];unfold oZ.next;rw[h0.1,h0.2];rfl,rfl⟩,h.eight⟩
theorem Ed.make{b:oZ}(h:Ed b)(d:Int):Ed (vZ b d).2:=by
 unfold vZ;split
 ·exact h
 split
 ·exact h
 ·rename_i h0 h1;have h0:b.nS=0:=by omega
  have hz:=h.zero h0;refine⟨h.rn,h.rw,λp hp=> ?_,λp hp=> ?_,h.len,h.zaN,λe=>hz,by show d.toNat<=8;omega⟩
  ·rw[show({ b with nS:=d.toNat } :oZ).now=b.now from rfl,hz.1]at hp;cases hp
  ·rw[show({ b with nS:=d.toNat } :oZ).wait=b.wait from rfl,hz.2]at hp;cases hp
def Bj(b:oZ):af:=⟨(uT b.nS (o9 b.next)).toArray⟩
theorem Ed.print{b:oZ}(h:Ed b)(h1:1<=b.nS):qJ b.nS (o9 b.next)=true:=VE h1 h.eight h.Js h.zaN h.Xf
def Said(T:List af)(b:oZ):Prop:=(Df T= []∧b.now= [])∨(1<=b.nS∧Df T=uT b.nS (o9 b.now))
def Az(b:oZ)(T:List af):oZ:=if Df T= []then⟨0,[],[]⟩else⟨b.nS,b.now,[]⟩
end
end Go.Proofs.YtopbkdebihcmcaaGreatDoor
