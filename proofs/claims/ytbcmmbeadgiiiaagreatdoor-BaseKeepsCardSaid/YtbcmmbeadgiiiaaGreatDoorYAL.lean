import Derived.Test.YtbcmmbeadgiiiaaGreatDoorYAI
import Derived.Test.YtbcmmbeadgiiiaaGreatDoorYAJ
import Derived.Deep.RegionHeld3
import Derived.WideMake
set_option linter.all false
namespace Go.Proofs.YtbcmmbeadgiiiaaGreatDoor
open Go.RowKit Tryz
set_option maxRecDepth 100000
set_option maxHeartbeats 16000000
variable{P:Program}
structure uX where
 count:Int
 qB:Int
 qx:List Bool
 root:af
def Bj{ops:Array Oper}{rest:List Oper}{o:Oper}{a:Act}{w:ax}{Q:Exit->Act->ax->Prop}(hw:Region.wanted o (yielded ops a.tmps)=true)(ty:aB)(x:Operand)(ho:o.op= .load ty x)
  (g:Nat) (hx:a.eval x= .pointer (some ⟨g,0,none⟩)) (t:aB) (cs:Array ay) (fr:Nat×Nat) (d:TypeDesc) (hg:w.heap[g]? =some (.cells cs t fr))
  (hu:P.underlying ty=some d) (hd:(match d with| .struct _| .array _ _=>true|_=>false)=true) (hi:(P.info? ty).map (·.size)=some cs.size)
  (h:wpList P ops Q rest (a.put o.dst (.agg cs)) w):wpList P ops Q (o::rest) a w:=by
 unfold wpList;rw[bu hw];exact .inl (wp_load_row ty x ho g hx t cs fr d hg hu hd hi h)
def qG(x:uX):List ay:= [Value.int .i64 x.count,Value.int .i64 x.qB]++x.qx.map Value.bool++ [Value.string x.root]
def tH(x:uX):ay:= .agg (qG x).toArray
def uk(x:uX)(h:x.qx.length=32):(qG x).length=35:=by simp[qG,h]
def OQ(x:uX):Bool:=decide (1<=x.count)&&decide (x.count<=1099511627776)&&decide (1<=x.qB)&&decide (x.qB<=1099511627776)&&decide (x.root.size=16)
def UH(x:uX)(hx:x.qx.length=32)(w:ax):ae 252 #[tH x] w (au (.bool (OQ x)) w):=by
 obtain⟨cs,zu⟩:=aj ((qG x).toArray);have h0:cs[0]? =some (.int .i64 x.count):=by rw[zu];rfl
 have h1:cs[1]? =some (.int .i64 x.qB):=by rw[zu];rfl
 have h34:cs[34]? =some (.string x.root):=by rw[zu,aF,qG,bT (by simp[hx])];simp[hx]
 have hv:tH x= .agg cs:=by rw[zu];rfl
 rw[hv];clear hv zu;go_enter func252,ntmps252;go_wp2_with fail
 all_goals go_ret
 all_goals refine⟨dB (λb=>Ending.returned (.bool b)) ?_,(ah _ _).alloc _⟩
 all_goals clear h0 h1 h34 hx
 all_goals rw[iQ]
 all_goals simp only[OQ,bI,aW,jZ,nT,false_iff]
 all_goals omega
def Og{T E:aB}{len:Nat}{d:TypeDesc}(hu:P.underlying T=some (.array len E))(hE:P.underlying E=some d)(hd:d= .bool)(hs:(P.info? E).map (·.size)=some 1)
  (l:List Bool) (i:Nat) (hl:l.length=len) (hi:i<len) (w:ax):(Instr.index T (.agg (l.map Value.bool).toArray) (.int .i64 i)).run P w= .ok (.bool (l.getD i false)) w:=by
 subst hd;cases hq:P.info? E with
 | none=>simp[hq]at hs
 | some inf=>
  have h1:inf.size=1:=by simpa [hq]using hs
  have hi':i<l.length:=by omega
  have hc:((l.map Value.bool).toArray)[i]? =some (.bool (l.getD i false)):=by simp[hi']
  have hii:(i:Int)<(len:Int):=by omega
  simp[Instr.index,asIntOf,fU hu,fU hE,sizeOf,typeInfo,hq,h1,part,isAgg,hc,hi,aK hi']
def Be(l:List Bool):List Nat:=l.map λb=>if b then 49 else 48
def JZ(x:uX):List Nat:= [99,102]++sS (vG x.count)++sS (vG x.qB)
def DZ(x:uX):List Nat:=JZ x++Be x.qx++bs x.root
def EF(key:af)(x:uX):List Nat:=DZ x++mark 122 [bs key,DZ x]
def uV(key:af)(x:uX):Bool:=decide (key.size=32)&&OQ x
def zeR(key:af)(x:uX)(hx:x.qx.length=32)(hk:key.size=32)(ho:OQ x=true)(w:ax)(V:rF w):
  ae 194 #[.string key,tH x] w (au (.tuple #[.string (uu (EF key x)),.nilIface]) w):=by
 have QV:=λw=>UH x hx w;rw[ho]at QV;obtain⟨cs,zu⟩:=aj ((qG x).toArray);have h0:cs[0]? =some (.int .i64 x.count):=by rw[zu];rfl
 have h1:cs[1]? =some (.int .i64 x.qB):=by rw[zu];rfl
 have h34:cs[34]? =some (.string x.root):=by rw[zu,aF,qG,bT (by simp[hx])];simp[hx]
 have uF:cs.size=35:=by rw[zu,bZ];exact uk x hx
 have IP:∀i,i<32->cs[2+i]? =some (.bool (x.qx.getD i false)):=by intro i hi;rw[zu,aF,qG,bC,bT (by simp),dL (by simp[hx,hi])];simp[hx,hi]
 have znj:(prog.info? 66).map (·.size)=some cs.size:=by rw[uF];kernel_rfl
 have hv:tH x= .agg cs:=by rw[zu];rfl
 rw[hv]at QV⊢;have j0:((key.size:Nat):Int)=32:=by omega
 have Hsd:=ag IP;clear IP;have Hri:=ag QV;clear hv zu QV;go_enter func194,ntmps194;go_wp2_with (first|(refine Bj (by rfl) 66 (.tmp 3) rfl w.heap.size rfl 66 cs (0,0) _ (aQ w _) dM rfl znj ?_)|(go_at_call 252;refine(Hri.o _).m ?_;rintro e w2 ⟨rfl,K2⟩));have hK2:ak w w2:=((ah qw w).alloc (.cells cs 66)).qo K2;have hX:w2.heap[w.heap.size]? =some (.cells cs 66 (0,0)):=K2.heap (aQ w _) id;have hXl:=lt_of_heap hX;obtain⟨X,JR⟩:=aj w.heap.size;rw[<-JR]at hX hXl⊢;obtain⟨⟨⟨⟨o1,o2⟩,o3⟩,o4⟩,o5⟩:(((1<=x.count∧x.count<=1099511627776)∧1<=x.qB)∧x.qB<=1099511627776)∧x.root.size=16:=by simpa [OQ]using ho
 obtain⟨nc,hnc⟩:∃n:Nat,x.count=n:=⟨x.count.toNat,by omega⟩
 obtain⟨ne,Bc⟩:∃n:Nat,x.qB=n:=⟨x.qB.toNat,by omega⟩
 have c0:w2.cell? ⟨X,0,none⟩=some (.int .i64 nc):=by rw[aO w2 X 0 cs _ (0,0) hX,h0,hnc]
 have c1:w2.cell? ⟨X,1,none⟩=some (.int .i64 ne):=by rw[aO w2 X 1 cs _ (0,0) hX,h1,Bc]
 have F8:∀(n:Nat),n<9223372036854775808->∀Y:Ext w2,ae 155 #[.int .i64 n] (w2.ext Y) λe w'=>e= .returned (.string (uu (sS n)))∧ak (w2.ext Y) w':=λn hn Y=>zkN n hn (w2.ext Y);have OC:=F8 nc (by omega);have Dw:=F8 ne (by omega);obtain⟨A,hA⟩:=aj (uu (sS nc));obtain⟨B,hB⟩:=aj (uu (sS ne));have hAs:A.size=8:=by rw[hA,rH,sS,tu]
 have hBs:B.size=8:=by rw[hB,rH,sS,tu]
 rw[<-hA]at OC;rw[<-hB]at Dw;have Zp:¬(9223372036854775807<(⟨#[99,102]⟩:af).size+A.size):=by show¬(9223372036854775807<2+A.size);omega
 have HA:=ag hA;have HB:=ag hB;clear F8 K2 JR h0 h1 hA hB;have HX:=ag hX;have Ho:=ag (And.intro hnc (And.intro Bc (And.intro o5 (And.intro (show nc<=1099511627776 by omega) (show ne<=1099511627776 by omega)))));clear hX o1 o2 o3 o4 ho;refine rX (by kernel_rfl) (by kernel_rfl) ?_
 quiet_step (fail)
 quiet_step (fail)
 quiet_step ((go_at_call 155;exact vw _ (OC _)))
 quiet_step (fail)
 obtain⟨C,hC⟩:∃C,C=(⟨#[99,102]⟩:af)++A:=⟨_,rfl⟩
 have hCs:C.size=10:=by rw[hC,dN,hAs];rfl
 rw[<-hC];have Oo:¬(9223372036854775807<C.size+B.size):=by omega
 have HC:=ag hC;clear hC Zp
 quiet_step (fail)
 quiet_step (fail)
 quiet_step ((go_at_call 155;exact vw _ (Dw _)))
 quiet_step (fail)
 obtain⟨S0,hS0⟩:=aj (C++B);have zns:bs S0=JZ x:=by rw[hS0,HC.o,tX,tX,HA.o,HB.o,rM (uj _),rM (uj _),JZ,Ho.o.1,Ho.o.2.1,J5 nc (by have:=Ho.o.2.2.2.1;omega),J5 ne (by have:=Ho.o.2.2.2.2;omega)];rfl
 rw[<-hS0];have HS0:=ag zns;clear hS0 zns Oo OC Dw hAs hBs hCs
 quiet_step (fail)
 refine dP ?_;intro Y;have hW:=hK2.qo (rZ w2 Y);have hXW:=(rZ w2 Y).heap HX.o id;obtain⟨W3,hW3⟩:=aj (w2.ext Y);rw[<-hW3]at hW hXW⊢;clear hW3 Y;have ET:W3.rangeAt X 2 (x.qx.map Value.bool):=by
  intro j v hj;have hjl:j<32:=by
   have:=(aT.1 hj).1
   rwa [aP,hx]at this
  rw[aO W3 X (2+j) cs _ (0,0) hXW,Hsd.o j hjl,<-hj,aX,aG,aK (by omega)];rfl
 have znk:(prog.info? 64).map (·.size)=some (x.qx.map Value.bool).length:=by rw[aP,hx];kernel_rfl
 have hib:(prog.info? 4).map (·.size)=some 1:=by kernel_rfl
 have OL:=λ(i:Nat) (hi:i<32) (w:ax)=>Og (P:=prog) oI kU rfl hib x.qx i hx hi w;have c34:W3.cell? ⟨X,34,none⟩=some (.string x.root):=by rw[aO W3 X 34 cs _ (0,0) hXW,h34]
 have RZ:=ag OL;clear OL HX znj uF h34 c0 c1 hXl hib;go_wp2_with (refine wpList_load_mid rfl 64 (.tmp 26) rfl X 2 rfl (x.qx.map Value.bool) _ ET oI rfl znk ?_);clear ET znk
 go_loopw [6,8,28] (λsv _ iv wr=>∃(k:Nat) (Sx:af),k<=32∧iv= .int .i64 k∧sv= .string Sx∧Hid (bs Sx=JZ x++Be (x.qx.take k))∧wr=W3) (λ_ _ iv _=>32-(intOf iv).toNat)
 case atStart=>exact⟨0,S0,by omega,rfl,rfl,ag (by rw[HS0.o];simp[Be]),rfl⟩
 case round=>
  obtain⟨k,Sx,hk1,rfl,rfl,hSx,rfl⟩:=hrel;have zAd:Sx.size<=100:=by have:=dB List.length hSx.o;rw[ry,aN,JZ,Be,aP,dJ,aN,aN,sS,tu,sS,tu]at this;simp at this;omega
  by_cases rE:k<32
  ·have j1:(k:Int)<32:=by omega
   have Qg:=RZ.o k rE;have yx:Be (x.qx.take (k+1))=Be (x.qx.take k)++ [if x.qx.getD k false then 49 else 48]:=by rw[aZ (by omega),Be,dK,aG,aK (by omega)];rfl
   have Jm:=ag yx;clear yx;cases hb:x.qx.getD k false with
   | true=>
    rw[hb]at Qg Jm;have G8:¬(9223372036854775807<Sx.size+(⟨#[49]⟩:af).size):=by show¬(9223372036854775807<Sx.size+1);omega
    clear hb;go_wp2_with fail;exact⟨⟨k+1,_,by omega,by go_num,rfl,ag (by rw[tX,hSx.o,Jm.o,bC];rfl),trivial⟩,by simp[intOf];omega⟩
   | false=>
    rw[hb]at Qg Jm;have G8:¬(9223372036854775807<Sx.size+(⟨#[48]⟩:af).size):=by show¬(9223372036854775807<Sx.size+1);omega
    clear hb;go_wp2_with fail;exact⟨⟨k+1,_,by omega,by go_num,rfl,ag (by rw[tX,hSx.o,Jm.o,bC];rfl),trivial⟩,by simp[intOf];omega⟩
  obtain rfl:k=32:=by omega
  have G8:¬(9223372036854775807<Sx.size+x.root.size):=by have:=Ho.o.2.2.1;omega
  go_wp2_with fail;obtain⟨Z,hZ⟩:=aj (Sx++x.root);have hZb:bs Z=DZ x:=by rw[hZ,tX,hSx.o,bg (by omega)];rfl
  have hZs:Z.size<=200:=by rw[hZ,dN];have:=Ho.o.2.2.1;omega
  rw[<-hZ];have hml:(rG 122 ([key,Z].map bs)).length<=100000:=by simp[rG,sS,tu,ry];omega
  clear hZ G8;refine(Ep 122 (by decide) _ [key,Z] _ (V.qm (hW.alloc _) id) (Strs.lit (w:=wr) [key,Z]) hml (by simp)).m ?_;rintro e w4 ⟨rfl,K4⟩;obtain⟨R,hR⟩:=aj (uu (mark 122 ([key,Z].map bs)));have hRs:R.size<=200:=by rw[hR,rH,mark,dJ,Ei];omega
  have tN:Z++R=uu (EF key x):=by
   apply xJ;have zC:Bytes (mark 122 [bs key,DZ x]):=uN _ _;have Vk:Bytes (DZ x):=by rw[<-hZb];exact yE Z
   rw[tX,hR,bH,bH,dh,hZb,rM zC,EF,rM (vg Vk zC)]
  rw[<-hR];have G8:¬(9223372036854775807<Z.size+R.size):=by omega
  have xM:=ag tN;have hKf:=(hW.alloc (.cells #[.string key,.string Z] 9)).qo K4;clear hR tN hml;go_wp2_with fail;rw[<-xM.o];exact eF (v:= .tuple #[.string (Z++R),.nilIface]) (by simp[results,results194,go_sem]) rfl ⟨rfl,hKf⟩
def zhs(key:af)(x:uX)(hx:x.qx.length=32)(h:uV key x=false)(w:ax):
  ae 194 #[.string key,tH x] w (au (.tuple #[.string ⟨#[]⟩,qY 1]) w):=by
 have QV:=λw=>UH x hx w;obtain⟨cs,zu⟩:=aj ((qG x).toArray);have uF:cs.size=35:=by rw[zu,bZ];exact uk x hx
 have znj:(prog.info? 66).map (·.size)=some cs.size:=by rw[uF];kernel_rfl
 have hv:tH x= .agg cs:=by rw[zu];rfl
 rw[hv]at QV⊢;have Hri:=ag QV;clear zu QV hv uF;by_cases hk:key.size=32
 ·have j0:((key.size:Nat):Int)=32:=by omega
  have ho:OQ x=false:=by rw[uV,bF hk,jG]at h;exact h
  have Hr2:Hid (∀w,ae 252 #[.agg cs] w (au (.bool false) w)):=by rw[<-ho];exact Hri
  clear h ho Hri hk;go_enter func194,ntmps194;go_wp2_with (first|(refine Bj (by rfl) 66 (.tmp 3) rfl w.heap.size rfl 66 cs (0,0) _ (aQ w _) dM rfl znj ?_)|(go_at_call 252;refine(Hr2.o _).m ?_;rintro e w2 ⟨rfl,K2⟩));exact eF (v:= .tuple #[.string ⟨#[]⟩,qY 1]) (by simp[results,results194,go_sem,qY]) rfl ⟨rfl,((ah qw w).alloc _).qo K2⟩
 ·have j0:¬((key.size:Nat):Int)=32:=by omega
  clear h hk znj Hri;go_enter func194,ntmps194;go_wp2_with fail;exact eF (v:= .tuple #[.string ⟨#[]⟩,qY 1]) (by simp[results,results194,go_sem,qY]) rfl ⟨rfl,(ah qw w).alloc _⟩
def Cf(key:af)(x:uX):af:=if uV key x then uu (EF key x)else⟨#[]⟩
def RF(key:af)(x:uX):Int:=if uV key x then 0 else 1
def UG(key:af)(x:uX)(hx:x.qx.length=32)(w:ax)(V:rF w):
  ae 194 #[.string key,tH x] w (au (.tuple #[.string (Cf key x),qY (RF key x)]) w):=by
 cases h:uV key x with
 | false=>
  rw[Cf,RF,h];exact zhs key x hx h w
 | true=>
  rw[Cf,RF,h];have h2:=h;simp only[uV,bI,aW]at h2;exact zeR key x hx h2.1 h2.2 w V
section
variable {P:Program}{w:ax}
def Jk(mty kt et:aB)(r clock:Nat)(b:Bool)(es:Array MapEntry)(val:ay)(hm:P.underlying mty=some (.map kt et))(hk:P.underlying kt=some .bool)(hb:w.heap[r]? =some (.map es clock))(hf:Instr.findNow .bool (.bool b) es.toList 0=some none):
  (Instr.mapUpdate mty (.map (some r)) (.bool b) val).run P w= .ok () { w with heap:=w.heap.setIfInBounds r (.map (es.push { key:= .bool b,val:=val,born:=clock }) (clock+1)) } :=by
 have hc:(Instr.checkKey false 10000 kt (.bool b)).run P w= .ok () w:=MapKept.run_checkKey (k:= .bool b) hk (by simp[MapKept.IsKey]) false 9999;simp[Instr.mapUpdate,fU hm,jo hb,hc,MapKept.run_findKey hk hf,jS _ hb,Result.andThen]
def Oe(mty kt et:aB)(r clock:Nat)(b:Bool)(es:Array MapEntry)(i:Nat)(v:ay)(hm:P.underlying mty=some (.map kt et))(hk:P.underlying kt=some .bool)(hb:w.heap[r]? =some (.map es clock))(hf:Instr.findNow .bool (.bool b) es.toList 0=some (some (i,v))):
  (Instr.lookup mty (.map (some r)) (.bool b) false).run P w= .ok v w:=by
 have hc:∀e,(Instr.checkKey e 10000 kt (.bool b)).run P w= .ok () w:=λe=>MapKept.run_checkKey (k:= .bool b) hk (by simp[MapKept.IsKey]) e 9999;simp[Instr.lookup,fU hm,jo hb,hc,MapKept.run_findKey hk hf,Result.andThen]
def zrL(mty kt et:aB)(hm:P.underlying mty=some (.map kt et))(hk:P.underlying kt=some .bool)(x y:ay)(w:ax):
  ∃M2 M3,(Instr.mapUpdate mty (.map (some w.heap.size)) (.bool true) x).run P (w.alloc (.map #[] 0))= .ok () M2∧(Instr.mapUpdate mty (.map (some w.heap.size)) (.bool false) y).run P M2= .ok () M3∧
   (Instr.lookup mty (.map (some w.heap.size)) (.bool true) false).run P M3= .ok x M3∧(Instr.lookup mty (.map (some w.heap.size)) (.bool false) false).run P M3= .ok y M3∧ak w M3:=by
 have h1:(w.alloc (.map #[] 0)).heap[w.heap.size]? =some (.map #[] 0):=aQ w _;have r1:=Jk (P:=P) mty kt et w.heap.size 0 true #[] x hm hk h1 rfl;have h2:=(nH (o':= .map (#[].push { key:= .bool true,val:=x,born:=0 }) (0+1)) h1).1;refine⟨_,_,r1,Jk (P:=P) mty kt et w.heap.size 1 false _ y hm hk h2 rfl,?_,?_,?_⟩
 ·exact Oe mty kt et w.heap.size 2 true _ 0 x hm hk (nH h2).1 rfl
 ·exact Oe mty kt et w.heap.size 2 false _ 1 y hm hk (nH h2).1 rfl
 ·refine⟨rfl,rfl,rfl,by simp,λk hk _=> ?_⟩;rw[(nH h2).2 k (by omega),(nH h1).2 k (by omega)];exact nJ w _ k hk
end
def JD(s:af)(w:ax):ae 81 #[.string s] w λe w'=>e= .returned (.bool (decide (s.size=16)))∧w'=w:=by go_enter func81,ntmps81;go_wp2;go_ret;refine⟨dB (λb=>Ending.returned (.bool b)) ?_,rfl⟩;rw[iQ];simp;omega
def YM(RB:Nat)(key:af)(x:uX)(hx:x.qx.length=32)(hk:key.size=32)(ho:OQ x=true)(w:ax)(RR:D7 w RB):
  ae 67 #[.pointer (some ⟨RB,0,none⟩),.string key,tH x] w (au (.tuple #[.string (uu (EF key x)),.int .i64 0]) w):=by
 obtain⟨⟨⟨⟨o1,o2⟩,o3⟩,o4⟩,o5⟩:(((1<=x.count∧x.count<=1099511627776)∧1<=x.qB)∧x.qB<=1099511627776)∧x.root.size=16:=by simpa [OQ]using ho
 have hi1:=λw=>MI x.count 1 1099511627776 o1 o2 w;have hi2:=λw=>MI x.qB 1 1099511627776 o3 o4 w;have hi3:=λw=>JD x.root w;rw[bF o5]at hi3;obtain⟨cs,zu⟩:=aj ((qG x).toArray);have h0:cs[0]? =some (.int .i64 x.count):=by rw[zu];rfl
 have h1:cs[1]? =some (.int .i64 x.qB):=by rw[zu];rfl
 have h34:cs[34]? =some (.string x.root):=by rw[zu,aF,qG,bT (by simp[hx])];simp[hx]
 have IP:∀i,i<32->cs[2+i]? =some (.bool (x.qx.getD i false)):=by intro i hi;rw[zu,aF,qG,bC,bT (by simp),dL (by simp[hx,hi])];simp[hx,hi]
 have hv:tH x= .agg cs:=by rw[zu];rfl
 rw[hv];have j0:((key.size:Nat):Int)=32:=by omega
 have Hsd:=ag IP;have Ho:=ag (And.intro o5 (And.intro o2 o4));have Hi1:=ag hi1;have Hi2:=ag hi2;have Hi3:=ag hi3;have On:=ag (And.intro o1 o3);clear hv zu IP hi1 hi2 hi3 o1 o2 o3 o4 o5 ho;go_enter func67,ntmps67;go_wp2_with fail;refine(Hi1.o _).m ?_;rintro e w2 ⟨rfl,Gp⟩;subst w2;go_wp2_with fail;refine(Hi2.o _).m ?_;rintro e w2 ⟨rfl,Gp⟩;subst w2;go_wp2_with fail;refine(Hi3.o _).m ?_;rintro e w2 ⟨rfl,Gp⟩;subst w2;have hK2:ak w (w.alloc (.cells cs 66)):=(ah qw w).alloc _;obtain⟨w2,ztt⟩:=aj (w.alloc (.cells cs 66));rw[<-ztt]at hK2⊢;have hX:w2.heap[w.heap.size]? =some (.cells cs 66 (0,0)):=by rw[ztt];exact aQ w _
 clear ztt;go_wp2_with fail;have hXl:=lt_of_heap hX;obtain⟨X,JR⟩:=aj w.heap.size;rw[<-JR]at hX hXl⊢;obtain⟨o5,o2,o4⟩:=Ho.o;obtain⟨o1,o3⟩:=On.o;clear Ho On Hi1 Hi2 Hi3;obtain⟨nc,hnc⟩:∃n:Nat,x.count=n:=⟨x.count.toNat,by omega⟩
 obtain⟨ne,Bc⟩:∃n:Nat,x.qB=n:=⟨x.qB.toNat,by omega⟩
 have c0:w2.cell? ⟨X,0,none⟩=some (.int .i64 nc):=by rw[aO w2 X 0 cs _ (0,0) hX,h0,hnc]
 have c1:w2.cell? ⟨X,1,none⟩=some (.int .i64 ne):=by rw[aO w2 X 1 cs _ (0,0) hX,h1,Bc]
 have F8:∀(n:Nat),n<9223372036854775808->∀Y:Ext w2,ae 118 #[.int .i64 n] (w2.ext Y) λe w'=>e= .returned (.string (uu (sS n)))∧ak (w2.ext Y) w':=λn hn Y=>by have:=Ai n (w2.ext Y);rwa [J5 n (by omega)]at this
 have OC:=F8 nc (by omega);have Dw:=F8 ne (by omega);obtain⟨A,hA⟩:=aj (uu (sS nc));obtain⟨B,hB⟩:=aj (uu (sS ne));have hAs:A.size=8:=by rw[hA,rH,sS,tu]
 have hBs:B.size=8:=by rw[hB,rH,sS,tu]
 rw[<-hA]at OC;rw[<-hB]at Dw;have Zp:¬(9223372036854775807<(⟨#[99,102]⟩:af).size+A.size):=by show¬(9223372036854775807<2+A.size);omega
 have HA:=ag hA;have HB:=ag hB;clear F8 JR h0 h1 hA hB;have HX:=ag hX;have Ho:=ag (And.intro hnc (And.intro Bc (And.intro o5 (And.intro (show nc<=1099511627776 by omega) (show ne<=1099511627776 by omega)))));clear hX o1 o2 o3 o4;refine rX (by kernel_rfl) (by kernel_rfl) ?_
 quiet_step (fail)
 quiet_step (fail)
 quiet_step ((go_at_call 118;exact vw _ (OC _)))
 quiet_step (fail)
 obtain⟨C,hC⟩:∃C,C=(⟨#[99,102]⟩:af)++A:=⟨_,rfl⟩
 have hCs:C.size=10:=by rw[hC,dN,hAs];rfl
 rw[<-hC];have Oo:¬(9223372036854775807<C.size+B.size):=by omega
 have HC:=ag hC;clear hC Zp
 quiet_step (fail)
 quiet_step (fail)
 quiet_step ((go_at_call 118;exact vw _ (Dw _)))
 quiet_step (fail)
 obtain⟨S0,hS0⟩:=aj (C++B);have zns:bs S0=JZ x:=by rw[hS0,HC.o,tX,tX,HA.o,HB.o,rM (uj _),rM (uj _),JZ,Ho.o.1,Ho.o.2.1,J5 nc (by have:=Ho.o.2.2.2.1;omega),J5 ne (by have:=Ho.o.2.2.2.2;omega)];rfl
 rw[<-hS0];have HS0:=ag zns;clear hS0 zns Oo OC Dw hAs hBs hCs
 quiet_step (fail)
 refine dP ?_;intro Y;have hW:=hK2.qo (rZ w2 Y);have hXW:=(rZ w2 Y).heap HX.o id;obtain⟨W3,hW3⟩:=aj (w2.ext Y);rw[<-hW3]at hW hXW⊢;clear hW3 Y;have ET:W3.rangeAt X 2 (x.qx.map Value.bool):=by
  intro j v hj;have hjl:j<32:=by
   have:=(aT.1 hj).1
   rwa [aP,hx]at this
  rw[aO W3 X (2+j) cs _ (0,0) hXW,Hsd.o j hjl,<-hj,aX,aG,aK (by omega)];rfl
 have znk:(prog.info? 64).map (·.size)=some (x.qx.map Value.bool).length:=by rw[aP,hx];kernel_rfl
 have hib:(prog.info? 4).map (·.size)=some 1:=by kernel_rfl
 have OL:=λ(i:Nat) (hi:i<32) (w:ax)=>Og (P:=prog) oI kU rfl hib x.qx i hx hi w;have c34:W3.cell? ⟨X,34,none⟩=some (.string x.root):=by rw[aO W3 X 34 cs _ (0,0) hXW,h34]
 have RZ:=ag OL;clear OL HX h34 c0 c1 hXl hib;go_wp2_with (refine wpList_load_mid rfl 64 (.tmp 40) rfl X 2 rfl (x.qx.map Value.bool) _ ET oI rfl znk ?_);clear ET znk;have c34x:=hW
 go_loopw [8,10,42] (λsv _ iv wr=>∃(k:Nat) (Sx:af),k<=32∧iv= .int .i64 k∧sv= .string Sx∧Hid (bs Sx=JZ x++Be (x.qx.take k))∧ak W3 wr) (λ_ _ iv _=>32-(intOf iv).toNat)
 case atStart=>exact⟨0,S0,by omega,rfl,rfl,ag (by rw[HS0.o];simp[Be]),ah _ _⟩
 case round=>
  obtain⟨k,Sx,hk1,rfl,rfl,hSx,KW⟩:=hrel;have zAd:Sx.size<=100:=by have:=dB List.length hSx.o;rw[ry,aN,JZ,Be,aP,dJ,aN,aN,sS,tu,sS,tu]at this;simp at this;omega
  by_cases rE:k<32
  ·have j1:(k:Int)<32:=by omega
   have Qg:=RZ.o k rE;have yx:Be (x.qx.take (k+1))=Be (x.qx.take k)++ [if x.qx.getD k false then 49 else 48]:=by rw[aZ (by omega),Be,dK,aG,aK (by omega)];rfl
   have Jm:=ag yx;clear yx;obtain⟨M2,M3,p1,p2,p3,p4,KM⟩:=zrL (P:=prog) 203 4 9 underlying203 kU (.string ⟨#[49]⟩) (.string ⟨#[48]⟩) wr;have hmm:(Instr.makeMap 203 none).run prog wr= .ok (.map (some wr.heap.size)) (wr.alloc (.map #[] 0)):=run_makeMap_plain wr _;cases hb:x.qx.getD k false with
   | true=>
    rw[hb]at Qg Jm;have G8:¬(9223372036854775807<Sx.size+(⟨#[49]⟩:af).size):=by show¬(9223372036854775807<Sx.size+1);omega
    clear hb;go_wp2_with fail;exact⟨⟨k+1,_,by omega,by go_num,rfl,ag (by rw[tX,hSx.o,Jm.o,bC];rfl),KW.qo KM⟩,by simp[intOf];omega⟩
   | false=>
    rw[hb]at Qg Jm;have G8:¬(9223372036854775807<Sx.size+(⟨#[48]⟩:af).size):=by show¬(9223372036854775807<Sx.size+1);omega
    clear hb;go_wp2_with fail;exact⟨⟨k+1,_,by omega,by go_num,rfl,ag (by rw[tX,hSx.o,Jm.o,bC];rfl),KW.qo KM⟩,by simp[intOf];omega⟩
  obtain rfl:k=32:=by omega
  have G8:¬(9223372036854775807<Sx.size+x.root.size):=by have:=Ho.o.2.2.1;omega
  have c34b:=(KW.cell (p:=⟨X,34,none⟩) (lt_of_heap hXW) id).t c34;go_wp2_with fail;obtain⟨Z,hZ⟩:=aj (Sx++x.root);have hZb:bs Z=DZ x:=by rw[hZ,tX,hSx.o,bg (by omega)];rfl
  have hZs:Z.size<=200:=by rw[hZ,dN];have:=Ho.o.2.2.1;omega
  rw[<-hZ];have hml:(rG 122 ([key,Z].map bs)).length<=100000:=by simp[rG,sS,tu,ry];omega
  have hWr:=hW.qo KW;clear hZ G8;refine(y9 RB 122 (by decide) _ [key,Z] _ (RR.qm (hWr.alloc _) id) (Strs.lit (w:=wr) [key,Z]) hml (by simp)).m ?_;rintro e w4 ⟨rfl,K4⟩;obtain⟨R,hR⟩:=aj (uu (mark 122 ([key,Z].map bs)));have hRs:R.size<=200:=by rw[hR,rH,mark,dJ,Ei];omega
  have tN:Z++R=uu (EF key x):=by
   apply xJ;have zC:Bytes (mark 122 [bs key,DZ x]):=uN _ _;have Vk:Bytes (DZ x):=by rw[<-hZb];exact yE Z
   rw[tX,hR,bH,bH,dh,hZb,rM zC,EF,rM (vg Vk zC)]
  rw[<-hR];have G8:¬(9223372036854775807<Z.size+R.size):=by omega
  have xM:=ag tN;have hKf:=(hWr.alloc (.cells #[.string key,.string Z] 9)).qo K4;clear hR tN hml;go_wp2_with fail;rw[<-xM.o];exact eF (v:= .tuple #[.string (Z++R),.int .i64 0]) (by simp[results,oJ,go_sem]) rfl ⟨rfl,hKf⟩
def zbJ(RB:Nat)(key:af)(x:uX)(hx:x.qx.length=32)(h:uV key x=false)(w:ax):
  ae 67 #[.pointer (some ⟨RB,0,none⟩),.string key,tH x] w (au (.tuple #[.string ⟨#[]⟩,.int .i64 1]) w):=by
 obtain⟨cs,zu⟩:=aj ((qG x).toArray);have h0:cs[0]? =some (.int .i64 x.count):=by rw[zu];rfl
 have h1:cs[1]? =some (.int .i64 x.qB):=by rw[zu];rfl
 have h34:cs[34]? =some (.string x.root):=by rw[zu,aF,qG,bT (by simp[hx])];simp[hx]
 have hv:tH x= .agg cs:=by rw[zu];rfl
 rw[hv];clear zu hv;by_cases hk:key.size=32
 ·have j0:((key.size:Nat):Int)=32:=by omega
  by_cases hc:1<=x.count∧x.count<=1099511627776
  ·have Hi1:=ag (λw=>MI x.count 1 1099511627776 hc.1 hc.2 w);by_cases he:1<=x.qB∧x.qB<=1099511627776
   ·have Hi2:=ag (λw=>MI x.qB 1 1099511627776 he.1 he.2 w);have hr:¬x.root.size=16:=by
     intro hr;rw[uV,OQ,bF hk,bF hc.1,bF hc.2,bF he.1,bF he.2,bF hr]at h;cases h
    have hi3:=λw=>JD x.root w;rw[cO hr]at hi3;have Hi3:=ag hi3;clear h hk hc he hr hi3;go_enter func67,ntmps67;go_wp2_with fail;refine(Hi1.o _).m ?_;rintro e w2 ⟨rfl,Gp⟩;subst w2;go_wp2_with fail;refine(Hi2.o _).m ?_;rintro e w2 ⟨rfl,Gp⟩;subst w2;go_wp2_with fail;refine(Hi3.o _).m ?_;rintro e w2 ⟨rfl,Gp⟩;subst w2;go_wp2_with fail;exact eF (v:= .tuple #[.string ⟨#[]⟩,.int .i64 1]) (by simp[results,oJ,go_sem]) rfl ⟨rfl,(ah qw w).alloc _⟩
   have Hi2:=ag (λw=>zsm x.qB 1 1099511627776 he w);clear h hk hc he;go_enter func67,ntmps67;go_wp2_with fail;refine(Hi1.o _).m ?_;rintro e w2 ⟨rfl,Gp⟩;subst w2;go_wp2_with fail;refine(Hi2.o _).m ?_;rintro e w2 ⟨rfl,Gp⟩;subst w2;go_wp2_with fail;exact eF (v:= .tuple #[.string ⟨#[]⟩,.int .i64 1]) (by simp[results,oJ,go_sem]) rfl ⟨rfl,(ah qw w).alloc _⟩
  have Hi1:=ag (λw=>zsm x.count 1 1099511627776 hc w);clear h hk hc;go_enter func67,ntmps67;go_wp2_with fail;refine(Hi1.o _).m ?_;rintro e w2 ⟨rfl,Gp⟩;subst w2;go_wp2_with fail;exact eF (v:= .tuple #[.string ⟨#[]⟩,.int .i64 1]) (by simp[results,oJ,go_sem]) rfl ⟨rfl,(ah qw w).alloc _⟩
 ·have j0:¬((key.size:Nat):Int)=32:=by omega
  clear h hk;go_enter func67,ntmps67;go_wp2_with fail;exact eF (v:= .tuple #[.string ⟨#[]⟩,.int .i64 1]) (by simp[results,oJ,go_sem]) rfl ⟨rfl,(ah qw w).alloc _⟩
def Oj(RB:Nat)(key:af)(x:uX)(hx:x.qx.length=32)(w:ax)(RR:D7 w RB):
  ae 67 #[.pointer (some ⟨RB,0,none⟩),.string key,tH x] w (au (.tuple #[.string (Cf key x),.int .i64 (RF key x)]) w):=by
 cases h:uV key x with
 | false=>
  rw[Cf,RF,h];exact zbJ RB key x hx h w
 | true=>
  rw[Cf,RF,h];have h2:=h;simp only[uV,bI,aW]at h2;exact YM RB key x hx h2.1 h2.2 w RR
