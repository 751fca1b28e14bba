import Derived.Test.YtopbkdebihcmcaaGreatDoorYAL
import Derived.Test.YtopbkdebihcmcaaGreatDoorYAM
import Derived.Deep.RegionHeld3
set_option linter.unusedSimpArgs false
set_option linter.unusedVariables false
namespace Go.Proofs.YtopbkdebihcmcaaGreatDoor
open Go.RowKit
set_option maxRecDepth 100000
set_option maxHeartbeats 16000000
structure rC where
 count:Int
 nP:Int
 sides:List Bool
 root:af
theorem xm{P:Program}{ops:Array Oper}{rest:List Oper}{o:Oper}{a:Act}{w:World}{Q:Exit->Act->World->Prop}(hw:Region.wanted o (yielded ops a.tmps)=true)(ty:TypeId)(x:Operand)(ho:o.op= .load ty x)
  (g:Nat) (hx:a.eval x= .pointer (some ⟨g,0,none⟩)) (t:TypeId) (cs:Array Value) (fr:Nat×Nat) (d:TypeDesc) (hg:w.heap[g]? =some (.cells cs t fr))
  (hu:P.underlying ty=some d) (hd:(match d with| .struct _| .array _ _=>true|_=>false)=true) (hi:(P.info? ty).map (·.size)=some cs.size)
  (h:wpList P ops Q rest (a.put o.dst (.agg cs)) w):wpList P ops Q (o::rest) a w:=by
 unfold wpList;rw[aP hw];exact .inl (wp_load_row ty x ho g hx t cs fr d hg hu hd hi h)
def oq(x:rC):List Value:= [Value.int .i64 x.count,Value.int .i64 x.nP]++x.sides.map Value.bool++ [Value.string x.root]
def ry(x:rC):Value:= .agg (oq x).toArray
theorem rG(x:rC)(h:x.sides.length=32):(oq x).length=35:=by simp[oq,h]
def JO(x:rC):Bool:=decide (1<=x.count)&&decide (x.count<=1099511627776)&&decide (1<=x.nP)&&decide (x.nP<=1099511627776)&&decide (x.root.size=16)
theorem Lp(x:rC)(hx:x.sides.length=32)(w:World):ae 218 #[ry x] w λe w'=>e= .returned (.bool (JO x))∧Keep nM w w':=by
 obtain⟨cs,hcs⟩:∃cs,cs=(oq x).toArray:=⟨_,rfl⟩
 have h0:cs[0]? =some (.int .i64 x.count):=by rw[hcs];rfl
 have h1:cs[1]? =some (.int .i64 x.nP):=by rw[hcs];rfl
 have h34:cs[34]? =some (.string x.root):=by rw[hcs,aj,oq,cu (by simp[hx])];simp[hx]
 have hv:ry x= .agg cs:=by rw[hcs];rfl
 rw[hv];clear hv hcs;go_enter Tryz.func218,Tryz.ntmps218;go_wp2_with fail
 all_goals go_ret
 all_goals refine⟨dK (λb=>Ending.returned (.bool b)) ?_,(ah _ _).alloc _⟩
 all_goals clear h0 h1 h34 hx
 all_goals rw[jE]
 all_goals simp only[JO,aZ,aS,jP,lD,false_iff]
 all_goals omega
theorem P9{P:Program}{T E:TypeId}{len:Nat}{d:TypeDesc}(hu:P.underlying T=some (.array len E))(hE:P.underlying E=some d)(hd:d= .bool)(hs:(P.info? E).map (·.size)=some 1)
  (l:List Bool) (i:Nat) (hl:l.length=len) (hi:i<len) (w:World):(Instr.index T (.agg (l.map Value.bool).toArray) (.int .i64 i)).run P w= .ok (.bool (l.getD i false)) w:=by
 subst hd;cases hq:P.info? E with
 | none=>simp[hq]at hs
 | some inf=>
  have h1:inf.size=1:=by simpa [hq]using hs
  have hi':i<l.length:=by omega
  have hc:((l.map Value.bool).toArray)[i]? =some (.bool (l.getD i false)):=by simp[hi']
  have hii:(i:Int)<(len:Int):=by omega
  simp[Instr.index,asIntOf,gK hu,gK hE,sizeOf,typeInfo,hq,h1,part,isAgg,hc,hi,aC hi']
def zG(l:List Bool):List Nat:=l.map λb=>if b then 49 else 48
def JR(x:rC):List Nat:= [99,102]++qB (uf x.count)++qB (uf x.nP)
def Aq(x:rC):List Nat:=JR x++zG x.sides++bs x.root
def Dt(key:af)(x:rC):List Nat:=Aq x++mark 122 [bs key,Aq x]
def qL(key:af)(x:rC):Bool:=decide (key.size=32)&&JO x
theorem Xx(key:af)(x:rC)(hx:x.sides.length=32)(hk:key.size=32)(ho:JO x=true)(w:World)(V:oG w):
  ae 177 #[.string key,ry x] w λe w'=>e= .returned (.tuple #[.string (txt (Dt key x)),.nilIface])∧Keep nM w w':=by
 have Ue:=λw=>Lp x hx w;rw[ho]at Ue;obtain⟨cs,hcs⟩:∃cs,cs=(oq x).toArray:=⟨_,rfl⟩
 have h0:cs[0]? =some (.int .i64 x.count):=by rw[hcs];rfl
 have h1:cs[1]? =some (.int .i64 x.nP):=by rw[hcs];rfl
 have h34:cs[34]? =some (.string x.root):=by rw[hcs,aj,oq,cu (by simp[hx])];simp[hx]
 have hsz:cs.size=35:=by rw[hcs,bT];exact rG x hx
 have hsd:∀i,i<32->cs[2+i]? =some (.bool (x.sides.getD i false)):=by intro i hi;rw[hcs,aj,oq,bu,cu (by simp),dE (by simp[hx,hi])];simp[hx,hi]
 have zfr:(Tryz.prog.info? 134).map (·.size)=some cs.size:=by rw[hsz];kernel_rfl
 have hv:ry x= .agg cs:=by rw[hcs];rfl
 rw[hv]at Ue⊢;have j0:((key.size:Nat):Int)=32:=by omega
 have Hsd:=ag hsd;clear hsd;have Hri:=ag Ue;clear hv hcs Ue;go_enter Tryz.func177,Tryz.ntmps177;go_wp2_with (first|(refine xm (by rfl) 134 (.tmp 3) rfl w.heap.size rfl 134 cs (0,0) _ (aG w _) Tryz.underlying134 rfl zfr ?_)|(go_at_call 218;refine(Hri.out _).mono ?_;rintro e w2 ⟨rfl,K2⟩));have hK2:Keep nM w w2:=((ah nM w).alloc (.cells cs 134)).nK K2;have hX:w2.heap[w.heap.size]? =some (.cells cs 134 (0,0)):=K2.heap (aG w _) (λx=>x);have hXl:=lt_of_heap hX;obtain⟨X,hXe⟩:∃X,X=w.heap.size:=⟨_,rfl⟩
 rw[<-hXe]at hX hXl⊢;obtain⟨⟨⟨⟨o1,o2⟩,o3⟩,o4⟩,o5⟩:(((1<=x.count∧x.count<=1099511627776)∧1<=x.nP)∧x.nP<=1099511627776)∧x.root.size=16:=by simpa [JO]using ho
 obtain⟨nc,hnc⟩:∃n:Nat,x.count=n:=⟨x.count.toNat,by omega⟩
 obtain⟨ne,hne⟩:∃n:Nat,x.nP=n:=⟨x.nP.toNat,by omega⟩
 have c0:w2.cell? ⟨X,0,none⟩=some (.int .i64 nc):=by rw[aO w2 X 0 cs _ (0,0) hX,h0,hnc]
 have c1:w2.cell? ⟨X,1,none⟩=some (.int .i64 ne):=by rw[aO w2 X 1 cs _ (0,0) hX,h1,hne]
 have hnm:∀(n:Nat),n<9223372036854775808->∀Y:Ext w2,ae 26 #[.int .i64 n] (w2.ext Y) λe w'=>e= .returned (.string (txt (qB n)))∧Keep nM (w2.ext Y) w':=λn hn Y=>zcQ n hn (w2.ext Y);have hn1:=hnm nc (by omega);have hn2:=hnm ne (by omega);obtain⟨A,hA⟩:∃A,A=txt (qB nc):=⟨_,rfl⟩
 obtain⟨B,hB⟩:∃B,B=txt (qB ne):=⟨_,rfl⟩
 have hAs:A.size=8:=by rw[hA,oU,qB,ql]
 have hBs:B.size=8:=by rw[hB,oU,qB,ql]
 rw[<-hA]at hn1;rw[<-hB]at hn2;have hc1:¬(9223372036854775807<(⟨#[99,102]⟩:af).size+A.size):=by show¬(9223372036854775807<2+A.size);omega
 have HA:=ag hA;have HB:=ag hB;clear hnm K2 hXe h0 h1 hA hB;have HX:=ag hX;have Ho:=ag (And.intro hnc (And.intro hne (And.intro o5 (And.intro (show nc<=1099511627776 by omega) (show ne<=1099511627776 by omega)))));clear hX o1 o2 o3 o4 ho;refine qP (by kernel_rfl) (by kernel_rfl) ?_
 quiet_step (fail)
 quiet_step (fail)
 quiet_step ((go_at_call 26;exact uJ _ (hn1 _)))
 quiet_step (fail)
 obtain⟨C,hC⟩:∃C,C=(⟨#[99,102]⟩:af)++A:=⟨_,rfl⟩
 have hCs:C.size=10:=by rw[hC,aX,hAs];rfl
 rw[<-hC];have hc2:¬(9223372036854775807<C.size+B.size):=by omega
 have HC:=ag hC;clear hC hc1
 quiet_step (fail)
 quiet_step (fail)
 quiet_step ((go_at_call 26;exact uJ _ (hn2 _)))
 quiet_step (fail)
 obtain⟨S0,hS0⟩:∃S,S=C++B:=⟨_,rfl⟩
 have zmR:bs S0=JR x:=by rw[hS0,HC.out,tN,tN,HA.out,HB.out,qw (sJ _),qw (sJ _),JR,Ho.out.1,Ho.out.2.1,YN nc (by have:=Ho.out.2.2.2.1;omega),YN ne (by have:=Ho.out.2.2.2.2;omega)];rfl
 rw[<-hS0];have HS0:=ag zmR;clear hS0 zmR hc2 hn1 hn2 hAs hBs hCs
 quiet_step (fail)
 refine dF ?_;intro Y;have hW:=hK2.nK (qA w2 Y);have hXW:=(qA w2 Y).heap HX.out (λx=>x);obtain⟨W3,hW3⟩:∃W,W=w2.ext Y:=⟨_,rfl⟩
 rw[<-hW3]at hW hXW⊢;clear hW3 Y;have hra:W3.rangeAt X 2 (x.sides.map Value.bool):=by
  intro j v hj;have hjl:j<32:=by
   have:=(aN.1 hj).1
   rwa [aI,hx]at this
  rw[aO W3 X (2+j) cs _ (0,0) hXW,Hsd.out j hjl,<-hj,bC,ax,aC (by omega)];rfl
 have hin2:(Tryz.prog.info? 132).map (·.size)=some (x.sides.map Value.bool).length:=by rw[aI,hx];kernel_rfl
 have hib:(Tryz.prog.info? 4).map (·.size)=some 1:=by kernel_rfl
 have hidx:=λ(i:Nat) (hi:i<32) (w:World)=>P9 (P:=Tryz.prog) Tryz.underlying132 Tryz.underlying4 rfl hib x.sides i hx hi w;have c34:W3.cell? ⟨X,34,none⟩=some (.string x.root):=by rw[aO W3 X 34 cs _ (0,0) hXW,h34]
 have MZ:=ag hidx;clear hidx HX zfr hsz h34 c0 c1 hXl hib;go_wp2_with (refine wpList_load_mid rfl 132 (.tmp 26) rfl X 2 rfl (x.sides.map Value.bool) _ hra Tryz.underlying132 rfl hin2 ?_);clear hra hin2
 go_loopw [6,8,28] (λsv _ iv wr=>∃(k:Nat) (Sx:af),k<=32∧iv= .int .i64 k∧sv= .string Sx∧Hid (bs Sx=JR x++zG (x.sides.take k))∧wr=W3) (λ_ _ iv _=>32-(intOf iv).toNat)
 case atStart=>exact⟨0,S0,by omega,rfl,rfl,ag (by rw[HS0.out];simp[zG]),rfl⟩
 case round=>
  obtain⟨k,Sx,hk1,rfl,rfl,hSx,rfl⟩:=hrel;have hSxl:Sx.size<=100:=by have:=dK List.length hSx.out;rw[bs_len,ay,JR,zG,aI,bG,ay,ay,qB,ql,qB,ql]at this;simp at this;omega
  by_cases hlt:k<32
  ·have j1:(k:Int)<32:=by omega
   have hix:=MZ.out k hlt;have hst:zG (x.sides.take (k+1))=zG (x.sides.take k)++ [if x.sides.getD k false then 49 else 48]:=by rw[aT (by omega),zG,di,ax,aC (by omega)];rfl
   have Hst:=ag hst;clear hst;cases hb:x.sides.getD k false with
   | true=>
    rw[hb]at hix Hst;have FM:¬(9223372036854775807<Sx.size+(⟨#[49]⟩:af).size):=by show¬(9223372036854775807<Sx.size+1);omega
    clear hb;go_wp2_with fail;exact⟨⟨k+1,_,by omega,by go_num,rfl,ag (by rw[tN,hSx.out,Hst.out,bu];rfl),trivial⟩,by simp[intOf];omega⟩
   | false=>
    rw[hb]at hix Hst;have FM:¬(9223372036854775807<Sx.size+(⟨#[48]⟩:af).size):=by show¬(9223372036854775807<Sx.size+1);omega
    clear hb;go_wp2_with fail;exact⟨⟨k+1,_,by omega,by go_num,rfl,ag (by rw[tN,hSx.out,Hst.out,bu];rfl),trivial⟩,by simp[intOf];omega⟩
  ·obtain rfl:k=32:=by omega
   have FM:¬(9223372036854775807<Sx.size+x.root.size):=by have:=Ho.out.2.2.1;omega
   go_wp2_with fail;obtain⟨Z,hZ⟩:∃Z,Z=Sx++x.root:=⟨_,rfl⟩
   have hZb:bs Z=Aq x:=by rw[hZ,tN,hSx.out,aV (by omega)];rfl
   have hZs:Z.size<=200:=by rw[hZ,aX];have:=Ho.out.2.2.1;omega
   rw[<-hZ];have hml:(pV 122 ([key,Z].map bs)).length<=100000:=by simp[pV,qB,ql,bs_len];omega
   clear hZ FM;refine(xC 122 (by decide) _ [key,Z] _ (V.keep (hW.alloc _) (λx=>x)) (Strs.lit (w:=wr) [key,Z]) hml (by simp)).mono ?_;rintro e w4 ⟨rfl,K4⟩;obtain⟨R,hR⟩:∃R,R=txt (mark 122 ([key,Z].map bs)):=⟨_,rfl⟩
   have hRs:R.size<=200:=by rw[hR,oU,mark,bG,yB];omega
   have hfin:Z++R=txt (Dt key x):=by
    apply xy;have hb2:Bytes (mark 122 [bs key,Aq x]):=uB _ _;have hb3:Bytes (Aq x):=by rw[<-hZb];exact zq Z
    rw[tN,hR,bF,bF,dB,hZb,qw hb2,Dt,qw (bytes_append hb3 hb2)]
   rw[<-hR];have FM:¬(9223372036854775807<Z.size+R.size):=by omega
   have yH:=ag hfin;have hKf:=(hW.alloc (.cells #[.string key,.string Z] 9)).nK K4;clear hR hfin hml;go_wp2_with fail;rw[<-yH.out];exact dW (v:= .tuple #[.string (Z++R),.nilIface]) (by simp[results,Tryz.results177,go_sem]) rfl ⟨rfl,hKf⟩
theorem ZM(key:af)(x:rC)(hx:x.sides.length=32)(h:qL key x=false)(w:World):
  ae 177 #[.string key,ry x] w λe w'=>e= .returned (.tuple #[.string ⟨#[]⟩,errVal 1])∧Keep nM w w':=by
 have Ue:=λw=>Lp x hx w;obtain⟨cs,hcs⟩:∃cs,cs=(oq x).toArray:=⟨_,rfl⟩
 have hsz:cs.size=35:=by rw[hcs,bT];exact rG x hx
 have zfr:(Tryz.prog.info? 134).map (·.size)=some cs.size:=by rw[hsz];kernel_rfl
 have hv:ry x= .agg cs:=by rw[hcs];rfl
 rw[hv]at Ue⊢;have Hri:=ag Ue;clear hcs Ue hv hsz;by_cases hk:key.size=32
 ·have j0:((key.size:Nat):Int)=32:=by omega
  have ho:JO x=false:=by rw[qL,bJ hk,iK]at h;exact h
  have Hr2:Hid (∀w,ae 218 #[.agg cs] w λe w'=>e= .returned (.bool false)∧Keep nM w w'):=by rw[<-ho];exact Hri
  clear h ho Hri hk;go_enter Tryz.func177,Tryz.ntmps177;go_wp2_with (first|(refine xm (by rfl) 134 (.tmp 3) rfl w.heap.size rfl 134 cs (0,0) _ (aG w _) Tryz.underlying134 rfl zfr ?_)|(go_at_call 218;refine(Hr2.out _).mono ?_;rintro e w2 ⟨rfl,K2⟩));exact dW (v:= .tuple #[.string ⟨#[]⟩,errVal 1]) (by simp[results,Tryz.results177,go_sem,errVal]) rfl ⟨rfl,((ah nM w).alloc _).nK K2⟩
 ·have j0:¬((key.size:Nat):Int)=32:=by omega
  clear h hk zfr Hri;go_enter Tryz.func177,Tryz.ntmps177;go_wp2_with fail;exact dW (v:= .tuple #[.string ⟨#[]⟩,errVal 1]) (by simp[results,Tryz.results177,go_sem,errVal]) rfl ⟨rfl,(ah nM w).alloc _⟩
def zC(key:af)(x:rC):af:=if qL key x then txt (Dt key x)else⟨#[]⟩
def Wv(key:af)(x:rC):Int:=if qL key x then 0 else 1
theorem Lm(key:af)(x:rC)(hx:x.sides.length=32)(w:World)(V:oG w):
  ae 177 #[.string key,ry x] w λe w'=>e= .returned (.tuple #[.string (zC key x),errVal (Wv key x)])∧Keep nM w w':=by
 cases h:qL key x with
 | false=>
  rw[zC,Wv,h];exact ZM key x hx h w
 | true=>
  rw[zC,Wv,h];have h2:=h;simp only[qL,aZ,aS]at h2;exact Xx key x hx h2.1 h2.2 w V
end Go.Proofs.YtopbkdebihcmcaaGreatDoor
