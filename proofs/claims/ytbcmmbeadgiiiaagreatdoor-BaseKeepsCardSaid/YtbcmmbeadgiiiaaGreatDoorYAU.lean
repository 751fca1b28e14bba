import Derived.Test.YtbcmmbeadgiiiaaGreatDoorYAQ
import Derived.Test.YtbcmmbeadgiiiaaGreatDoorYAR
import Derived.Test.YtbcmmbeadgiiiaaGreatDoorYAS
import Derived.Shelf.Strings.SlTrimAscii
set_option linter.all false
namespace Go.Proofs.YtbcmmbeadgiiiaaGreatDoor
open Go.RowKit Tryz
set_option maxRecDepth 100000
set_option maxHeartbeats 16000000
variable{qE:Int}{ns:List Int}{xs:List ay}{l:List qP}{base g i j n:Nat}{S:Nat->Prop}{P:Program}{c:UInt8}{e:aB}{w w':ax}{v:ay}{a b:sJ}
section
open Go.Sort Go.Shelf
def zp1(x y:sJ)(w:ax):(Op.equalIn 10000 146 (.agg (xw x).toArray) (.agg (xw y).toArray)).run prog w= .ok (decide (x=y)) w:=by
 have u3:=fG;have u9:=bK;have a3:=isAgg3;have z3:=sizeOf3;have a9:=isAgg9;have z9:=sizeOf9;have hS:prog.underlying 146=some (.struct (prog.fieldsOf 146)):=by kernel_rfl
 have hp:prog.stoodInHeld 146=false:=by kernel_rfl
 obtain⟨a,b⟩:=x;obtain⟨c,d⟩:=y;simp only[xw];rw[show(10000:Nat)=9999+1 from rfl,run_equalIn_agg w 9999 146 _ _ hS hp];simp only[Program.fieldsOf,underlying146];have hs:(@BEq.beq (List UInt8) (@List.instBEq UInt8 instBEqOfDecidableEq) a.toList c.toList)=decide (a=c):=by
  by_cases h:a=c
  ·rw[bF h,h];exact fF _
  rw[cO h];exact eu.2 λe=>h (toList_inj e)
 go_simp;by_cases h1:a=c<;>by_cases h2:b=d<;>simp[h1,h2,hs]
def Ii:af:=⟨#[97,98,99,100,101,102,103,104,105,106,107,108,109,110,111,112,113,114,115,116,117,118,119,120,121,122]⟩
def Ib:af:=⟨#[97,98,99,100,101,102,103,104,105,106,107,108,109,110,111,112,113,114,115,116,117,118,119,120,121,122,48,49,50,51,52,53,54,55,56,57]⟩
def zF(s:af):Bool:=decide (s≠⟨#[]⟩)&&decide (s.size<=10)&&decide (0<=Lib.indexByte Ii.data.toList (s.data.toList.headD 0))&&decide (Lib.trimS s.data.toList Ib.data.toList= [])
def zgT(s:af)(w:ax):ae 100 #[.string s] w λe w'=>e= .returned (.bool (zF s))∧ak w w':=by
 by_cases h0:s=⟨#[]⟩
 ·subst h0;go_enter func100,ntmps100;go_wp2_with fail;go_ret;exact⟨rfl,ah _ _⟩
 have Vg:0<s.size:=by
  rcases lq s.size with h|h
  ·exact absurd (xJ (dV ((ry s).t h))) h0
  exact h
 have i1:(0:Int)<s.size:=by omega
 have h0':s.toList.isEmpty=false:=by
  cases h:s.toList with
  | nil=>exact absurd (toList_inj (by rw[h,dI])) h0
  | cons a l=>rfl
 have hn:zF s=(decide (s.size<=10)&&decide (0<=Lib.indexByte Ii.data.toList (s.data.toList.headD 0))&&decide (Lib.trimS s.data.toList Ib.data.toList= [])):=by rw[zF,bF h0,jG]
 rw[hn];clear hn;by_cases h1:s.size<=10
 ·rw[bF h1,jG];have d1:((s.size:Nat):Int)<=10:=by omega
  have Qg:=λw=>strings_IndexByte Ii (s[0].toNat:Int) w;have e0:((s[0].toNat:Nat):Int).toNat.toUInt8=s.data.toList.headD 0:=by
   rw[kJ]
   have:s.data.toList.headD 0=s[0]:=by
    have h:=Vg;obtain⟨⟨d⟩⟩:=s;cases d with
    | nil=>simp[ByteArray.size]at h
    | cons a l=>rfl
   rw[this];exact oN
  rw[e0]at Qg;have htr:=λw=>Any.strings_Trim_laid lays160 (by kernel_rfl) s Ib w (by omega) (by decide) (ascii_of_all (by decide))
  change∀w,ae 164 _ _ _ at htr
  obtain⟨I,hI⟩:=aj (Lib.indexByte Ii.data.toList (s.data.toList.headD 0));obtain⟨T,hT⟩:=aj (Lib.trimS s.data.toList Ib.data.toList);rw[<-hI]at Qg⊢;rw[<-hT]at htr⊢;simp only[Ii,Ib]at Qg htr;have Hix:=ag Qg;have Htr:=ag htr;clear h0 h1 e0 hI hT Qg htr;by_cases hI:0<=I
  ·rw[bF hI,jG];have OD:(⟨T.toArray⟩:af).toList.isEmpty=decide (T= []):=by
    rw[dI];cases T<;>simp
   go_enter func100,ntmps100;go_wp2_with fail;refine(Hix.o _).m ?_;rintro e w' ⟨rfl,hw⟩;subst w';go_wp2_with fail;refine(Htr.o _).m ?_;rintro e w' ⟨rfl,hB⟩;go_wp2_with fail;go_ret;exact⟨by simp[OD];cases T<;>rfl,Keep.Em hB⟩
  ·rw[cO hI,iH];go_enter func100,ntmps100;go_wp2_with fail;refine(Hix.o _).m ?_;rintro e w' ⟨rfl,hw⟩;subst w';go_wp2_with fail;go_ret;exact⟨rfl,ah _ _⟩
 rw[cO h1,iH,iH];have d1:¬((s.size:Nat):Int)<=10:=by omega
 clear h0 h1;go_enter func100,ntmps100;go_wp2_with fail;go_ret;exact⟨rfl,ah _ _⟩
def OV(x:qP)(qE:Int):Bool:=zF x.name&&(decide (x.tag=⟨#[]⟩)||zF x.tag)&&decide (1<=qE)&&decide (qE<=8)&&decide ((x.ns.length:Int)=qE)&& !x.ns.any CY
def zp0(n:Int)(w:ax):ae 99 #[.int .i64 n] w λe w'=>e= .returned (.bool (CY n))∧w'=w:=by
 by_cases h:n< -1000
 ·have hb:CY n=true:=by simp[CY,h]
  rw[hb];go_enter func99,ntmps99;go_wp2_with fail;go_ret;exact⟨rfl,rfl⟩
 have hb:CY n=decide (1000<n):=by simp[CY,h]
 rw[hb];have hd:decide (n< -1000)=false:=by simpa using h
 clear h hb;go_enter func99,ntmps99;go_wp2_with fail;go_ret;exact⟨rfl,rfl⟩
def Rk(x:qP)(qE:Int)(w:ax)(N:vM w x.av x.ns)(hl:x.ns.length<=1000000):
  ae 46 #[.agg (rC x).toArray,.int .i64 qE] w λe w'=>e= .returned (.bool (OV x qE))∧ak w w':=by
 obtain⟨nm,tg,av,ns⟩:=x;simp only at N hl;obtain⟨p,c,rfl⟩:=N.len;simp only[rC,OV];have OC:=λw=>zgT nm w;have Dw:=λw=>zgT tg w;have hc:=λ(W:ax) (K:ak w W)=>Ol 99 CY zp0 (enters_of func99 (by kernel_rfl) rfl) _ ns W (N.qm K (λ_ _ x=>x)) hl;obtain⟨B1,hB1⟩:=aj (zF nm);obtain⟨B2,hB2⟩:=aj (zF tg);obtain⟨B3,hB3⟩:=aj (ns.any CY);have ht:tg.toList.isEmpty=decide (tg=⟨#[]⟩):=by
  by_cases h:tg=⟨#[]⟩
  ·rw[bF h,h,dI];rfl
  rw[cO h];cases h2:tg.toList with
  | nil=>exact absurd (toList_inj (by rw[h2,dI])) h
  | cons a l=>rfl
 obtain⟨B4,hB4⟩:=aj (decide (tg=(⟨#[]⟩:af)));rw[<-hB1]at OC;rw[<-hB2]at Dw;rw[<-hB3]at hc;rw[<-hB4]at ht;rw[<-hB1,<-hB2,<-hB3,<-hB4];obtain⟨nl,CV⟩:=aj ns.length;rw[<-CV]at hc⊢;have H1:=ag OC;have H2:=ag Dw;have HC:=ag hc;have HT:=ag ht;clear OC Dw hc ht hB1 hB2 hB3 hB4 CV N;have hT:=HT.o;cases B1 with
 | false=>
  simp only[iH];clear hT;go_enter mr,lS;go_wp2_with fail;refine(H1.o _).m ?_;rintro e w1 ⟨rfl,K1⟩;go_wp2_with fail;go_ret;exact⟨rfl,((ah qw w).alloc _).qo K1⟩
 | true=>
  have h4:(1<=qE∧qE<=8∧(nl:Int)=qE)∨(¬1<=qE)∨(1<=qE∧¬qE<=8)∨(1<=qE∧qE<=8∧¬(nl:Int)=qE):=by omega
  rcases h4 with⟨d1,d2,d3⟩|d1|⟨d1,d2⟩|⟨d1,d2,d3⟩
  ·have er:(true&&(B4||B2)&&decide (1<=qE)&&decide (qE<=8)&&decide ((nl:Int)=qE)&& !B3)=((B4||B2)&& !B3):=by
    rw[bF d1,bF d2,bF d3];simp
   have e3:((nl:Int)==qE)=true:=by simpa using d3
   rw[er];clear er d3;cases B4 with
   | true=>
    go_enter mr,lS;go_wp2_with fail;refine(H1.o _).m ?_;rintro e w1 ⟨rfl,K1⟩;have Xl:=((ah qw w).alloc (.cells #[.string nm,.string tg,.slice p nl c] 45)).qo K1;have c1:w1.cell? ⟨w.heap.size,1,none⟩=some (.string tg):=(K1.cell (p:=⟨w.heap.size,1,none⟩) (by simp) id).t (by rw[aO _ _ _ _ 45 (0,0) (aQ w _)];rfl);have c2:w1.cell? ⟨w.heap.size,2,none⟩=some (.slice p nl c):=(K1.cell (p:=⟨w.heap.size,2,none⟩) (by simp) id).t (by rw[aO _ _ _ _ 45 (0,0) (aQ w _)];rfl);have Tz:w.heap.size<w1.heap.size:=by have:=K1.size;simp at this;omega
    go_wp2_with fail;refine(HC.o _ Xl).m ?_;rintro e w5 ⟨rfl,hw⟩;subst w5;go_wp2_with fail;go_ret;exact⟨rfl,Xl⟩
   | false=>
    go_enter mr,lS;go_wp2_with fail;refine(H1.o _).m ?_;rintro e w1 ⟨rfl,K1⟩;have Xl:=((ah qw w).alloc (.cells #[.string nm,.string tg,.slice p nl c] 45)).qo K1;have c1:w1.cell? ⟨w.heap.size,1,none⟩=some (.string tg):=(K1.cell (p:=⟨w.heap.size,1,none⟩) (by simp) id).t (by rw[aO _ _ _ _ 45 (0,0) (aQ w _)];rfl);have c2:w1.cell? ⟨w.heap.size,2,none⟩=some (.slice p nl c):=(K1.cell (p:=⟨w.heap.size,2,none⟩) (by simp) id).t (by rw[aO _ _ _ _ 45 (0,0) (aQ w _)];rfl);have Tz:w.heap.size<w1.heap.size:=by have:=K1.size;simp at this;omega
    go_wp2_with fail;refine(H2.o _).m ?_;rintro e w2 ⟨rfl,K2⟩;have LQ:=Xl.qo K2;have c3:w2.cell? ⟨w.heap.size,2,none⟩=some (.slice p nl c):=(K2.cell (p:=⟨w.heap.size,2,none⟩) Tz id).t c2;cases B2 with
    | false=>
     go_wp2_with fail;go_ret;exact⟨rfl,LQ⟩
    | true=>
     go_wp2_with fail;refine(HC.o _ LQ).m ?_;rintro e w5 ⟨rfl,hw⟩;subst w5;go_wp2_with fail;go_ret;exact⟨rfl,LQ⟩
  ·have er:(true&&(B4||B2)&&decide (1<=qE)&&decide (qE<=8)&&decide ((nl:Int)=qE)&& !B3)=false:=by
    rw[cO d1];simp
   rw[er];clear er;cases B4 with
   | true=>
    go_enter mr,lS;go_wp2_with fail;refine(H1.o _).m ?_;rintro e w1 ⟨rfl,K1⟩;have Xl:=((ah qw w).alloc (.cells #[.string nm,.string tg,.slice p nl c] 45)).qo K1;have c1:w1.cell? ⟨w.heap.size,1,none⟩=some (.string tg):=(K1.cell (p:=⟨w.heap.size,1,none⟩) (by simp) id).t (by rw[aO _ _ _ _ 45 (0,0) (aQ w _)];rfl);have c2:w1.cell? ⟨w.heap.size,2,none⟩=some (.slice p nl c):=(K1.cell (p:=⟨w.heap.size,2,none⟩) (by simp) id).t (by rw[aO _ _ _ _ 45 (0,0) (aQ w _)];rfl);have Tz:w.heap.size<w1.heap.size:=by have:=K1.size;simp at this;omega
    go_wp2_with fail;go_ret;exact⟨rfl,Xl⟩
   | false=>
    go_enter mr,lS;go_wp2_with fail;refine(H1.o _).m ?_;rintro e w1 ⟨rfl,K1⟩;have Xl:=((ah qw w).alloc (.cells #[.string nm,.string tg,.slice p nl c] 45)).qo K1;have c1:w1.cell? ⟨w.heap.size,1,none⟩=some (.string tg):=(K1.cell (p:=⟨w.heap.size,1,none⟩) (by simp) id).t (by rw[aO _ _ _ _ 45 (0,0) (aQ w _)];rfl);have c2:w1.cell? ⟨w.heap.size,2,none⟩=some (.slice p nl c):=(K1.cell (p:=⟨w.heap.size,2,none⟩) (by simp) id).t (by rw[aO _ _ _ _ 45 (0,0) (aQ w _)];rfl);have Tz:w.heap.size<w1.heap.size:=by have:=K1.size;simp at this;omega
    go_wp2_with fail;refine(H2.o _).m ?_;rintro e w2 ⟨rfl,K2⟩;have LQ:=Xl.qo K2;have c3:w2.cell? ⟨w.heap.size,2,none⟩=some (.slice p nl c):=(K2.cell (p:=⟨w.heap.size,2,none⟩) Tz id).t c2;cases B2 with
    | false=>
     go_wp2_with fail;go_ret;exact⟨rfl,LQ⟩
    | true=>
     go_wp2_with fail;go_ret;exact⟨rfl,LQ⟩
  ·have er:(true&&(B4||B2)&&decide (1<=qE)&&decide (qE<=8)&&decide ((nl:Int)=qE)&& !B3)=false:=by
    rw[cO d2];simp
   rw[er];clear er;cases B4 with
   | true=>
    go_enter mr,lS;go_wp2_with fail;refine(H1.o _).m ?_;rintro e w1 ⟨rfl,K1⟩;have Xl:=((ah qw w).alloc (.cells #[.string nm,.string tg,.slice p nl c] 45)).qo K1;have c1:w1.cell? ⟨w.heap.size,1,none⟩=some (.string tg):=(K1.cell (p:=⟨w.heap.size,1,none⟩) (by simp) id).t (by rw[aO _ _ _ _ 45 (0,0) (aQ w _)];rfl);have c2:w1.cell? ⟨w.heap.size,2,none⟩=some (.slice p nl c):=(K1.cell (p:=⟨w.heap.size,2,none⟩) (by simp) id).t (by rw[aO _ _ _ _ 45 (0,0) (aQ w _)];rfl);have Tz:w.heap.size<w1.heap.size:=by have:=K1.size;simp at this;omega
    go_wp2_with fail;go_ret;exact⟨rfl,Xl⟩
   | false=>
    go_enter mr,lS;go_wp2_with fail;refine(H1.o _).m ?_;rintro e w1 ⟨rfl,K1⟩;have Xl:=((ah qw w).alloc (.cells #[.string nm,.string tg,.slice p nl c] 45)).qo K1;have c1:w1.cell? ⟨w.heap.size,1,none⟩=some (.string tg):=(K1.cell (p:=⟨w.heap.size,1,none⟩) (by simp) id).t (by rw[aO _ _ _ _ 45 (0,0) (aQ w _)];rfl);have c2:w1.cell? ⟨w.heap.size,2,none⟩=some (.slice p nl c):=(K1.cell (p:=⟨w.heap.size,2,none⟩) (by simp) id).t (by rw[aO _ _ _ _ 45 (0,0) (aQ w _)];rfl);have Tz:w.heap.size<w1.heap.size:=by have:=K1.size;simp at this;omega
    go_wp2_with fail;refine(H2.o _).m ?_;rintro e w2 ⟨rfl,K2⟩;have LQ:=Xl.qo K2;have c3:w2.cell? ⟨w.heap.size,2,none⟩=some (.slice p nl c):=(K2.cell (p:=⟨w.heap.size,2,none⟩) Tz id).t c2;cases B2 with
    | false=>
     go_wp2_with fail;go_ret;exact⟨rfl,LQ⟩
    | true=>
     go_wp2_with fail;go_ret;exact⟨rfl,LQ⟩
  have er:(true&&(B4||B2)&&decide (1<=qE)&&decide (qE<=8)&&decide ((nl:Int)=qE)&& !B3)=false:=by
   rw[cO d3];simp
  have e3:((nl:Int)==qE)=false:=by simpa using d3
  rw[er];clear er d3;cases B4 with
  | true=>
   go_enter mr,lS;go_wp2_with fail;refine(H1.o _).m ?_;rintro e w1 ⟨rfl,K1⟩;have Xl:=((ah qw w).alloc (.cells #[.string nm,.string tg,.slice p nl c] 45)).qo K1;have c1:w1.cell? ⟨w.heap.size,1,none⟩=some (.string tg):=(K1.cell (p:=⟨w.heap.size,1,none⟩) (by simp) id).t (by rw[aO _ _ _ _ 45 (0,0) (aQ w _)];rfl);have c2:w1.cell? ⟨w.heap.size,2,none⟩=some (.slice p nl c):=(K1.cell (p:=⟨w.heap.size,2,none⟩) (by simp) id).t (by rw[aO _ _ _ _ 45 (0,0) (aQ w _)];rfl);have Tz:w.heap.size<w1.heap.size:=by have:=K1.size;simp at this;omega
   go_wp2_with fail;go_ret;exact⟨rfl,Xl⟩
  | false=>
   go_enter mr,lS;go_wp2_with fail;refine(H1.o _).m ?_;rintro e w1 ⟨rfl,K1⟩;have Xl:=((ah qw w).alloc (.cells #[.string nm,.string tg,.slice p nl c] 45)).qo K1;have c1:w1.cell? ⟨w.heap.size,1,none⟩=some (.string tg):=(K1.cell (p:=⟨w.heap.size,1,none⟩) (by simp) id).t (by rw[aO _ _ _ _ 45 (0,0) (aQ w _)];rfl);have c2:w1.cell? ⟨w.heap.size,2,none⟩=some (.slice p nl c):=(K1.cell (p:=⟨w.heap.size,2,none⟩) (by simp) id).t (by rw[aO _ _ _ _ 45 (0,0) (aQ w _)];rfl);have Tz:w.heap.size<w1.heap.size:=by have:=K1.size;simp at this;omega
   go_wp2_with fail;refine(H2.o _).m ?_;rintro e w2 ⟨rfl,K2⟩;have LQ:=Xl.qo K2;have c3:w2.cell? ⟨w.heap.size,2,none⟩=some (.slice p nl c):=(K2.cell (p:=⟨w.heap.size,2,none⟩) Tz id).t c2;cases B2 with
   | false=>
    go_wp2_with fail;go_ret;exact⟨rfl,LQ⟩
   | true=>
    go_wp2_with fail;go_ret;exact⟨rfl,LQ⟩
end
section
open Go.Lib
def pieces(c:UInt8):List UInt8->List (List UInt8)
 | []=> [[]]
 | b::l=>if b=c then []::pieces c l else match pieces c l with
  | []=> [[b]]
  | p::r=>(b::p)::r
def zdp(c:UInt8):∀l,pieces c l≠ []
 | []=>by simp[pieces]
 | b::l=>by
  rw[pieces];split
  ·simp
  split<;>simp
def Rf(c:UInt8):∀l:List UInt8,splitK [c] 0 (count l [c]) l=pieces c l
 | []=>by rw[count_one];rfl
 | b::l=>by
  have ih:=Rf c l;by_cases h:b=c
  ·subst h;have Qg:index (b::l) [b]=0:=by rw[index];simp[List.isPrefixOf]
   rw[count_cons_eq,oG,splitK,Qg,pieces,bu rfl]
   simpa using ih
  have hp:([c]:List UInt8).isPrefixOf (b::l)=false:=by simp[List.isPrefixOf,Ne.s h]
  have Qg:index (b::l) [c]=if index l [c]== -1 then-1 else index l [c]+1:=by rw[index,hp];simp
  rw[count_cons_ne b c l h,pieces,aV h];cases hk:count l [c]with
  | zero=>
   rw[hk,splitK]at ih;rw[splitK,<-ih]
  | succ k=>
   have hm:index l [c]≠-1:=λe=>by rw[count_miss e]at hk;cases hk
   have hge:=index_ge l [c];obtain⟨j,hj⟩:∃j:Nat,index l [c]=j:=⟨(index l [c]).toNat,by omega⟩
   have zzQ:index (b::l) [c]=((j+1:Nat):Int):=by rw[Qg,aV (λe=>hm (jZ.1 e)),hj];omega
   rw[hk,splitK,hj,aV (by simp)]at ih;rw[splitK,zzQ,aV (by simp;omega),<-ih];have e1:((j+1:Nat):Int).toNat+0=j+1:=by omega
   have e2:((j:Nat):Int).toNat+0=j:=by omega
   have e3:((j+1:Nat):Int).toNat+ [c].length=j+1+1:=rfl;have e4:((j:Nat):Int).toNat+ [c].length=j+1:=rfl;rw[e1,e2,e3,e4];rfl
def zcu(c:UInt8)(s:af):(splitB ⟨#[c]⟩ 0 (countB s ⟨#[c]⟩) s).map (·.data.toList)=pieces c s.data.toList:=by rw[splitB_data];exact Rf c s.data.toList
def SL(c:UInt8)(l:List UInt8):(pieces c l).length=l.count c+1:=by
 induction l with
 | nil=>rfl
 | cons b l ih=>
  rw[pieces];by_cases h:b=c
  ·rw[bu h,bf,ih,h,List.count_cons_self]
  rw[aV h,List.count_cons_of_ne (by simpa using h),<-ih];have:=zdp c l;split
  ·rename_i e;exact absurd e this
  rename_i e;rw[e];rfl
def XU(c:UInt8):∀l:List UInt8,c∉l->pieces c l= [l]
 | [],_=>rfl
 | b::l,h=>by rw[pieces,aV (λe=>h (by rw[e];exact bW)),XU c l (λe=>h (bD _ e))]
def SN(c:UInt8)(r:List UInt8):∀p:List UInt8,c∉p->pieces c (p++c::r)=p::pieces c r
 | [],_=>by rw[fZ,pieces,bu rfl]
 | b::p,h=>by rw[fV,pieces,aV (λe=>h (by rw[e];exact bW)),SN c r p (λe=>h (bD _ e))]
def XV(c:UInt8):∀(ls:List (List UInt8)) (r:List UInt8),(∀p∈ls,c∉p)->pieces c (ls.flatMap (λp=>p++ [c])++r)=ls++pieces c r
 | [],r,_=>rfl
 | p::ls,r,h=>by rw[dZ,bC,bC,List.singleton_append,SN c _ p (h p bW),XV c ls r (λq hq=>h q (bD _ hq))];rfl
def JF(c:UInt8):∀(ls:List (List UInt8)) (p:List UInt8),c∉p->(∀q∈ls,c∉q)->pieces c (p++ls.flatMap (λq=>c::q))=p::ls
 | [],p,hp,_=>by rw[ku,dS,XU c p hp]
 | q::ls,p,hp,h=>by rw[dZ,fV,SN c _ p hp,JF c ls q (h q bW) (λx hx=>h x (bD _ hx))]
def G6(s:List UInt8):Option Int:=match atoiAll s with
 | .ok v=>if itoa v=s then some v else none
 | _=>none
def Yl:∀(l r:List UInt8) (a:Nat),decFrom a (l++r)=(decFrom a l).bind λm=>decFrom m r
 | [],r,a=>rfl
 | b::l,r,a=>by
  rw[fV,decFrom,decFrom];cases digitVal b with
  | none=>rfl
  | some d=>exact Yl l r _
def Yh(d:Nat)(h:d<10):digitVal (UInt8.ofNat (48+d))=some d:=by
 have e:(UInt8.ofNat (48+d)).toNat=48+d:=by rw[UInt8.toNat_ofNat'];omega
 rw[digitVal,e,bu (by omega)]
 congr 1
 omega
def zbR:∀(u:Nat),decFrom 0 (decDigits u)=some u:=by
 intro u
 induction u using Nat.strongRecOn with
 | ind u ih=>
  rw[decDigits];split
  ·rename_i h;rw[decFrom,Yh u h];show some (0*10+u)=some u;rw[oz,eH]
  rename_i h;rw[Yl,ih (u/10) (by omega)];show decFrom (u/10) _=_;rw[decFrom,Yh (u % 10) (by omega)];show some (u/10*10+u % 10)=some u
  congr 1
  omega
def Tf:∀(u:Nat),∀c∈decDigits u,48<=c.toNat∧c.toNat<=57:=by
 intro u
 induction u using Nat.strongRecOn with
 | ind u ih=>
  intro c hc;have one:∀d,d<10->c=UInt8.ofNat (48+d)->48<=c.toNat∧c.toNat<=57:=by rintro d hd rfl;rw[UInt8.toNat_ofNat'];omega
  rw[decDigits]at hc;split at hc
  ·rename_i h;exact one u h (bJ.1 hc)
  rename_i h;rcases dX.1 hc with hc|hc
  ·exact ih (u/10) (by omega) c hc
  exact one _ (by omega) (bJ.1 hc)
def zdL(u:Nat):decDigits u≠ []:=by rw[decDigits];split<;>simp
def zbt(u:Nat)(h:u<10000):(decDigits u).length<=4:=by
 have h1:∀u,u<10->(decDigits u).length=1:=λu h=>by rw[decDigits,dif_pos h];rfl
 have h2:∀u,u<100->(decDigits u).length<=2:=λu h=>by
  by_cases h0:u<10
  ·have:=h1 u h0;omega
  rw[decDigits,dif_neg h0,aN,h1 _ (by omega)];simp
 have h3:∀u,u<1000->(decDigits u).length<=3:=λu h=>by
  by_cases h0:u<10
  ·have:=h1 u h0;omega
  have:=h2 (u/10) (by omega);rw[decDigits,dif_neg h0,aN];simp;omega
 by_cases h0:u<10
 ·have:=h1 u h0;omega
 have:=h3 (u/10) (by omega);rw[decDigits,dif_neg h0,aN];simp;omega
def zpO(n:Int):∀c∈itoa n,(48<=c.toNat∧c.toNat<=57)∨c.toNat=45:=by
 intro c hc;unfold itoa at hc;split at hc
 ·rcases dO.1 hc with rfl|hc
  ·exact .inr rfl
  exact .inl (Tf _ c hc)
 exact .inl (Tf _ c hc)
def Az(n:Int)(h: -10000<n∧n<10000):(itoa n).length<=5:=by
 unfold itoa;split
 ·have:=zbt n.natAbs (by omega);simp;omega
 have:=zbt n.toNat (by omega);omega
def WL(n:Int)(h: -10000<n∧n<10000):atoiAll (itoa n)= .ok n:=by
 have hl:=Az n h;have hd:∀u,decNat (decDigits u)=some u:=λu=>by
  have Bc:=zdL u;rw[decNat,zbR];cases hx:decDigits u with
  | nil=>exact absurd hx Bc
  | cons a l=>rfl
 have key:atoi (itoa n)=some n:=by
  unfold itoa;by_cases hn:n<0
  ·rw[bu hn,atoi,bu (by rfl),hd];show some (-(n.natAbs:Int))=some n
   congr 1
   omega
  rw[aV hn];have hm:=Tf n.toNat;have hdd:=hd n.toNat;cases hx:decDigits n.toNat with
  | nil=>exact absurd hx (zdL _)
  | cons a l=>
   rw[hx]at hm hdd;have ha:=hm a bW;rw[atoi,aV (by intro e;have:=jZ.1 e;subst this;exact absurd ha.1 (by decide)),aV (by intro e;have:=jZ.1 e;subst this;exact absurd ha.1 (by decide)),hdd];show some ((n.toNat:Nat):Int)=some n
   congr 1
   omega
 rw[atoiAll_short _ (by omega),key];rfl
def zkO(n:Int)(h: -10000<n∧n<10000):G6 (itoa n)=some n:=by rw[G6,WL n h];show(if itoa n=itoa n then some n else none)=some n;rw[bu rfl]
abbrev Ju(c:UInt8):Prop:=(97<=c.toNat∧c.toNat<=122)∨(48<=c.toNat∧c.toNat<=57)
def zqj(h:Ib.data.toList.contains c=true):Ju c:=by
 have key:∀i:Fin 256,Ib.data.toList.contains (UInt8.ofNat i.val)=true->Ju (UInt8.ofNat i.val):=by decide+kernel
 have:=key ⟨c.toNat,c.toNat_lt⟩;rw[oN]at this;exact this h
def drop_nil(p:UInt8->Bool):∀l:List UInt8,l.dropWhile p= []->∀c∈l,p c=true
 | [],_,c,hc=>by cases hc
 | b::l,h,c,hc=>by
  rw[pO]at h;split at h
  ·rename_i hb;rcases dO.1 hc with rfl|hc
   ·exact hb
   exact drop_nil p l h c hc
  cases h
def zdK(p:UInt8->Bool):∀l:List UInt8,l.dropWhile p= []∨∃b r,l.dropWhile p=b::r∧p b=false
 | []=> .inl rfl
 | b::l=>by
  rw[pO];split
  ·exact zdK p l
  rename_i hb;exact .inr ⟨b,l,rfl,by simpa using hb⟩
def zan{s:af}(h:zF s=true):∀c∈s.data.toList,Ju c:=by
 simp only[zF,bI,aW]at h;have ht:=h.2;unfold trimS trimLeftS trimRightS at ht;intro c hc;rcases zdK (Ib.data.toList.contains ·) s.data.toList.reverse with h2|⟨b,r,h2,hb⟩
 ·exact zqj (drop_nil _ _ h2 c (mg.2 hc))
 have h3:=drop_nil _ _ ht b (mg.2 (by rw[h2];exact bW));rw[hb]at h3;cases h3
abbrev sW:=af×af×List Int
def qA(x:qP):sW:=(x.name,x.tag,x.ns)
def uJ(x:sW)(qE:Int):Bool:=zF x.1&&(decide (x.2.1=⟨#[]⟩)||zF x.2.1)&&decide (1<=qE)&&decide (qE<=8)&&decide ((x.2.2.length:Int)=qE)&& !x.2.2.any CY
def DY(x:sW):List UInt8:=x.1.data.toList++(x.2.1.data.toList::x.2.2.map itoa).flatMap (λq=>32::q)
def Aq(x:sW):List UInt8:=DY x++ [10]
def Ec:List UInt8:= [100,105,109,32]
def xW(qE:Int)(l:List sW):List UInt8:=(Ec++itoa qE++ [10])++l.flatMap Aq
def yC:List sW->Bool
 | []=>true
 | x::r=>(match r with
  | []=>true
  | y::_=>decide (x.1.data.toList<y.1.data.toList))&&yC r
def uZ(qE:Int)(l:List sW):Bool:=decide (1<=qE)&&decide (qE<=8)&&decide (l.length<=60)&&l.all (uJ · qE)&&yC l
def wP:List (List UInt8)->Option (List Int)
 | []=>some []
 | t::r=>match G6 t with
  | none=>none
  | some n=>(wP r).map (n:: ·)
def JU(t:List UInt8):Option sW:=match pieces 32 t with
 | a::b::c::r=>(wP (c::r)).map λns=>(⟨a.toArray⟩,⟨b.toArray⟩,ns)
 | _=>none
def allOnes:List (List UInt8)->Option (List sW)
 | []=>some []
 | t::r=>match JU t with
  | none=>none
  | some x=>(allOnes r).map (x:: ·)
def MV(s:List UInt8):List (List UInt8):=(pieces 10 s).tail.dropLast
def VG(s:List UInt8):List UInt8:=(pieces 10 s).headD []
def DD(s:List UInt8):Option (Int×List sW):=
 if hasPrefix (VG s) Ec then
  match G6 (trimPrefix (VG s) Ec)with
  | none=>none
  | some qE=>match allOnes (MV s)with
   | none=>none
   | some l=>if uZ qE l=true∧xW qE l=s then some (qE,l)else none
 else none
def zhT{s:List UInt8}{l:List sW}(h:DD s=some (qE,l)):uZ qE l=true∧xW qE l=s:=by
 unfold DD at h;split at h
 ·split at h
  ·cases h
  split at h
  ·cases h
  split at h
  ·rename_i e;simp only[jD,jH]at h;rw[h.1,h.2]at e;exact e
  cases h
 cases h
def zbx:∀ns:List Int,(∀n∈ns,-10000<n∧n<10000)->wP (ns.map itoa)=some ns
 | [],_=>rfl
 | n::ns,h=>by rw[bH,wP,zkO n (h n bW),zbx ns (λm hm=>h m (bD _ hm))];rfl
def zdH(h:ns.any CY=false):∀n∈ns,-10000<n∧n<10000:=by intro n hn;rw[jT]at h;have:=h n hn;simp only[CY,fA,aW,not_or]at this;omega
structure MO(x:sW):Prop where
 name:∀c∈x.1.data.toList,Ju c
 tag:∀c∈x.2.1.data.toList,Ju c
 ns:∀n∈x.2.2,-10000<n∧n<10000
 some:x.2.2≠ []
def KU{x:sW}(h:uJ x qE=true):MO x:=by
 simp only[uJ,bI,fA,aW,eU]at h;obtain⟨⟨⟨⟨⟨h1,h2⟩,h3⟩,h4⟩,h5⟩,h6⟩:=h;refine⟨zan h1,?_,zdH h6,λe=>by rw[e]at h5;simp at h5;omega⟩;rcases h2 with h2|h2
 ·rw[h2];intro c hc;cases hc
 exact zan h2
def Y9(n:Int)(hc:c.toNat=10∨c.toNat=32):c∉itoa n:=by intro h;have:=zpO n c h;omega
def Ku{l:List UInt8}(h:∀c∈l,Ju c)(hc:c.toNat=10∨c.toNat=32):c∉l:=by intro hm;have:=h c hm;unfold Ju at this;omega
def zis{x:sW}(h:MO x):pieces 32 (DY x)=x.1.data.toList::x.2.1.data.toList::x.2.2.map itoa:=by
 rw[DY,JF 32 _ _ (Ku h.name (.inr rfl))];intro q hq;rcases dO.1 hq with rfl|hq
 ·exact Ku h.tag (.inr rfl)
 obtain⟨n,_,rfl⟩:=bY.1 hq;exact Y9 n (.inr rfl)
def zr2{x:sW}(h:MO x):(10:UInt8)∉DY x:=by
 rw[DY,dX,not_or];refine⟨Ku h.name (.inl rfl),λhm=> ?_⟩;obtain⟨q,hq,hm⟩:=mf.1 hm;rcases dO.1 hm with e|hm
 ·exact absurd e (by decide)
 rcases dO.1 hq with rfl|hq
 ·exact Ku h.tag (.inl rfl) hm
 obtain⟨n,_,rfl⟩:=bY.1 hq;exact Y9 n (.inl rfl) hm
def zpE{x:sW}(h:MO x):JU (DY x)=some x:=by
 rw[JU,zis h];cases zY:x.2.2 with
 | nil=>exact absurd zY h.some
 | cons n ns=>
  rw[bH];show Option.map _ (wP ((n::ns).map itoa))=_;rw[<-zY,zbx x.2.2 h.ns];rfl
def X3:∀l:List sW,(∀x∈l,MO x)->allOnes (l.map DY)=some l
 | [],_=>rfl
 | x::l,h=>by rw[bH,allOnes,zpE (h x bW),X3 l (λy hy=>h y (bD _ hy))];rfl
def zvk(qE:Int):(10:UInt8)∉Ec++itoa qE:=by rw[dX,not_or];exact⟨by decide,Y9 qE (.inl rfl)⟩
def NK{l:List sW}(h:∀x∈l,MO x):pieces 10 (xW qE l)=(Ec++itoa qE)::(l.map DY++ [[]]):=by
 have e:xW qE l=(((Ec++itoa qE)::l.map DY).flatMap λp=>p++ [10])++ []:=by rw[dS,dZ,List.flatMap_map];rfl
 rw[e,XV 10 _ _ ?_]
 ·rfl
 intro p hp;rcases dO.1 hp with rfl|hp
 ·exact zvk qE
 obtain⟨x,hx,rfl⟩:=bY.1 hp;exact zr2 (h x hx)
def zhS{l:List sW}(h:uZ qE l=true):DD (xW qE l)=some (qE,l):=by
 have h0:=h;simp only[uZ,bI,aW]at h;obtain⟨⟨⟨⟨h1,h2⟩,h3⟩,h4⟩,h5⟩:=h;have zN:∀x∈l,MO x:=λx hx=>KU (gV.1 h4 x hx);have hh:VG (xW qE l)=Ec++itoa qE:=by rw[VG,NK zN];rfl
 have hl:MV (xW qE l)=l.map DY:=by rw[MV,NK zN,List.tail_cons,List.dropLast_append_of_ne_nil (by simp)];simp
 have hp:hasPrefix (Ec++itoa qE) Ec=true:=by simp[hasPrefix,Ec]
 have ht:trimPrefix (Ec++itoa qE) Ec=itoa qE:=by unfold trimPrefix;rw[hp];simp[Ec]
 rw[DD,hh,hp,bu rfl,ht,zkO qE (by omega)];simp only[hl,X3 l zN];exact bu ⟨h0,trivial⟩
def XM:∀(l:List sW) (k:Nat),yC l=true->yC (l.take k)=true
 | [],k,_=>by rw[List.take_nil];rfl
 | x::r,0,_=>rfl
 | [x],k+1,h=>by rw[dE,List.take_nil];rfl
 | x::y::r,k+1,h=>by
  rw[yC,bI]at h;have ih:=XM (y::r) k h.2;cases k with
  | zero=>rfl
  | succ k=>
   rw[dE]at ih;rw[dE,dE,yC,bI];exact⟨h.1,ih⟩
end
section
open Go.Sort Go.Shelf
open Go.Proofs (ltOf)
def DW(l:List Int):Prop:=∀n∈l,-1000<=n∧n<=1000
def BN{l:List Int}(h:DW l)(k:Nat): -1000<=l.getD k 0∧l.getD k 0<=1000:=by
 rw[aG];cases e:l[k]? with
 | none=>simp
 | some n=>exact h n (bG e)
def sqd(x y:Int):Int:=(x-y)*(x-y)
def zad{d:Int}{B:Nat}(h1: -(B:Int)<=d)(h2:d<=B):0<=d*d∧d*d<=(B:Int)*B:=by
 constructor
 ·rcases Int.le_total 0 d with h|h
  ·exact Int.mul_nonneg h h
  have:=Int.mul_nonneg (show 0≤-d by omega) (show 0≤-d by omega)
  rwa [Int.neg_mul_neg]at this
 rcases Int.le_total 0 d with h|h
 ·exact qc h2 h2 h (by omega)
 have:=qc (show-d<=B by omega) (show-d<=B by omega) (show 0≤-d by omega) (by omega)
 rwa [Int.neg_mul_neg]at this
def zbp(n x y:Int)(hn:0<=n)(Dw:n<=1000000000000)(hx: -1000<=x∧x<=1000)(hy: -1000<=y∧y<=1000):I8 n x y=n+sqd x y∧0<=sqd x y∧sqd x y<=4000000:=by
 have hd:wrap64 (x-y)=x-y:=by unfold wrap64;omega
 have hb:=zad (d:=x-y) (B:=2000) (by omega) (by omega);refine⟨?_,hb⟩;unfold I8;rw[hd];have hs:wrap64 ((x-y)*(x-y))=(x-y)*(x-y):=by obtain⟨q,hq⟩:=aj ((x-y)*(x-y));rw[<-hq]at hb⊢;unfold wrap64;omega
 rw[hs];show wrap64 (n+sqd x y)=_;obtain⟨q,hq⟩:=aj (sqd x y);have NR:q=(x-y)*(x-y):=hq;rw[<-NR]at hb;rw[<-hq];unfold wrap64;omega
def zkZ(a b:List Int)(ha:DW a)(hb:DW b):∀k,k<=a.length->k<=b.length->k<=100->0<=Jp a b k∧Jp a b k<=4000000*k
 | 0,_,_,_=>by rw[WC];omega
 | k+1,h1,h2,h3=>by have ih:=zkZ a b ha hb k (by omega) (by omega) (by omega);rw[La a b k (by omega) (by omega)];have:=zbp (Jp a b k) (a.getD k 0) (b.getD k 0) ih.1 (by omega) (BN ha k) (BN hb k);rw[this.1];omega
def zmN(a b:List Int)(ha:DW a)(hb:DW b)(k:Nat)(h1:k<a.length)(h2:k<b.length)(h3:k<100):Jp a b (k+1)=Jp a b k+sqd (a.getD k 0) (b.getD k 0):=by have ih:=zkZ a b ha hb k (by omega) (by omega) (by omega);rw[La a b k (by omega) (by omega)];exact(zbp (Jp a b k) (a.getD k 0) (b.getD k 0) ih.1 (by omega) (BN ha k) (BN hb k)).1
def ER(n:Int):Int:=(n+1000)/250-4
def zmP(n:Int)(h: -1000<=n):ER n*250<=n∧n<=ER n*250+249:=by unfold ER;omega
def zp6(n:Int)(h: -1000<=n∧n<=1000): -4<=ER n∧ER n<=4:=by unfold ER;omega
def atK(ns:List Int)(k:Nat):List Int:=(ns.take k).map ER++List.replicate (8-k) 0
def cellAt(x:qP):List Int:=atK x.ns x.ns.length
def zk1(ns:List Int)(k:Nat)(h:k<=ns.length)(h8:k<=8):(atK ns k).length=8:=by rw[atK,aN,aP,dJ,bP];omega
def zr7(ns:List Int)(k:Nat)(h:k<ns.length)(h8:k<8):(atK ns k).set k (ER (ns.getD k 0))=atK ns (k+1):=by
 have e:(ns.take k).map ER++List.replicate (8-k) 0=(ns.take k).map ER++(0::List.replicate (8-(k+1)) 0):=by rw[show 8-k=(8-(k+1))+1 by omega,List.replicate_succ]
 have hl:((ns.take k).map ER).length=k:=by rw[aP,dJ];omega
 rw[atK,e,iE _ _ (by omega),hl,kz,qf,atK,aZ h,dK,bC,aG,aK h];rfl
def zr8(ns:List Int)(k i:Nat)(h:i<k)(hk:k<=ns.length):(atK ns k).getD i 0=ER (ns.getD i 0):=by rw[atK,aG,dL (by rw[aP,dJ];omega),aX,gJ,bu h,aG,aK (by omega)];rfl
def Me(low a:Int):Int:=max (max (low-a) (a-(low+250-1))) 0
def AZ(c at_:List Int):Nat->Int
 | 0=>0
 | k+1=>AZ c at_ k+Me (c.getD k 0*250) (at_.getD k 0)*Me (c.getD k 0*250) (at_.getD k 0)
def zvd(n a:Int)(h: -1000<=n):Me (ER n*250) a*Me (ER n*250) a<=sqd n a:=by
 have hl:=zmP n h;obtain⟨g,hg⟩:=aj (Me (ER n*250) a);rw[<-hg];unfold sqd;unfold Me at hg;have h0:0<=g:=by omega
 rcases Int.le_total n a with h|h
 ·have h2:g<=a-n:=by omega
  have:=qc h2 h2 h0 (by omega);have e:(n-a)*(n-a)=(a-n)*(a-n):=by
   rw[<-Int.neg_mul_neg]
   congr 1<;>omega
  rwa [e]
 have h2:g<=n-a:=by omega
 exact qc h2 h2 h0 (by omega)
def zdy(x:qP)(at_:List Int)(hx:DW x.ns)(ha:DW at_)(h8:x.ns.length<=8):∀k,k<=x.ns.length->k<=at_.length->AZ (cellAt x) at_ k<=Jp x.ns at_ k
 | 0,_,_=>by rw[WC];exact qh _
 | k+1,h1,h2=>by have ih:=zdy x at_ hx ha h8 k (by omega) (by omega);rw[AZ,zmN x.ns at_ hx ha k (by omega) (by omega) (by omega),cellAt,zr8 _ _ _ (by omega) (aS _)];have:=zvd (x.ns.getD k 0) (at_.getD k 0) (BN hx k).1;rw[cellAt]at ih;omega
def zdx(c at_:List Int)(hc:∀k,-4<=c.getD k 0∧c.getD k 0<=4)(ha:DW at_):∀k,k<=100->0<=AZ c at_ k∧AZ c at_ k<=16000000*k
 | 0,_=>by show(0:Int)<=0∧_;simp[AZ]
 | k+1,h=>by have ih:=zdx c at_ hc ha k (by omega);have h1:=hc k;have h2:=BN ha k;have hg:=zad (d:=Me (c.getD k 0*250) (at_.getD k 0)) (B:=4000) (by unfold Me;omega) (by unfold Me;omega);rw[AZ];omega
abbrev Cell:=List Int×List qP
def zfI(cs:List Cell)(a:List Int):Bool:=cs.any λc=>decide (c.1=a)
def zD(cs:List Cell)(a:List Int):List Cell:=if zfI cs a then cs else cs++ [(a,[])]
def zb3(cs:List Cell)(a:List Int):Nat:=cs.findIdx λc=>decide (c.1=a)
def zk9(cs:List Cell)(k:Nat)(x:qP):List Cell:=cs.modify k λc=>(c.1,c.2++ [x])
def zfX(cs:List Cell)(x:qP):List Cell:=zk9 (zD cs (cellAt x)) (zb3 cs (cellAt x)) x
def Eg(l:List qP):List Cell:=l.foldl zfX []
def Yp(l:List qP)(j:Nat)(x:qP)(hx:l[j]? =some x):Eg (l.take (j+1))=zfX (Eg (l.take j)) x:=by have hj:=(aT.1 hx).1;rw[aZ hj,(aT.1 hx).2,Eg,Eg,iL];rfl
structure Du(cs:List Cell)(l:List qP):Prop where
 perm:(cs.flatMap (·.2)).Perm l
 at_:∀c∈cs,∃x∈l,c.1=cellAt x
 in_:∀c∈cs,∀x∈c.2,cellAt x=c.1
 len:cs.length<=l.length
def zkV(cs:List Cell)(a:List Int):zb3 cs a<(zD cs a).length∧(zD cs a)[zb3 cs a]?.map (·.1)=some a:=by
 unfold zD zb3;by_cases h:zfI cs a=true
 ·rw[bu h];have h2:=List.findIdx_lt_length.2 (jm.1 h);refine⟨h2,?_⟩;rw[aK h2];have:=List.findIdx_getElem (p:=λc:Cell=>decide (c.1=a)) (w:=h2)
  simpa using this
 rw[aV h];have h2:cs.findIdx (λc=>decide (c.1=a))=cs.length:=by
  rw[List.findIdx_eq_length];intro c hc;have h3:zfI cs a=false:=by simpa using h
  rw[zfI,jT]at h3
  simpa using h3 c hc
 rw[h2];simp
def zpe{cs:List Cell}(h:Du cs l)(x:qP):Du (zfX cs x) (l++ [x]):=by
 have hi:=zkV cs (cellAt x);have hw:Du (zD cs (cellAt x)) (l++ [x])->True:=λ_=>trivial;have w1:((zD cs (cellAt x)).flatMap (·.2)).Perm l:=by
  unfold zD;split
  ·exact h.perm
  rw[dU];simpa using h.perm
 have w2:∀c∈zD cs (cellAt x),∃y∈l++ [x],c.1=cellAt y:=by
  intro c hc;unfold zD at hc;split at hc
  ·obtain⟨y,hy,e⟩:=h.at_ c hc;exact⟨y,lT _ hy,e⟩
  rcases dX.1 hc with hc|hc
  ·obtain⟨y,hy,e⟩:=h.at_ c hc;exact⟨y,lT _ hy,e⟩
  rw[bJ.1 hc];exact⟨x,by simp,rfl⟩
 have w3:∀c∈zD cs (cellAt x),∀y∈c.2,cellAt y=c.1:=by
  intro c hc;unfold zD at hc;split at hc
  ·exact h.in_ c hc
  rcases dX.1 hc with hc|hc
  ·exact h.in_ c hc
  rw[bJ.1 hc];intro y hy;cases hy
 have w4:(zD cs (cellAt x)).length<=l.length+1:=by
  have:=h.len;unfold zD;split
  ·omega
  rw[aN,iF];omega
 obtain⟨W,hW⟩:=aj (zD cs (cellAt x));obtain⟨k,hk⟩:=aj (zb3 cs (cellAt x));rw[<-hW]at hi w1 w2 w3 w4;rw[<-hk]at hi;rw[zfX,zk9,<-hW,<-hk];have zos:W.modify k (λc=>(c.1,c.2++ [x]))=W.take k++(W[k].1,W[k].2++ [x])::W.drop (k+1):=by rw[List.modify_eq_take_cons_drop hi.1]
 have hW2:W=W.take k++W[k]::W.drop (k+1):=by rw[<-jB hi.1,iV]
 have hk1:W[k].1=cellAt x:=by
  have:=hi.2;rw[aK hi.1]at this
  simpa using this
 have zfG:∀c,c∈W.modify k (λc=>(c.1,c.2++ [x]))->c∈W∨c=(W[k].1,W[k].2++ [x]):=by
  intro c hc;rw[zos]at hc;rcases dX.1 hc with hc|hc
  ·exact .inl (iq hc)
  rcases dO.1 hc with hc|hc
  ·exact .inr hc
  exact .inl (pg hc)
 refine⟨?_,λc hc=> ?_,λc hc=> ?_,by rw[List.length_modify,aN,iF];exact w4⟩
 ·rw[zos];rw[hW2]at w1;simp only[dU,dZ,bC]at w1⊢;have e1:((W.take k).flatMap (·.2)++(W[k].2++([x]++(W.drop (k+1)).flatMap (·.2)))).Perm (((W.take k).flatMap (·.2)++(W[k].2++(W.drop (k+1)).flatMap (·.2)))++ [x]):=by
   simp only[bC];exact((lu).append_left _).append_left _
  exact e1.t (w1.append_right [x])
 ·rcases zfG c hc with hc|rfl
  ·exact w2 c hc
  exact⟨x,by simp,hk1⟩
 rcases zfG c hc with hc|rfl
 ·exact w3 c hc
 intro y hy;rcases dX.1 hy with hy|hy
 ·exact w3 W[k] (fO _) y hy
 rw[bJ.1 hy];exact hk1.s
def zdO(l:List qP):Du (Eg l) l:=by
 have key:∀n,n<=l.length->Du (Eg (l.take n)) (l.take n):=by
  intro n
  induction n with
  | zero=>intro _;rw[dD];exact⟨kC _,λ_ h=>(by cases h),λ_ h=>(by cases h),aS _⟩
  | succ n ih=>
   intro hn;have hx:l[n]? =some l[n]:=aK (by omega);rw[Yp l n _ hx,aZ (by omega)];exact zpe (ih (by omega)) _
 have:=key l.length (aS _)
 rwa [nM]at this
def zqo:Tot (λx y=> !(ltOf Bz) y x) where
 trans:=Wl
 total:=Wn
 zxf:=λa b h1 h2=>by rw[eU]at h1 h2;exact Nh a b h2 h1
def Rl(l l':List qP)(at_:List Int)(tag:af):uo (l++l') at_ tag=uo l at_ tag++uo l' at_ tag:=by rw[uo,uo,uo,nZ,dK]
def zo4(V C:List qP)(at_:List Int)(k:Int)(tag:af):(vC (xg V at_ k tag++xg C at_ k tag)).take k.toNat=xg (V++C) at_ k tag:=by have h1:=zqo.first (uo V at_ tag) (xg C at_ k tag) k.toNat;have h2:=zqo.first (uo C at_ tag) (uo V at_ tag) k.toNat;have e1:(vC (xg V at_ k tag++xg C at_ k tag)).take k.toNat=(vC (uo V at_ tag++xg C at_ k tag)).take k.toNat:=h1;have e2:vC (uo V at_ tag++xg C at_ k tag)=vC (xg C at_ k tag++uo V at_ tag):=Io lu;have e3:(vC (xg C at_ k tag++uo V at_ tag)).take k.toNat=(vC (uo C at_ tag++uo V at_ tag)).take k.toNat:=h2;rw[e1,e2,e3,Io lu,<-Rl];rfl
def zlY(V R:List qP)(at_:List Int)(k:Int)(tag:af)(hk:0<k.toNat)(hlen:(xg V at_ k tag).length=k.toNat)(y:sJ)(hy:(xg V at_ k tag)[k.toNat-1]? =some y)(hR:∀x∈R,y.2<TF x.ns at_):xg (V++R) at_ k tag=xg V at_ k tag:=by
 have hl:k.toNat<=(uo V at_ tag).length:=by rw[xg,dJ,VT]at hlen;omega
 have h:=zqo.zoF (uo V at_ tag) (uo R at_ tag) k.toNat hl ?_
 ·rw[xg,Rl];exact h
 intro x hx r hr;have Vf:x.2<=y.2:=by
  have hS:=zqo.sorted (uo V at_ tag);have hy2:(vC (uo V at_ tag))[k.toNat-1]? =some y:=by rw[xg,gJ,bu (by omega)]at hy;exact hy
  obtain⟨i,hi,he⟩:=iG hx;have hi2:i<k.toNat:=by rw[dJ]at hi;omega
  rw[List.getElem_take]at he;obtain⟨hb,zC⟩:=aT.1 hy2;by_cases e:i=k.toNat-1
  ·subst e;rw[<-he,<-zC];exact qh _
  ·have:=iO.1 hS i (k.toNat-1) (by rw[dJ]at hi;omega) hb (by omega);rw[he]at this;have h3:(!(ltOf Bz) y x)=true:=by rw[<-zC];exact this
   rw[eU,uQ]at h3
   have:¬y.2<x.2:=λe=>h3 (.inl e)
   omega
 obtain⟨z,hz,rfl⟩:=bY.1 hr;have D6:=hR z (gy.1 hz).1;have hz3:(ZW at_ z).2=TF z.ns at_:=rfl;rw[eU,uQ];rintro(h|h)
 ·omega
 omega
end
section
open Go.Sort Go.Shelf
def xH(l:List Int):List ay:=l.map (Value.int .i64)
def U1{P:Program}{d:Nat}{e:aB}{k:IntKind}{l m:List Int}{w:ax}(he:P.underlying e=some (.int k))(hpk:P.plainKey e=true)(hl:l.length=8)(hm:m.length=8):
  ∀is:List Nat,(∀i∈is,i<8)->(Op.eqItems (d+1) e 1 (xH l).toArray (xH m).toArray is).run P w= .ok (is.all λi=>decide (l.getD i 0=m.getD i 0)) w
 | [],_=>by simp[Op.eqItems]
 | i::is,h=>by
  have hi:=h i bW;have ih:=U1 (d:=d) (w:=w) he hpk hl hm is (λj hj=>h j (bD _ hj));have ha:(part e (xH l).toArray (i*1)).run P w= .ok (.int .i64 (l.getD i 0)) w:=run_part_plain w hpk (by rw[mi,aF,xH,aX,aG,aK (by omega)];rfl)
  have hb:(part e (xH m).toArray (i*1)).run P w= .ok (.int .i64 (m.getD i 0)) w:=run_part_plain w hpk (by rw[mi,aF,xH,aX,aG,aK (by omega)];rfl)
  simp only[Op.eqItems,lJ,ha,hb,mQ,run_equalIn_int w d e .i64 k _ _ he,ih,List.all_cons];by_cases h:l.getD i 0=m.getD i 0
  ·have hb:(l.getD i 0==m.getD i 0)=true:=by simpa using h
   rw[hb,bF h,jG];simp[ih]
  have hb:(l.getD i 0==m.getD i 0)=false:=by simpa using h
  rw[hb,cO h,iH];simp
def eight(l:List Int)(h:l.length=8):∃a0 a1 a2 a3 a4 a5 a6 a7,l= [a0,a1,a2,a3,a4,a5,a6,a7]:=by
 match l,h with
 | [a0,a1,a2,a3,a4,a5,a6,a7],_=>exact⟨a0,a1,a2,a3,a4,a5,a6,a7,rfl⟩
def zAq{l m:List Int}(hl:l.length=8)(hm:m.length=8):((List.range 8).all λi=>decide (l.getD i 0=m.getD i 0))=decide (l=m):=by
 rw[iQ,gV,aW];constructor
 ·intro h;apply kV (by omega);intro i h1 h2;have:=h i (iJ.2 (by omega));rw[aW,aG,aG,aK h1,aK h2]at this;exact this
 rintro rfl i _;simp
def zBn(x:qP)(qE:Int):uJ (qA x) qE=OV x qE:=rfl
end
section
open Go.Sort Go.Shelf
def zyE(l m:List Int)(hl:l.length=8)(hm:m.length=8)(w:ax):(Op.equalIn 10000 217 (.agg (xH l).toArray) (.agg (xH m).toArray)).run prog w= .ok (decide (l=m)) w:=by
 have hib:∃i,prog.info? 3=some i:=⟨_,rfl⟩
 obtain⟨i,hi⟩:=hib;have hc:prog.cellsOf 3=1:=by kernel_rfl
 have hpk:prog.plainKey 3=true:=by kernel_rfl
 rw[show(10000:Nat)=9999+1 from rfl,run_equalIn_array w 9999 _ _ underlying217 hi,hc,show(9999:Nat)=9998+1 from rfl,U1 fG hpk hl hm _ (λi hi=>iJ.1 hi),zAq hl hm]
def zp5(n:Int)(hn: -1000<=n∧n<=1000)(w:ax):ae 159 #[.int .i64 n] w λe w'=>e= .returned (.int .i64 (ER n))∧w'=w:=by have r1:IntKind.i64.wrap (n+1000)=n+1000:=aY _ (by omega);have hd:(n+1000).tdiv 250=(n+1000)/250:=Int.tdiv_eq_ediv_of_nonneg (by omega);have r2:IntKind.i64.wrap ((n+1000)/250)=(n+1000)/250:=aY _ (by omega);have r3:IntKind.i64.wrap ((n+1000)/250-4)=(n+1000)/250-4:=aY _ (by omega);unfold ER;go_enter func159,ntmps159;go_wp2_with fail;go_ret;exact⟨by simp[hd,r1,r2,r3],rfl⟩
def ze2(pb ab:Nat)(l m:List Int)(sv:ay)(w:ax)(hl:l.length=8)(hm:m.length=8)(hp:w.heap[pb]? =some (.cells (xH l++ [sv]).toArray 219 (0,0)))(ha:w.heap[ab]? =some (.cells (xH m).toArray 217 (0,0))):
  ae 161 #[.pointer (some ⟨pb,0,none⟩),.pointer (some ⟨ab,0,none⟩)] w λe w'=>e= .returned (.bool (decide (l=m)))∧∃q,w'=w.drewN q:=by
 have heq:=λw=>zyE l m hl hm w;have hgt:prog.eqGuardType prog.depth 217=false:=by kernel_rfl
 obtain⟨B,hB⟩:=aj (decide (l=m));rw[<-hB]at heq⊢;obtain⟨a0,a1,a2,a3,a4,a5,a6,a7,rfl⟩:=eight l hl;obtain⟨b0,b1,b2,b3,b4,b5,b6,b7,rfl⟩:=eight m hm;have cp:∀j u,([Value.int .i64 a0,.int .i64 a1,.int .i64 a2,.int .i64 a3,.int .i64 a4,.int .i64 a5,.int .i64 a6,.int .i64 a7,sv])[j]? =some u->w.cell? ⟨pb,j,none⟩=some u:=λj u hu=>by rw[aO _ _ j _ 219 (0,0) hp,aF];exact hu
 have ca:∀j u,([Value.int .i64 b0,.int .i64 b1,.int .i64 b2,.int .i64 b3,.int .i64 b4,.int .i64 b5,.int .i64 b6,.int .i64 b7])[j]? =some u->w.cell? ⟨ab,j,none⟩=some u:=λj u hu=>by rw[aO _ _ j _ 217 (0,0) ha,aF];exact hu
 have p0:=cp 0 _ rfl;have p1:=cp 1 _ rfl;have p2:=cp 2 _ rfl;have p3:=cp 3 _ rfl;have p4:=cp 4 _ rfl;have p5:=cp 5 _ rfl;have p6:=cp 6 _ rfl;have p7:=cp 7 _ rfl;have q0:=ca 0 _ rfl;have q1:=ca 1 _ rfl;have q2:=ca 2 _ rfl;have q3:=ca 3 _ rfl;have q4:=ca 4 _ rfl;have q5:=ca 5 _ rfl;have q6:=ca 6 _ rfl;have q7:=ca 7 _ rfl;simp only[xH,bH,dh]at heq;clear hB hp ha hl hm cp ca;go_enter func161,ntmps161;go_wp2_with fail
 go_quiet (fail)
 go_wp2_with fail;go_ret;exact⟨rfl,_,rfl⟩
def zmG(cb pb:Nat)(qE:Nat)(cv:ay)(at_:List Int)(c:List Int)(sv:ay)(va:ay)(w:ax)(hc8:c.length=8)(Xg:∀k,-4<=c.getD k 0∧c.getD k 0<=4)(NU:DW at_)(hd:qE<=8)(hda:at_.length=qE)
  (N:vM w va at_) (hC:w.heap[cb]? =some (.cells #[.int .i64 qE,cv] 206 (0,0))) (hp:w.heap[pb]? =some (.cells (xH c++ [sv]).toArray 219 (0,0))):
  ae 127 #[.pointer (some ⟨cb,0,none⟩),.pointer (some ⟨pb,0,none⟩),va] w λe w'=>e= .returned (.int .i64 (AZ c at_ qE))∧∃q,w'=w.drewN q:=by
 have c0:w.cell? ⟨cb,0,none⟩=some (.int .i64 qE):=by rw[aO _ _ _ _ _ (0,0) hC];rfl
 obtain⟨pa,ca,rfl⟩:=N.len;have Hda:=ag hda;rw[hda]at N⊢;clear hda;have HN:=ag N;have Hp:=ag hp;clear N hC hp;go_enter func127,ntmps127;go_wp2_with fail
 go_loopw [7,15] (λnv iv wr=>∃i:Nat,i<=qE∧iv= .int .i64 i∧nv= .int .i64 (AZ c at_ i)∧∃q,wr=w.drewN q) (λ_ iv _=>qE-(intOf iv).toNat)
 case atStart=>exact⟨0,by omega,rfl,rfl,0,rfl⟩
 case round=>
  obtain⟨i,hi,rfl,rfl,q,rfl⟩:=hrel;by_cases rE:i<qE
  ·have i1:(i:Int)<qE:=by omega
   have i8:(i:Int)<8:=by omega
   obtain⟨bA,oA,rfl,-,hbA,Xh⟩:=HN.o.at (by have:=Hda.o;omega);have cA:=Xh i (by have:=Hda.o;omega);have cP:w.cell? ⟨pb,i,none⟩=some (.int .i64 (c.getD i 0)):=by rw[aO _ _ _ _ _ (0,0) Hp.o,aF,dL (by rw[xH,aP];omega),xH,aX,aG,aK (by omega)];rfl
   have hci:=Xg i;have hai:=BN NU i;have hL:=zdx c at_ Xg NU i (by omega);have NZ:AZ c at_ (i+1)=AZ c at_ i+Me (c.getD i 0*250) (at_.getD i 0)*Me (c.getD i 0*250) (at_.getD i 0):=rfl;obtain⟨x,hx⟩:=aj (c.getD i 0);obtain⟨y,hy⟩:=aj (at_.getD i 0);obtain⟨n,hn⟩:=aj (AZ c at_ i);rw[<-hx]at cP hci NZ;rw[<-hy]at cA hai NZ;rw[<-hn]at hL NZ⊢;have r1:IntKind.i64.wrap (x*250)=x*250:=aY _ (by omega);have r2:IntKind.i64.wrap (x*250-y)=x*250-y:=aY _ (by omega);have r3:IntKind.i64.wrap (x*250+250)=x*250+250:=aY _ (by omega);have r4:IntKind.i64.wrap (x*250+250-1)=x*250+250-1:=aY _ (by omega);have r5:IntKind.i64.wrap (y-(x*250+250-1))=y-(x*250+250-1):=aY _ (by omega);have zzV:max (max (x*250-y) (y-(x*250+250-1))) 0=Me (x*250) y:=rfl;have zgl:=ag NZ;clear Xh hx hy hn NZ;have mixed:prog.follows .mixedOrders=true:=by kernel_rfl
   have hif:(if (if x*250-y<y-(x*250+250-1)then y-(x*250+250-1)else x*250-y)<0 then 0 else if x*250-y<y-(x*250+250-1)then y-(x*250+250-1)else x*250-y)=Me (x*250) y:=by unfold Me;split<;>split<;>omega
   have hg0:0<=Me (x*250) y∧Me (x*250) y<=4000:=by unfold Me;omega
   have hg2:=zad (d:=Me (x*250) y) (B:=4000) (by omega) (by omega);obtain⟨g,hg⟩:=aj (Me (x*250) y);rw[<-hg]at hif hg2 zgl;obtain⟨gg,hgg⟩:=aj (g*g);rw[<-hgg]at hg2 zgl;have r6:IntKind.i64.wrap (g*g)=gg:=by rw[<-hgg];exact aY _ (by omega)
   have r7:IntKind.i64.wrap (n+gg)=n+gg:=aY _ (by omega);have Hgg:=ag hgg;have Hif:=ag hif;clear hg hgg hif zzV hg0 hg2;go_upto_region 6 with(fail)
   go_big_region_o
   rw[Hif.o];clear r1 r2 r3 r4 r5;go_wp2_with fail;exact⟨⟨i+1,by omega,by go_num,by rw[zgl.o],_,rfl⟩,by simp[intOf];omega⟩
  obtain rfl:i=qE:=by omega
  go_wp2_with fail;go_ret;exact⟨rfl,_,rfl⟩
end
section
open Go.Sort Go.Shelf
def Fg:∃i,prog.info? 45=some i∧i.zero=some (.agg #[.string ⟨#[]⟩,.string ⟨#[]⟩,.slice none 0 0])∧i.size=3∧i.bytes=56:=by
 have h:(prog.info? 45).map (λi=>(i.zero,i.size,i.bytes))=some (some (.agg #[.string ⟨#[]⟩,.string ⟨#[]⟩,.slice none 0 0]),3,56):=by kernel_rfl
 cases hi:prog.info? 45 with
 | none=>rw[hi]at h;cases h
 | some i=>
  rw[hi]at h;simp only[gW,jD,jH]at h;exact⟨i,rfl,h.1,h.2.1,h.2.2⟩
def Am(nm tg:af)(pa:Option Addr)(nl ca:Nat):∀u∈ [Value.string nm,.string tg,.slice pa nl ca],u.oneCell'=true:=by intro u hu;simp only[dO,iT,lN]at hu;rcases hu with rfl|rfl|rfl<;>rfl
def zf(x:qP):(rC x).length=3:=rfl
end
def zpa{name:String}{k:IntKind}{zs:List Int}(h:Lib.TabIs P w name k zs)(hg:P.globalNamed name=some g)(hh:w'.heap[g]? =w.heap[g]?):Lib.TabIs P w' name k zs:=by unfold Lib.TabIs World.var? at*;rw[hg]at h⊢;simp only[Option.bind_some,hh]at h⊢;exact h
def zkJ:prog.globalNamed "internal/strconv.uint64pow10" =some 5:=by kernel_rfl
def CS(w:ax):Prop:=Lib.TabIs prog w "internal/strconv.uint64pow10" .u64 Lib.pow10Tab
def CS.lt{w:ax}(h:CS w):5<w.heap.size:=by
 have h0:(0:Nat)<Lib.pow10Tab.length:=by decide
 have:=Lib.TabIs.cell h zkJ 0 h0;exact Lib.lt_of_cell this
def CS.qm(h:CS w)(hk:Keep S w w')(hn:¬S 5):CS w':=zpa h zkJ (hk.block _ h.lt hn)
def Pq(n:Int)(h0: -9223372036854775808<=n)(h1:n<=9223372036854775807)(w:ax)(T:CS w):ae 113 #[.int .i64 n] w λe w'=>e= .returned (.string ⟨(Lib.itoa n).toArray⟩)∧ak w w':=by refine(strconv_Itoa n h0 h1 w T).m ?_;rintro e w' ⟨he,k,os,hw⟩;exact⟨he,Gr.qm ⟨k,os,hw⟩⟩
def zaN:∀(l:List sW) (x:sW),yC (l++ [x])=(yC l&&(match l.getLast? with|none=>true|some y=>decide (y.1.data.toList<x.1.data.toList)))
 | [],x=>rfl
 | [y],x=>by
  show yC [y,x]=(yC [y]&&decide (y.1.data.toList<x.1.data.toList))
  simp[yC]
 | y::z::l,x=>by
  have ih:=zaN (z::l) x;show yC (y::z::(l++ [x]))=_;have e1:yC (y::z::(l++ [x]))=(decide (y.1.data.toList<z.1.data.toList)&&yC (z::(l++ [x]))):=rfl;have e2:yC (y::z::l)=(decide (y.1.data.toList<z.1.data.toList)&&yC (z::l)):=rfl;have e3:(y::z::l).getLast? =(z::l).getLast? :=by simp[List.getLast?_cons_cons]
  rw[e1,e2,e3,Bool.and_assoc,<-ih];rfl
def QI{s:af}(h:zF s=true):s.data.toList.length<=10:=by unfold zF at h;have h1:=(pq.1 h).1;have h2:=(pq.1 h1).1;have h3:=(pq.1 h2).2;exact fM h3
def zgR:∀ns:List Int,(∀n∈ns,-10000<n∧n<10000)->((ns.map Lib.itoa).flatMap (λq=>(32:UInt8)::q)).length<=6*ns.length:=by
 intro ns
 induction ns with
 | nil=>intro _;simp
 | cons n ns ih=>
  intro h;have:=Az n (h n bW);have:=ih (λm hm=>h m (bD _ hm));rw[bH,dZ,aN,bf,bf];omega
def SY{x:sW}(h:uJ x qE=true):x.1.data.toList.length<=10∧x.2.1.data.toList.length<=10∧x.2.2.length<=8:=by
 simp only[uJ,bI,fA,aW,eU]at h;obtain⟨⟨⟨⟨⟨h1,h2⟩,h3⟩,h4⟩,h5⟩,h6⟩:=h;refine⟨QI h1,?_,by omega⟩;rcases h2 with h2|h2
 ·rw[h2];simp
 exact QI h2
def zpM{x:sW}(h:uJ x qE=true):(Aq x).length<=100:=by
 have hk:=KU h;simp only[uJ,bI,fA,aW,eU]at h;obtain⟨⟨⟨⟨⟨h1,h2⟩,h3⟩,h4⟩,h5⟩,h6⟩:=h;have n1:=QI h1;have n2:x.2.1.data.toList.length<=10:=by
  rcases h2 with h2|h2
  ·rw[h2];simp
  exact QI h2
 have key:∀ns:List Int,(∀n∈ns,-10000<n∧n<10000)->((ns.map Lib.itoa).flatMap (λq=>(32:UInt8)::q)).length<=6*ns.length:=by
  intro ns
  induction ns with
  | nil=>intro _;simp
  | cons n ns ih=>
   intro h;have:=Az n (h n bW);have:=ih (λm hm=>h m (bD _ hm));rw[bH,dZ,aN,bf,bf];omega
 have:=key x.2.2 hk.ns;rw[Aq,DY,aN,aN,dZ,aN,bf,iF];omega
def Gv(qE:Int):List UInt8:=Ec++Lib.itoa qE++ [10]
def zgK{l:List sW}(h:l.all (uJ · qE)=true):(l.flatMap Aq).length<=100*l.length:=by
 induction l with
 | nil=>simp
 | cons x l ih=>
  rw[List.all_cons,bI]at h;have:=zpM h.1;have:=ih h.2;rw[dZ,aN,bf];omega
def Zu(qE:Int)(l:List qP)(j:Nat):Prop:=((l.take j).map qA).all (uJ · qE)=true∧yC ((l.take j).map qA)=true
def zdq{x:qP}(hx:l[j]? =some x):Zu qE l (j+1)↔Zu qE l j∧OV x qE=true∧(∀y,0<j->l[j-1]? =some y->y.name.data.toList<x.name.data.toList):=by
 have hj:=(aT.1 hx)
 have hjl:j<l.length:=hj.1;have e:(l.take (j+1)).map qA=(l.take j).map qA++ [qA x]:=by rw[aZ hj.1,hj.2,dK];rfl
 have hl:((l.take j).map qA).getLast? =if 0<j then(l[j-1]?).map qA else none:=by
  rw[List.getLast?_eq_getElem?,aP,dJ,aX,gJ];split
  ·rename_i h;rw[bu (by omega),show min j l.length-1=j-1 by omega]
  rename_i h
  have:j=0:=by omega
  subst this;simp
 unfold Zu;rw[e,List.all_append,zaN,hl,bI,bI];have hp: [qA x].all (uJ · qE)=OV x qE:=by simp[<-zBn]
 rw[hp];by_cases h0:0<j
 ·rw[bu h0];obtain⟨y,hy⟩:∃y,l[j-1]? =some y:=⟨_,aK (by omega)⟩
  rw[hy];simp only[gW,aW];constructor
  ·rintro⟨⟨h1,h2⟩,h3,h4⟩;exact⟨⟨h1,h3⟩,h2,λy' _ e=>by obtain rfl:=aU e;exact h4⟩
  rintro⟨⟨h1,h3⟩,h2,h4⟩;exact⟨⟨h1,h2⟩,h3,h4 y h0 rfl⟩
 rw[aV h0];simp only[and_true];constructor
 ·rintro⟨⟨h1,h2⟩,h3⟩;exact⟨⟨h1,h3⟩,h2,λy h=>absurd h h0⟩
 rintro⟨⟨h1,h3⟩,h2,_⟩;exact⟨⟨h1,h2⟩,h3⟩
def zmz(qE:Int)(l:List qP):Zu qE l 0:=⟨rfl,rfl⟩
def V4(h:Zu qE l n)(hj:j<=n):Zu qE l j:=by
 have e:(l.take j).map qA=((l.take n).map qA).take j:=by rw[<-List.map_take,List.take_take,kM hj]
 refine⟨?_,by rw[e];exact XM _ _ h.2⟩;rw[e];exact gV.2 λx hx=>gV.1 h.1 x (iq hx)
def SI :uZ qE (l.map qA)=true↔1<=qE∧qE<=8∧l.length<=60∧Zu qE l l.length:=by
 unfold Zu;rw[nM];simp only[uZ,bI,aW,aP];constructor
 ·rintro⟨⟨⟨⟨h1,h2⟩,h3⟩,h4⟩,h5⟩;exact⟨h1,h2,h3,h4,h5⟩
 rintro⟨h1,h2,h3,h4,h5⟩;exact⟨⟨⟨⟨h1,h2⟩,h3⟩,h4⟩,h5⟩
def Nc{c c':Array ay}{t t':aB}{f f':Nat×Nat}(h:w.heap[g]? =some (.cells c t f))(h':w.heap[g]? =some (.cells c' t' f')):t=t':=by rw[h]at h';have:=aU h';simp only[nS]at this;exact this.2.1
def Js(qE:Int)(l:List qP):af:=if uZ qE (l.map qA)then⟨(xW qE (l.map qA)).toArray⟩else⟨#[]⟩
def H9(qE:Int)(l:List qP):ay:=if uZ qE (l.map qA)then .nilIface else qY 1
def zdm(qE:Int)(v:ay)(l:List qP)(w:ax)(I:zT w v l)(hl:l.length<=maxLen)(zY:∀x∈l,x.ns.length<=1000000)(T:CS w):
  ae 55 #[.int .i64 qE,v] w λe w'=>e= .returned (.tuple #[.string (Js qE l),H9 qE l])∧ak w w':=by
 obtain⟨p,c,rfl⟩:=I.rows.len;obtain⟨n,hn⟩:=aj l.length;rw[<-hn]at I hl⊢;have zng:(n:Int)<=9223372036854775807:=by unfold maxLen at hl;omega
 have HNo:Hid (uZ qE (l.map qA)=false->Ending.returned (.tuple #[.string (Js qE l),H9 qE l])= .returned (.tuple #[.string ⟨#[]⟩,.iface 34 (.int .i64 1)])):=ag (λh=>by rw[Js,H9,h];rfl);have Hn:=ag hn;have HI:=ag I;have HT:=ag T;have Hns:=ag zY;have zoA:¬(1<=qE∧qE<=8∧n<=60∧Zu qE l n)->uZ qE (l.map qA)=false:=λh=>by
  cases hp:uZ qE (l.map qA)with
  | false=>rfl
  | true=>exact absurd (by rw[hn];exact SI.1 hp) h
 have HF:=ag zoA;obtain⟨RV,hRV⟩:=aj (Ending.returned (.tuple #[.string (Js qE l),H9 qE l]));rw[<-hRV]at HNo⊢;have HRV:=ag hRV;clear hn I T zY zoA hRV hl;by_cases hd:1<=qE∧qE<=8
 case neg=>
  have Dv:=HNo.o (HF.o (λh=>hd ⟨h.1,h.2.1⟩));rw[Dv];by_cases h1:qE<1
  ·go_enter func55,ntmps55;go_wp2_with fail
   go_ret2
   exact⟨rfl,ah _ _⟩
  have h2:8<qE:=by omega
  go_enter func55,ntmps55;go_wp2_with fail
  go_ret2
  exact⟨rfl,ah _ _⟩
 have h1:¬qE<1:=by omega
 have h8:¬8<qE:=by omega
 by_cases h60:n<=60
 case neg=>
  have Dv:=HNo.o (HF.o (λh=>h60 h.2.2.1));rw[Dv];have h2:(60:Int)<n:=by omega
  go_enter func55,ntmps55;go_wp2_with fail
  go_ret2
  exact⟨rfl,ah _ _⟩
 have h61:¬((60:Int)<n):=by omega
 have hB0:=zrP w;have K0:ak w (w.alloc (.cells #[.pointer none,.slice none 0 0] 157)):=(ah _ _).alloc _;have zwF:w.heap.size<(w.alloc (.cells #[.pointer none,.slice none 0 0] 157)).heap.size:=by show w.heap.size<(w.heap.push _).size;rw[dW];omega
 obtain⟨wb,hwb⟩:=aj (w.alloc (.cells #[.pointer none,.slice none 0 0] 157));obtain⟨b,hb⟩:=aj w.heap.size;rw[<-hwb,<-hb]at hB0 zwF;rw[<-hwb]at K0;have Hwb:=ag hwb;have Hb:=ag hb;have zsK:=Az qE (by omega);have zta:=ag zsK;have L9:=λw1 (K:ak w w1)=>Pq qE (by omega) (by omega) w1 (HT.o.qm K id);obtain⟨dt,hdt⟩:∃dt:af,dt=⟨(Lib.itoa qE).toArray⟩:=⟨_,rfl⟩
 rw[<-hdt]at L9;have ZB:=ag (L9 wb K0);have Hdt:=ag hdt;have HB0:=ag hB0;clear hwb hb zsK L9 hdt hB0;go_enter func55,ntmps55;go_wp2_with fail;rw[<-Hwb.o,<-Hb.o];refine ZB.o.m ?_;rintro e w1 ⟨rfl,K1⟩;have hdts:dt.size<=5:=by rw[Hdt.o];have:=zta.o;simpa [ByteArray.size]using this
 have Ro:((⟨#[100,105,109,32]⟩:af)++dt++(⟨#[10]⟩:af)).size=dt.size+5:=by rw[dN,dN];show 4+dt.size+1=_;omega
 have HB1:=ag (HB0.o.rV K1);obtain⟨S0,hS0⟩:∃S0:af,S0=⟨#[100,105,109,32]⟩++dt++⟨#[10]⟩:=⟨_,rfl⟩
 have zwS:S0.data.toList=Gv qE:=by rw[hS0,Hdt.o,eY,eY];simp[Gv,Ec]
 have zAe:S0.size<=10:=by rw[hS0,Ro];omega
 have Gn:=Qz b b [] S0 w1 HB1.o (by simp;omega) (by have:=K1.size;omega);rw[fZ,zwS]at Gn;have Hwr:=ag Gn;have HS0:=ag hS0;clear Gn hS0 zwS zAe Ro;go_wp2_with fail;rw[<-HS0.o];refine Hwr.o.m ?_;rintro e w2 ⟨rfl,B2,K2⟩;have KW:∀x,x<w.heap.size->∀w',¬Wr b b w' x:=λx hx w' hw=>by have:=Hb.o;rcases hw with h|⟨h,_⟩<;>omega
 have HKW:=ag KW;have KA:ak w w2:=(K0.qo K1).t K2 (λi hi hs=>absurd hs (KW i hi _));have HB2:=ag B2;have zwE:b<w2.heap.size:=dH zwF (bQ K1.size K2.size);clear KW B2 ZB HB1 HB0 Hwr;go_wp2_with fail
 go_loopw [30] (λiv wr=>∃j:Nat,j<=n∧iv= .int .i64 j∧Hid (Zu qE l j)∧Hid (IsB b b (Gv qE++((l.take j).map qA).flatMap Aq) wr)∧b<wr.heap.size∧ak w wr) (λiv _=>n-(intOf iv).toNat)
 case atStart=>exact⟨0,by omega,rfl,ag (zmz qE l),ag (by rw[dD,dh,ku,dS];exact HB2.o),zwE,KA⟩
 case round=>
  clear HB2 KA K1 K2 zwE;obtain⟨j,hj,rfl,zN,hB,hbw,K⟩:=hrel;obtain⟨wo,rfl⟩:=aj wr;by_cases rE:j<n
  ·have j1:(j:Int)<n:=by omega
   have Ir:=HI.o.rows.qm K (λ_ _ x=>x);obtain⟨pb,off,rfl,-,hpb,uw⟩:=Ir.at (by have:=Hn.o;omega);obtain⟨x,hx⟩:∃x,l[j]? =some x:=⟨_,aK (by have:=Hn.o;omega)⟩
   have ET:=uw j x hx;have Ls:x∈l:=bG hx;have Nx:=(HI.o.yK x Ls).qm K (λ_ _ x=>x);have hsu:=zdq (qE:=qE) hx;have c0:wo.cell? ⟨pb,off+j*3,none⟩=some (.string x.name):=ET 0 _ rfl;have c1:wo.cell? ⟨pb,off+j*3+1,none⟩=some (.string x.tag):=ET 1 _ rfl;have c2:wo.cell? ⟨pb,off+j*3+2,none⟩=some x.av:=ET 2 _ rfl;obtain⟨px,cx,Qi⟩:=Nx.len;have QV:=λw' (Kx:ak wo w')=>Rk x qE w' (Nx.qm Kx (λ_ _ x=>x)) (Hns.o x Ls);have zwr:(rC x).toArray= #[.string x.name,.string x.tag,.slice px x.ns.length cx]:=by rw[rC,Qi]
   rw[zwr]at QV;rw[Qi]at c2;obtain⟨R,hR⟩:=aj (OV x qE);rw[<-hR]at QV hsu;obtain⟨nx,Bl⟩:=aj x.ns.length;rw[<-Bl]at QV c2;obtain⟨nm,F8⟩:=aj x.name;obtain⟨tg,Zl⟩:=aj x.tag;rw[<-F8,<-Zl]at QV;rw[<-F8]at c0;rw[<-Zl]at c1;have zf2:∀w',ak wo w'->0<j->∃y,l[j-1]? =some y∧w'.cell? ⟨pb,off+(j-1)*3,none⟩=some (.string y.name):=λw' Kx h0=>by
    obtain⟨y,hy⟩:∃y,l[j-1]? =some y:=⟨_,aK (by have:=Hn.o;omega)⟩
    exact⟨y,hy,(Kx.cell (p:=⟨pb,off+(j-1)*3,none⟩) hpb id).t (uw (j-1) y hy 0 _ rfl)⟩
   have zcU:Aq (qA x)=nm.data.toList++ [32]++tg.data.toList++(x.ns.map Lib.itoa).flatMap (λq=>(32:UInt8)::q)++ [10]:=by rw[F8,Zl,Aq,DY,qA];simp
   have Xm:=ag hsu;have Hri:=ag QV;have zn9:=ag zf2;have zog:=ag zcU;have HNx:=ag Nx;have HR:=ag hR;have JS:=ag Bl;have Hx:=ag hx;have HxM:=ag Ls;have Hav:=ag Qi;have zzM:(j:Int)-1<n:=by omega
   have Hnm:=ag F8;have Htg:=ag Zl;clear hsu QV zf2 zcU Nx hR Bl hx Qi zwr ET uw Ls F8 Zl Ir;go_wp2_with fail;obtain⟨wX,hwX⟩:=aj (wo.alloc (.cells #[.string nm,.string tg,.slice px nx cx] 45));obtain⟨X,JR⟩:=aj wo.heap.size;have hX:wX.heap[X]? =some (.cells #[.string nm,.string tg,.slice px nx cx] 45 (0,0)):=by rw[hwX,JR];exact aQ wo _
   have KX:ak wo wX:=by rw[hwX];exact(ah _ _).alloc _
   rw[<-hwX,<-JR];have zfJ:=lt_of_heap hX;have x0:wX.cell? ⟨X,0,none⟩=some (.string nm):=by rw[aO _ _ _ _ _ (0,0) hX];rfl
   have x1:wX.cell? ⟨X,1,none⟩=some (.string tg):=by rw[aO _ _ _ _ _ (0,0) hX];rfl
   have x2:wX.cell? ⟨X,2,none⟩=some (.slice px nx cx):=by rw[aO _ _ _ _ _ (0,0) hX];rfl
   have HX:=ag hX;have HXe:=ag JR;have HKX:=ag KX;have zee:=ag (λY:Ext wX=>Hri.o (wX.ext Y) (KX.qo (rZ wX Y)));have zzz:pb<wX.heap.size:=dH hpb KX.size;clear hwX JR hX KX Hri c0 c1 c2
   go_cut [53] (λbv wx=>∃G:Bool,bv= .bool (!G)∧Hid (G=true↔Zu qE l (j+1))∧ak wX wx)
   ·cases R with
    | false=>
     refine rX (by kernel_rfl) (by kernel_rfl) ?_
     repeat((with_reducible refine jK (λK hK=> ?_));go_simp;first|(refine hK _ ?_;clear hK K)|(apply Exists.intro;refine⟨λ_=> ?_,hK _ ?_⟩;(go_at_call 46;exact vw _ (zee.o _));clear hK K))
     refine dP ?_;intro Y;go_wp2_with fail;go_meet
     exact⟨false,rfl,ag ⟨λh=>(by cases h),λh=>(by have:=(Xm.o.1 h).2.1;cases this)⟩,rZ wX Y⟩
    | true=>
     by_cases hj0:j=0
     ·have hj1:¬(0<j):=by omega
      have Hj0:=ag hj0;clear hj0;refine rX (by kernel_rfl) (by kernel_rfl) ?_
      repeat((with_reducible refine jK (λK hK=> ?_));go_simp;first|(refine hK _ ?_;clear hK K)|(apply Exists.intro;refine⟨λ_=> ?_,hK _ ?_⟩;(go_at_call 46;exact vw _ (zee.o _));clear hK K))
      refine dP ?_;intro Y;go_wp2_with fail;go_meet
      exact⟨true,rfl,ag ⟨λ_=>Xm.o.2 ⟨zN.o,(by first|rfl|trivial),λy h=>by have:=Hj0.o;omega⟩,λ_=>rfl⟩,rZ wX Y⟩
     have hj1:0<j:=by omega
     have IG:(0:Int)<j:=by omega
     obtain⟨y,hy,hyc⟩:=zn9.o wX HKX.o (by omega);have vF:IntKind.i64.wrap ((j:Int)-1)=((j-1:Nat):Int):=by rw[aY _ (by omega)];omega
     have hjm:j-1<n:=by omega
     obtain⟨S,hS⟩:=aj (Op.bytesLess y.name.toList nm.toList);have hS':=hS.s;have Hy:=ag hy;have HSS:=ag hS;obtain⟨yn,hyn⟩:=aj y.name;rw[<-hyn]at hyc hS';have Hyn:=ag hyn;clear hy hS hyn;cases S with
     | true=>
      refine rX (by kernel_rfl) (by kernel_rfl) ?_
      repeat((with_reducible refine jK (λK hK=> ?_));go_simp;first|(refine hK _ ?_;clear hK K)|(apply Exists.intro;refine⟨λ_=> ?_,hK _ ?_⟩;(go_at_call 46;exact vw _ (zee.o _));clear hK K))
      refine dP ?_;intro Y;go_wp2_with fail;go_meet
      refine⟨true,rfl,ag ⟨λ_=>Xm.o.2 ⟨zN.o,(by first|rfl|trivial),λy2 _ e=> ?_⟩,λ_=>rfl⟩,rZ wX Y⟩;rw[Hy.o]at e;obtain rfl:=aU e;have h2:=HSS.o;rw[Qq]at h2;have h3:=fM h2.s;rw[dI,dI,Hnm.o]at h3;exact h3
     | false=>
      refine rX (by kernel_rfl) (by kernel_rfl) ?_
      repeat((with_reducible refine jK (λK hK=> ?_));go_simp;first|(refine hK _ ?_;clear hK K)|(apply Exists.intro;refine⟨λ_=> ?_,hK _ ?_⟩;(go_at_call 46;exact vw _ (zee.o _));clear hK K))
      refine dP ?_;intro Y;go_wp2_with fail;go_meet
      refine⟨false,rfl,ag ⟨λh=>(by cases h),λh=> ?_⟩,rZ wX Y⟩;have h1:=(Xm.o.1 h).2.2 y (by omega) Hy.o;have h2:=HSS.o;rw[Qq]at h2;have h3:=iD h2.s;rw[dI,dI,Hnm.o]at h3;exact absurd h1 h3
   obtain⟨G,rfl,HG,K3⟩:=hcut;obtain⟨w3,rfl⟩:=aj wc;have Kw3:ak w w3:=(K.qo HKX.o).qo K3;cases G with
   | false=>
    have Dv:=HNo.o (HF.o (λh=>by have h2:=HG.o.2 (V4 h.2.2.2 (by omega));cases h2))
    have Hno:=ag Dv;clear Dv;go_wp2_with fail
    go_ret2
    exact⟨by rw[Hno.o];rfl,Kw3⟩
   | true=>
    have ztG:=HG.o.1 (by first|rfl|trivial);have hx3:=K3.heap HX.o id;have y0:w3.cell? ⟨X,0,none⟩=some (.string nm):=by rw[aO _ _ _ _ _ (0,0) hx3];rfl
    have y1:w3.cell? ⟨X,1,none⟩=some (.string tg):=by rw[aO _ _ _ _ _ (0,0) hx3];rfl
    have hit:uJ (qA x) qE=true:=HR.o.s.t (Xm.o.1 ztG).2.1;have uF:=SY hit;have hib:=(KU hit).ns;have zv8:nx<=8:=by have h3:x.ns.length<=8:=uF.2.2;have:=JS.o;omega
    have zvW:nm.size<=10:=by rw[Hnm.o];exact uF.1
    have zvV:tg.size<=10:=by rw[Htg.o];exact uF.2.1
    obtain⟨cur,zqG⟩:=aj (Gv qE++((l.take j).map qA).flatMap Aq);have Ce:cur.length<=7000:=by
     have h1:=zgK zN.o.1;have h2:(Gv qE).length<=10:=by have:=zta.o;rw[Gv,aN,aN];show 4+_+1<=10;omega
     have h3:((l.take j).map qA).length<=60:=by rw[aP,dJ];have:=Hn.o;omega
     rw[zqG,aN];omega
    have hB3:IsB b b cur w3:=by rw[zqG];exact hB.o.rV (HKX.o.qo K3)
    obtain⟨S1,hS1⟩:∃S1:af,S1=nm++⟨#[32]⟩++tg:=⟨_,rfl⟩
    have hS1s:S1.size<=21:=by rw[hS1,dN,dN];show nm.size+1+tg.size<=21;omega
    have zwR:S1.data.toList=nm.data.toList++ [32]++tg.data.toList:=by rw[hS1,eY,eY];simp
    have zz7:b<w3.heap.size:=dH hbw (bQ HKX.o.size K3.size);have zvL:=Qz b b cur S1 w3 hB3 (by omega) (by omega);have G8:nm.size+1+tg.size<=1000:=by omega
    have hns1:((nm++⟨#[32]⟩:af)).size=nm.size+1:=dN;have zxo:=ag zvL;have HS1:=ag hS1;have zBd:=ag zwR;have zA6:=ag zqG;have Hx3:=ag hx3;have Hib:=ag hib;have Hsz:=ag uF;have zAQ:=ag ztG;clear zvL hS1 zwR zqG hx3 hit hib uF hB3 ztG;go_wp2_with fail;rw[<-HS1.o];refine zxo.o.m ?_;rintro e w4 ⟨rfl,B4,K4⟩;have Kw4:ak w w4:=Kw3.t K4 (λi hi hs=>absurd hs (HKW.o i hi _));have hx4:=K4.heap Hx3.o (λhs=>by
     rcases hs with h|⟨_,cs,fz,h⟩
     ·have:=HXe.o;omega
     exact absurd (Nc Hx3.o h) (by decide))
    have z2:w4.cell? ⟨X,2,none⟩=some (.slice px nx cx):=by rw[aO _ _ _ _ _ (0,0) hx4];rfl
    have HB4:=ag B4;have zwD:b<w4.heap.size:=dH zz7 K4.size;clear B4 hx4 zxo;go_wp2_with fail
    go_loopw [65] (λiv wr=>∃k:Nat,k<=nx∧iv= .int .i64 k∧Hid (IsB b b (cur++S1.data.toList++((x.ns.take k).map Lib.itoa).flatMap (λq=>(32:UInt8)::q)) wr)∧b<wr.heap.size∧ak w wr) (λiv _=>nx-(intOf iv).toNat)
    ·exact⟨0,by omega,rfl,ag (by rw[dD,dh,ku,dS];exact HB4.o),zwD,Kw4⟩
    clear HB4 Kw4 K4 Kw3 z2 zwD;obtain⟨k,hk,rfl,hBk,Vb,Kk⟩:=hrel;obtain⟨w5,rfl⟩:=aj wr;by_cases hkn:k<nx
    ·have k1:(k:Int)<nx:=by omega
     have Nk:=(HI.o.yK x HxM.o).qm Kk (λ_ _ x=>x);rw[Hav.o,<-JS.o]at Nk;obtain⟨bn,on,rfl,-,hbn,hcn⟩:=Nk.at (by have:=JS.o;omega);have cn:=hcn k (by have:=JS.o;omega);obtain⟨y,hy⟩:∃y,x.ns[k]? =some y:=⟨_,aK (by have:=JS.o;omega)⟩
     rw[aG,hy]at cn;have cn':w5.cell? ⟨bn,on+k,none⟩=some (.int .i64 y):=cn;have hyb:=Hib.o y (bG hy);have L9:=Pq y (by omega) (by omega) w5 (HT.o.qm Kk id);obtain⟨it,hit⟩:∃it:af,it=⟨(Lib.itoa y).toArray⟩:=⟨_,rfl⟩
     rw[<-hit]at L9;have zb7:it.data.toList=Lib.itoa y:=by rw[hit]
     have zzR:it.size<=5:=by have:=Az y hyb;rw[<-zb7]at this;exact this
     have htk:((x.ns.take (k+1)).map Lib.itoa).flatMap (λq=>(32:UInt8)::q)=((x.ns.take k).map Lib.itoa).flatMap (λq=>(32:UInt8)::q)++32::it.data.toList:=by
      have hkl:=(aT.1 hy)
      rw[aZ hkl.1,hkl.2,dK,dU,zb7];simp
     have NS:(((x.ns.take k).map Lib.itoa).flatMap (λq=>(32:UInt8)::q)).length<=48:=by
      have h1:=zgR (x.ns.take k) (λn hn=>Hib.o n (iq hn));have h2:(x.ns.take k).length<=8:=by rw[dJ];have:=Hsz.o.2.2;show min k x.ns.length<=8;have h3:x.ns.length<=8:=this;omega
      omega
     have ZB:=ag L9;have Htk:=ag htk;have Hlk:=ag NS;have OW:((⟨#[32]⟩:af)++it).size=it.size+1:=by rw[dN];show 1+it.size=_;omega
     clear cn hcn hy L9 hit zb7 htk NS Nk;go_wp2_with fail;refine ZB.o.m ?_;rintro e w6 ⟨rfl,K6⟩;obtain⟨S2,QO⟩:∃S2:af,S2=⟨#[32]⟩++it:=⟨_,rfl⟩
     have zwP:S2.data.toList=32::it.data.toList:=by rw[QO,eY];simp
     have Gp:=Qz b b _ S2 w6 (hBk.o.rV K6) (by
      rw[aN,aN];have h1:S1.data.toList.length=S1.size:=rfl;have h2:S2.size=it.size+1:=by rw[QO];exact OW
      have:=Hlk.o;omega) (by have:=K6.size;omega)
     rw[bC,zwP,<-Htk.o]at Gp;have Hw2:=ag Gp;have HS2:=ag QO;clear Gp QO zwP;go_wp2_with fail;rw[<-HS2.o];refine Hw2.o.m ?_;rintro e w7 ⟨rfl,B7,K7⟩;have HB7:=ag B7;clear B7;go_wp2_with fail;exact⟨⟨k+1,by omega,by go_num,HB7,dH Vb (bQ K6.size K7.size),(Kk.qo K6).t K7 (λi hi hs=>absurd hs (HKW.o i hi _))⟩,by simp[intOf];omega⟩
    obtain rfl:k=nx:=by omega
    have ZM:cur++S1.data.toList++((x.ns.take k).map Lib.itoa).flatMap (λq=>(32:UInt8)::q)++(⟨#[10]⟩:af).data.toList=Gv qE++((l.take (j+1)).map qA).flatMap Aq:=by
     have Tv:=(aT.1 Hx.o)
     rw[bg (by have:=JS.o;omega),aZ Tv.1,Tv.2,dK,dU,zA6.o,zBd.o];have h1:(List.map qA [x]).flatMap Aq=Aq (qA x):=by simp
     rw[h1,zog.o];simp
    have NS:(((x.ns.take k).map Lib.itoa).flatMap (λq=>(32:UInt8)::q)).length<=48:=by
     have h1:=zgR (x.ns.take k) (λn hn=>Hib.o n (iq hn));have h2:(x.ns.take k).length<=8:=by rw[dJ];have h3:x.ns.length<=8:=Hsz.o.2.2;omega
     omega
    have Gp:=Qz b b _ ⟨#[10]⟩ w5 hBk.o (by rw[aN,aN];have h1:S1.data.toList.length=S1.size:=rfl;show _+1<=_;omega) (by omega)
    rw[ZM]at Gp;have Hw2:=ag Gp;clear Gp ZM NS;go_wp2_with fail;refine Hw2.o.m ?_;rintro e w7 ⟨rfl,B7,K7⟩;have HB7:=ag B7;clear B7;go_wp2_with fail;exact⟨⟨j+1,by omega,by go_num,zAQ,HB7,dH Vb K7.size,Kk.t K7 (λi hi hs=>absurd hs (HKW.o i hi _))⟩,by simp[intOf];omega⟩
  obtain rfl:j=n:=by omega
  have vz:uZ qE (l.map qA)=true:=SI.2 ⟨hd.1,hd.2,by rw[<-Hn.o];exact h60,by rw[<-Hn.o];exact zN.o⟩;have zwT:RV=Ending.returned (.tuple #[.string ⟨(xW qE (l.map qA)).toArray⟩,.nilIface]):=by rw[HRV.o,Js,H9,bu vz,bu vz]
  have hBn:=hB.o;rw[bg (by have:=Hn.o;omega)]at hBn;have zvZ:=Builder_String_any_k b b _ wo hBn (by omega);have zAE:=ag zvZ;have zBe:=ag zwT;have hbw':=hbw;clear vz zwT hBn zvZ;go_wp2_with fail;refine zAE.o.m ?_;rintro e w9 ⟨rfl,-,hBl,-⟩;go_wp2_with fail
  go_ret2
  refine⟨by rw[zBe.o];rfl,⟨hBl.os.t K.os,hBl.tape.t K.tape,hBl.output.t K.output,bQ K.size hBl.size,λi hi hn=> ?_⟩⟩;rw[hBl.block i (by have:=Hb.o;omega)];exact K.block i hi hn
section
def zk4(v:ay):Prop:=v= .nilIface∨∃te pe,v= .iface te pe
structure Ug(w:ax):Prop where
 range:∃ev,w.cell? ⟨3,0,none⟩=some ev∧zk4 ev
 form:∃ev,w.cell? ⟨2,0,none⟩=some ev∧zk4 ev
def Ug.qm(h:Ug w)(hk:Keep S w w')(h1:¬S 3)(h2:¬S 2):Ug w':=by obtain⟨⟨a,ha,ha'⟩,⟨b,hb,JQ⟩⟩:=h;exact⟨⟨a,(hk.cell (p:=⟨3,0,none⟩) (Lib.lt_of_cell ha) h1).t ha,ha'⟩,⟨b,(hk.cell (p:=⟨2,0,none⟩) (Lib.lt_of_cell hb) h2).t hb,JQ⟩⟩
def zj1(w:ax)(e:aB)(s:af):ak w (Lib.bytesWorld w e s):=Keep.Em (Lib.bytesWorld_below w e s)
def Zi(s:af)(e:Ending):Prop:=∃(n:Int) (b:Bool),e= .returned (.tuple #[.int .i64 n,.bool b])∧(match G6 s.data.toList with|some v=>n=v∧b=true|none=>b=false)
def za7(s:af)(w:ax)(hs:s.size<=1000000)(T:CS w)(E:Ug w):
  ae 95 #[.string s] w λe w'=>Zi s e∧ak w w':=by
 have ziJ:∀(n:Int) (N:Nat),G6 s.data.toList=none->ae 87 #[.string s] w (λe w'=>∃N,e= .returned (.tuple #[.int .i64 n,.iface 282 (.pointer (some ⟨N,0,none⟩))])∧ak w w')->
   ae 95 #[.string s] w λe w'=>Zi s e∧ak w w':=by
  intro n N Dv hc;have HS:Hid (Zi s (.returned (.tuple #[.int .i64 n,.bool false]))):=ag ⟨n,false,rfl,by rw[Dv]⟩;clear Dv;go_enter func95,ntmps95;go_wp2_with fail;refine hc.m ?_;rintro e w1 ⟨N1,rfl,K1⟩;go_wp2_with fail
  go_ret2
  exact⟨HS.o,K1⟩
 cases hA:Lib.atoiAll s.data.toList with
 | ok v=>
  have hc:=strconv_Atoi_ok s (by omega) v hA w;have hvb:=Lib.atoiAll_bounds hA;obtain⟨it,hit⟩:∃it:af,it=⟨(Lib.itoa v).toArray⟩:=⟨_,rfl⟩
  have L9:=λw1 (K:ak w w1)=>Pq v hvb.1 hvb.2 w1 (T.qm K id);rw[<-hit]at L9;have zb7:it.data.toList=Lib.itoa v:=by rw[hit]
  obtain⟨B,hB⟩:=aj ((it.toList==s.toList));have hS:Zi s (.returned (.tuple #[.int .i64 v,.bool B])):=by
   refine⟨v,B,rfl,?_⟩;rw[G6,hA];show(match (if Lib.itoa v=s.data.toList then some v else none)with|some v_1=>v=v_1∧B=true|none=>B=false);rw[dI,dI,zb7]at hB;by_cases e:Lib.itoa v=s.data.toList
   ·rw[bu e];exact⟨rfl,by rw[hB,e];exact fF _⟩
   rw[aV e];rw[hB];exact eu.2 e
  have HS:=ag hS;have ZB:=ag L9;have Ry:=hB.s;clear hS L9 hit zb7 hB ziJ hA;go_enter func95,ntmps95;go_wp2_with fail;refine hc.m ?_;rintro e w1 ⟨rfl,vF⟩;have K1:ak w w1:=by
   rcases vF with rfl|⟨t,rfl⟩
   ·exact ah _ _
   exact zj1 _ _ _
  clear vF;go_wp2_with fail;refine(ZB.o _ K1).m ?_;rintro e w2 ⟨rfl,K2⟩;go_wp2_with fail
  go_ret2
  exact⟨HS.o,K1.qo K2⟩
 | range=>
  obtain⟨ev,hv,Oy⟩:=E.range;refine ziJ (Lib.atoiSat s.data.toList) 0 (by rw[G6,hA]) ?_;refine(strconv_Atoi_range s (by omega) hA ev w hv Oy).m ?_;rintro e w' ⟨N,rfl,_,_,hb⟩;exact⟨N,rfl,Keep.Em hb⟩
 | _=>
  obtain⟨ev,hv,Oy⟩:=E.form;refine ziJ 0 0 (by rw[G6,hA]) ?_;refine(Any.strconv_Atoi_syntax laysC172 s (by omega) hA ev w hv Oy).m ?_;rintro e w' ⟨N,rfl,_,_,hb⟩;exact⟨N,rfl,Keep.Em hb⟩
structure yZ(w:ax):Prop where
 pow:CS w
 Zx:Ug w
 max:∃m,w.cell? ⟨1,0,none⟩=some (.int .i64 m)
def yZ.qm(h:yZ w)(hk:ak w w'):yZ w':=by obtain⟨m,hm⟩:=h.max;exact⟨h.pow.qm hk id,h.Zx.qm hk id id,m,(hk.cell (p:=⟨1,0,none⟩) (Lib.lt_of_cell hm) id).t hm⟩
def KH(s:af)(c:UInt8)(w:ax)(hs:s.size<=1000000)(V:yZ w):
  ae 86 #[.string s,.string ⟨#[c]⟩] w λe w'=>∃P:List af,P.map (·.data.toList)=pieces c s.data.toList∧e= .returned (.slice (some ⟨w.heap.size,0,none⟩) P.length P.length)∧w'.heap[w.heap.size]? =some (.cells (P.map Value.string).toArray 9 (0,0))∧ak w w':=by
 obtain⟨m,hm⟩:=V.max;refine(strings_Split s ⟨#[c]⟩ m w (by omega) hm (aS 1)).m ?_;rintro e w' ⟨rfl,rfl⟩;have hP:=zcu c s;have hl:(Lib.splitB ⟨#[c]⟩ 0 (Lib.countB s ⟨#[c]⟩) s).length=Lib.countB s ⟨#[c]⟩+1:=Lib.splitB_all ⟨#[c]⟩ (aS 1) 0 _ s rfl;exact⟨_,hP,by rw[hl],aQ w _,(ah _ _).alloc _⟩
def wF{b:Nat}{cur:Array ay}{E:aB}{fz:Nat×Nat}{u:ay}(h:w.heap[b]? =some (.cells cur E fz))(hu:cur[i]? =some u):w.setCell ⟨b,i,none⟩ u=w:=by
 have rE:=lt_of_heap h;have e:(w.heap.modify b λo=>match o with| .cells c e fr=> .cells (c.setIfInBounds i u) e fr|o=>o)=w.heap:=by
  apply kW;intro k;rw[iU];split
  ·rename_i hk;subst hk;rw[h]
   have:cur.setIfInBounds i u=cur:=by
    apply kW;intro j;rw[Array.getElem?_setIfInBounds];split
    ·rename_i hj;subst hj;split
     ·exact hu.s
     rename_i hn;rw[jy (by omega)]
    rfl
   simp[this]
  rfl
 show { w with heap:=_ } =w;have e2:(w.setCell ⟨b,i,none⟩ u).heap=w.heap:=e;exact dB (λhp=> { w with heap:=hp }) e2
def JB{fn:Func}{t u:Tmp}{ty:aB}(h:fn.results= #[.cell t ty,.tmp u]){tmps:Array ay}{a:Addr}{x:ay}(ha:tmps.getD t undef= .pointer (some a))(hl:(loadVar ty a).run P w= .ok x w):
  (results fn tmps).run P w= .ok (.tuple #[x,tmps.getD u undef]) w:=by
 rw[Array.getD_eq_getD_getElem?]at ha;simp[results,h,ha,asAddr,hl]
def zrG(s:af)(w:ax)(hs:s.size<=1000000)(V:yZ w)(hf:(pieces 32 s.data.toList).length<3):
  ae 96 #[.string s] w (au (.tuple #[.agg #[.string ⟨#[]⟩,.string ⟨#[]⟩,.slice none 0 0],.bool false]) w):=by
 have hsp:=λw1 (K:ak w w1)=>KH s 32 w1 hs (V.qm K);have Hsp:=ag hsp;clear hsp;go_enter func96,ntmps96;go_wp2_with fail;refine(Hsp.o _ ((ah _ _).alloc _)).m ?_;rintro e w1 ⟨P,hP,rfl,uU,K1⟩;have hPl:P.length<3:=by have:=dB List.length hP;rw[aP]at this;omega
 have h3:(P.length:Int)<3:=by omega
 have hz:w1.heap[w.heap.size]? =some (.cells #[.string ⟨#[]⟩,.string ⟨#[]⟩,.slice none 0 0] 45 (0,0)):=K1.heap (aQ w _) id;have z0:w1.cell? ⟨w.heap.size,0,none⟩=some (.string ⟨#[]⟩):=by rw[aO _ _ _ _ _ (0,0) hz];rfl
 have z1:w1.cell? ⟨w.heap.size,1,none⟩=some (.string ⟨#[]⟩):=by rw[aO _ _ _ _ _ (0,0) hz];rfl
 have z2:w1.cell? ⟨w.heap.size,2,none⟩=some (.slice none 0 0):=by rw[aO _ _ _ _ _ (0,0) hz];rfl
 have f0:∀i,w1.frozen? ⟨w.heap.size,i,none⟩=false:=λi=>bU hz i;clear hP uU hf Hsp;go_wp2_with fail;have hzz:(((w1.setCell ⟨w.heap.size,0,none⟩ (.string ⟨#[]⟩)).setCell ⟨w.heap.size,1,none⟩ (.string ⟨#[]⟩)).setCell ⟨w.heap.size,2,none⟩ (.slice none 0 0))=w1:=by have h1:w1.setCell ⟨w.heap.size,0,none⟩ (.string ⟨#[]⟩)=w1:=wF hz rfl;rw[h1,wF hz rfl,wF hz rfl]
 rw[hzz];refine eF (JB (x:= .agg #[.string ⟨#[]⟩,.string ⟨#[]⟩,.slice none 0 0]) rfl rfl ?_) rfl ⟨rfl,((ah _ _).alloc _).qo K1⟩;go_simp
structure Bd where
 lo:Nat
variable [Inhabited Bd]
def loB:Nat:=(default:Bd).lo
def O8(w:ax)(v:ay):Prop:=∀g,v.ownBlock=some g->loB<=g∧∃cs fz,w.heap[g]? =some (.cells cs 3 fz)
def zeJ(s:af)(w':ax)(e:Ending):Prop:=∃(nm tg:af) (pa:Option Addr) (na ca:Nat) (b:Bool),e= .returned (.tuple #[.agg #[.string nm,.string tg,.slice pa na ca],.bool b])∧(match JU s.data.toList with|some x=>b=true∧nm=x.1∧tg=x.2.1∧vM w' (.slice pa na ca) x.2.2∧O8 w' (.slice pa na ca)|none=>b=false)
def zqR(N:Nat)(a b:af)(W:ax):Prop:=W.cell? ⟨N,0,none⟩=some (.string a)∧W.cell? ⟨N,1,none⟩=some (.string b)
def yD(l:List Int):List ay:=l.map (Value.int .i64)
def VX(c:UInt8):∀(l:List UInt8),∀p∈pieces c l,p.length<=l.length
 | [],p,hp=>by rw[pieces,bJ]at hp;rw[hp];exact aS _
 | b::l,p,hp=>by
  have ih:=VX c l;rw[pieces]at hp;split at hp
  ·rcases dO.1 hp with rfl|hp
   ·exact fP _
   have:=ih p hp;rw[bf];omega
  split at hp
  ·rw[bJ.1 hp];simp
  rename_i q r e;rcases dO.1 hp with rfl|hp
  ·have:=ih q (by rw[e];exact bW);simpa using this
  have:=ih p (by rw[e];exact bD _ hp);rw[bf];omega
def U7:∀(l:List (List UInt8)) (k:Nat) (t:List UInt8),l[k]? =some t->G6 t=none->wP l=none
 | [],k,t,h,_=>by simp at h
 | x::l,0,t,h,hn=>by
  obtain rfl:x=t:=by simpa using h
  rw[wP,hn]
 | x::l,k+1,t,h,hn=>by
  rw[wP];cases G6 x with
  | none=>rfl
  | some n=>
   have:=U7 l k t (by simpa using h) hn;simp[this]
def U6:∀(l:List (List UInt8)) (t:List UInt8) (ns:List Int) (n:Int),wP l=some ns->G6 t=some n->wP (l++ [t])=some (ns++ [n])
 | [],t,ns,n,h,hn=>by
  obtain rfl: []=ns:=by simpa [wP]using h
  simp[wP,hn]
 | x::l,t,ns,n,h,hn=>by
  rw[wP]at h;rw[fV,wP];cases hx:G6 x with
  | none=>rw[hx]at h;cases h
  | some v=>
   rw[hx]at h;cases hl:wP l with
   | none=>rw[hl]at h;cases h
   | some ms=>
    rw[hl]at h;obtain rfl:v::ms=ns:=by simpa using h
    rw[U6 l t ms n hl hn];rfl
def J7(h:qF w base 3 1 v ns.length (yD ns)):vM w v ns:=by
 have h0:=h;rcases h.2 with⟨hv,hn⟩|⟨g,cap,cur,fz,hv,_,hg,_⟩
 ·exact .inl ⟨dV hn,none,0,hv⟩
 refine .inr ⟨g,0,cap,hv,lt_of_heap hg,λi hi=> ?_⟩;have:=h0.cells (by rw[hv];rfl) i (.int .i64 (ns.getD i 0)) (by rw[yD,aX,aG,aK hi];rfl)
 rwa [show(⟨g,0,none⟩:Addr).add i=⟨g,0+i,none⟩by unfold Addr.add;split<;>simp_all]at this
def yJ{size:Nat}(h:qF w base e size v n xs):∃p c,v= .slice p n c:=by
 rcases h.2 with⟨h,hn⟩|⟨_,_,_,_,h,_⟩
 ·exact⟨none,0,by rw[h,hn]⟩
 exact⟨_,_,h⟩
def zpP:∃i,prog.info? 3=some i∧i.zero=some (.int .i64 0)∧i.size=1∧i.bytes=8:=by
 have h:(prog.info? 3).map (λi=>(i.zero,i.size,i.bytes))=some (some (.int .i64 0),1,8):=by kernel_rfl
 cases hi:prog.info? 3 with
 | none=>rw[hi]at h;cases h
 | some i=>
  rw[hi]at h;simp only[gW,jD,jH]at h;exact⟨i,rfl,h.1,h.2.1,h.2.2⟩
def zpD [Inhabited Bd](s:af)(w:ax)(BA:loB<=w.heap.size)(hs:s.size<=1000000)(V:yZ w)(hf:3<=(pieces 32 s.data.toList).length):
  ae 96 #[.string s] w λe w'=>zeJ s w' e∧ak w w':=by
 have hsp:=λw1 (K:ak w w1)=>KH s 32 w1 hs (V.qm K);have Hsp:=ag hsp;have HV:=ag V;clear hsp V;go_enter func96,ntmps96;go_wp2_with fail;refine(Hsp.o _ ((ah _ _).alloc _)).m ?_;rintro e w1 ⟨P,hP,rfl,uU,K1⟩;have hPl:3<=P.length:=by have:=dB List.length hP;rw[aP]at this;omega
 obtain⟨a,b,c,R,rfl⟩:∃a b c R,P=a::b::c::R:=by
  match P,hPl with
  | a::b::c::R,_=>exact⟨a,b,c,R,rfl⟩
 have uF:(w.alloc (.cells #[.string ⟨#[]⟩,.string ⟨#[]⟩,.slice none 0 0] 45)).heap.size=w.heap.size+1:=by show(w.heap.push _).size=_;rw[dW]
 rw[uF]at uU;obtain⟨m,hm⟩:=aj ((a::b::c::R).length);have hm3:3<=m:=by rw[hm];exact hPl
 have h3:¬((m:Int)<3):=by omega
 have h0n:0<m:=by omega
 have h1n:1<m:=by omega
 have h0m:(0:Int)<m:=by omega
 have h1m:(1:Int)<m:=by omega
 have K0:ak w w1:=((ah _ _).alloc _).qo K1;have hz:w1.heap[w.heap.size]? =some (.cells #[.string ⟨#[]⟩,.string ⟨#[]⟩,.slice none 0 0] 45 (0,0)):=K1.heap (aQ w _) id;obtain⟨N,hN⟩:=aj (w.heap.size+1);obtain⟨Z,hZ⟩:=aj w.heap.size;rw[<-hm];rw[<-hN]at uU;rw[<-hZ]at hz;have cP:∀j t,(a::b::c::R)[j]? =some t->w1.cell? ⟨N,j,none⟩=some (.string t):=λj t ht=>by rw[aO _ _ _ _ _ (0,0) uU,aF,aX,ht];rfl
 have zt4:=lt_of_heap uU;have L0:zqR N a b w1:=⟨cP 0 a rfl,cP 1 b rfl⟩
 have l0:∀x:wE (zqR N a b),x.w.cell? ⟨N,0,none⟩=some (.string a):=λx=>x.h.1;have l1:∀x:wE (zqR N a b),x.w.cell? ⟨N,1,none⟩=some (.string b):=λx=>x.h.2;have HP:=ag hP;have HcP:=ag cP;have RY:=ag uU;have Hm:=ag hm;have HN:=ag hN;have HZ:=ag hZ;have HL0:=ag L0;rw[uF,<-hN];clear hP cP hm uU hN hZ L0 uF hf hPl Hsp K1;go_wp2_with fail;refine BQ (zqR N a b) [0,1,2,3,4,5,6] [7,8] (by kernel_rfl) (by kernel_rfl) (λc a d v w h=>by cases d<;>exact h) ?_;simp only[qC,aF,aH,aI]
 repeat(refine Dn (λK hK=> ?_);go_simp;first|(refine⟨_,λ_=>rfl,hK _ ?_⟩;clear hK K)|(refine hK _ ?_;clear hK K))
 refine tY ?_;clear l0 l1;simp only[MF,qC,aF,aH,aI];refine⟨HL0.o,?_⟩;go_wp2_with fail;have KA:ak w1 (w1.alloc (.cells #[.string ⟨#[]⟩,.string ⟨#[]⟩,.slice none 0 0] 45)).drew:=((ah _ _).alloc _).drew;refine⟨⟨(KA.cell (p:=⟨N,0,none⟩) zt4 id).t HL0.o.1,(KA.cell (p:=⟨N,1,none⟩) zt4 id).t HL0.o.2⟩,?_⟩;clear KA;go_wp2_with fail;have Vl:(w1.alloc (.cells #[.string a,.string b,.slice none 0 0] 45)).drew.heap[w1.heap.size]? =some (.cells #[.string a,.string b,.slice none 0 0] 45 (0,0)):=aQ w1 _;have KX0:ak w1 (w1.alloc (.cells #[.string a,.string b,.slice none 0 0] 45)).drew:=((ah _ _).alloc _).drew;obtain⟨w2,Gp⟩:=aj ((w1.alloc (.cells #[.string a,.string b,.slice none 0 0] 45)).drew);obtain⟨X,hX⟩:=aj w1.heap.size;rw[<-Gp]at Vl KX0⊢;rw[<-hX]at Vl⊢;have HX:=ag hX;have HX0:=ag Vl;clear Gp hX Vl;obtain⟨ws,hws⟩:∃ws:List (List UInt8),ws=(c::R).map (·.data.toList):=⟨_,rfl⟩
 have Hws:=ag hws;have YA:m-2+2=m:=by omega
 clear hws
 go_loopw [26] (λiv wr=>∃(k:Nat) (ns:List Int) (av:ay),iv= .int .i64 k∧k<=m-2∧Hid (wP (ws.take k)=some ns∧ns.length=k)∧Hid (wr.heap[X]? =some (.cells #[.string a,.string b,av] 45 (0,0)))∧Hid (qF wr w1.heap.size 3 1 av k (yD ns))∧ak w1 wr) (λiv _=>m-2-(intOf iv).toNat)
 case atStart=>exact⟨0,[],_,rfl,by omega,ag ⟨by rw[dD];rfl,rfl⟩,HX0,ag (qF.nil _ _ _ _),KX0⟩
 case round=>
  clear KX0 HX0;obtain⟨k,ns,av,rfl,hk,zY,hXr,hO,K⟩:=hrel;obtain⟨wo,rfl⟩:=aj wr;have hwl:ws.length=m-2:=by rw[Hws.o,aP,Hm.o];simp
  have Hwl:=ag hwl;clear hwl;by_cases rE:k<m-2
  ·have k1:(k:Int)<((m-2:Nat):Int):=by omega
   obtain⟨t,ht⟩:∃t,(c::R)[k]? =some t:=⟨_,aK (by have h:=Hm.o;simp at h⊢;omega)⟩
   have ct:wo.cell? ⟨N,2+k,none⟩=some (.string t):=(K.cell (p:=⟨N,2+k,none⟩) zt4 id).t (HcP.o (2+k) t (by rw[show 2+k=k+1+1 by omega];simpa using ht));have IE:ws[k]? =some t.data.toList:=by rw[Hws.o,aX,ht];rfl
   have NQ:t.size<=1000000:=by have h1:=VX 32 s.data.toList t.data.toList (by rw[<-HP.o];exact bY.2 ⟨t,bD _ (bD _ (bG ht)),rfl⟩);have h2:s.data.toList.length=s.size:=rfl;have h3:t.data.toList.length=t.size:=rfl;omega
   have FM:=za7 t wo NQ (HV.o.qm (K0.qo K)).pow (HV.o.qm (K0.qo K)).Zx;have zef:=ag FM;have Hwt:=ag IE;clear FM IE ht;go_wp2_with fail;refine zef.o.m ?_;rintro e w3 ⟨⟨n,B,rfl,GG⟩,K3⟩;have QR:=ag GG;clear GG;cases B with
   | false=>
    have hz3:w3.heap[w.heap.size]? =some (.cells #[.string ⟨#[]⟩,.string ⟨#[]⟩,.slice none 0 0] 45 (0,0)):=by rw[<-HZ.o];exact(K.qo K3).heap hz id
    have z0:w3.cell? ⟨w.heap.size,0,none⟩=some (.string ⟨#[]⟩):=by rw[aO _ _ _ _ _ (0,0) hz3];rfl
    have z1:w3.cell? ⟨w.heap.size,1,none⟩=some (.string ⟨#[]⟩):=by rw[aO _ _ _ _ _ (0,0) hz3];rfl
    have z2:w3.cell? ⟨w.heap.size,2,none⟩=some (.slice none 0 0):=by rw[aO _ _ _ _ _ (0,0) hz3];rfl
    have f0:∀i,w3.frozen? ⟨w.heap.size,i,none⟩=false:=λi=>bU hz3 i;have zsx:G6 t.data.toList=none:=by
     have h:=QR.o;cases hn:G6 t.data.toList with
     | none=>rfl
     | some v=>rw[hn]at h;cases h.2
    have xu:JU s.data.toList=none:=by have hp:=HP.o;have h2:=U7 ws k _ Hwt.o zsx;rw[Hws.o]at h2;rw[JU,<-hp];show Option.map _ (wP ((c::R).map (·.data.toList)))=none;rw[h2];rfl
    have hS:∀W,zeJ s W (.returned (.tuple #[.agg #[.string ⟨#[]⟩,.string ⟨#[]⟩,.slice none 0 0],.bool false])):=λW=>⟨_,_,_,_,_,false,rfl,by rw[xu]⟩
    have HS:=ag hS;clear zsx xu hS;go_wp2_with fail;have hzz:(((w3.setCell ⟨w.heap.size,0,none⟩ (.string ⟨#[]⟩)).setCell ⟨w.heap.size,1,none⟩ (.string ⟨#[]⟩)).setCell ⟨w.heap.size,2,none⟩ (.slice none 0 0))=w3:=by have h1:w3.setCell ⟨w.heap.size,0,none⟩ (.string ⟨#[]⟩)=w3:=wF hz3 rfl;rw[h1,wF hz3 rfl,wF hz3 rfl]
    rw[hzz];refine eF (JB (x:= .agg #[.string ⟨#[]⟩,.string ⟨#[]⟩,.slice none 0 0]) rfl rfl ?_) rfl ⟨HS.o _,K0.qo (K.qo K3)⟩;go_simp
   | true=>
    have zsp:G6 t.data.toList=some n:=by
     have h:=QR.o;cases hn:G6 t.data.toList with
     | none=>rw[hn]at h;cases h
     | some v=>rw[hn]at h;rw[h.1]
    have JM:=K3.heap hXr.o id;obtain⟨pv,cv,Qi⟩:=yJ hO.o;subst Qi;have x2:w3.cell? ⟨X,2,none⟩=some (.slice pv k cv):=by rw[aO _ _ _ _ _ (0,0) JM];rfl
    have hO3:=hO.o.qm K3 (λ_ _ x=>x);have hs3:w1.heap.size<=w3.heap.size:=(K.qo K3).size;obtain⟨ii,hii,hzi,hsi,Rw⟩:=zpP;have hkm:k<=1000001:=by
     have h1:=SL 32 s.data.toList;have h2:m=(pieces 32 s.data.toList).length:=by rw[<-HP.o,aP];exact Hm.o
     have h3:s.data.toList.count 32<=s.data.toList.length:=pz;have h4:s.data.toList.length=s.size:=rfl;omega
    have hfX:∀w4,(w3.alloc (.cells #[.int .i64 n] 3)).grownBy w4 (Value.slice pv k cv).ownBlock->w4.heap[X]? =some (.cells #[.string a,.string b,.slice pv k cv] 45 (0,0)):=by
     intro w4 hg4;rw[hg4.block X (by show X<(w3.heap.push _).size;rw[dW];have:=lt_of_heap JM;omega) (λe=> ?_)]
     ·rw[nJ _ _ _ (lt_of_heap JM)];exact JM
     rcases hO3.2 with⟨hv,_⟩|⟨g,cap,cur,fz,hv,_,hgg,_⟩
     ·rw[hv]at e;cases e
     rw[hv]at e;have e2:X=g:=aU e;subst e2;exact absurd (Nc JM hgg) (by decide)
    have HfX:=ag hfX;have Rz:=ag JM;clear hfX;have zyM:=ag zsp;clear JM zsp;go_wp2_with (at_builtin;refine tC _ rfl _ _ 23 rfl w1.heap.size 3 ii _ 1 8 jE hii hzi hsi Rw rfl (by decide) (.slice pv k cv) k _ rfl (hO3.alloc _) ⟨w3.heap.size,0,none⟩ 1 1 [.int .i64 n] rfl rfl (rJ _ _ _) (by intro u hu;rw[bJ.1 hu];rfl) (by unfold maxLen;omega) (by omega) (by show w1.heap.size<=(w3.heap.push _).size;rw[dW];omega) ?_;intro v4 w4 Ou hg4;have Rx:=HfX.o _ hg4;have y2:w4.cell? ⟨X,2,none⟩=some (.slice pv k cv):=(aO _ _ _ _ _ (0,0) Rx).t rfl;have fX:w4.frozen? ⟨X,2,none⟩=false:=bU Rx 2;obtain⟨p4,c4,hv4⟩:=yJ Ou;subst hv4);have KS:Keep (qJ X) w4 (w4.setCell ⟨X,2,none⟩ (.slice p4 (k+1) c4)):=(ah (qJ X) w4).tK 2 _;have Oz:(w4.setCell ⟨X,2,none⟩ (.slice p4 (k+1) c4)).heap[X]? =some (.cells #[.string a,.string b,.slice p4 (k+1) c4] 45 (0,0)):=by
     have rE:=lt_of_heap Rx;have h':w4.heap[X]= .cells #[.string a,.string b,.slice pv k cv] 45 (0,0):=by simpa [dQ rE]using Rx
     show(w4.heap.modify X _)[X]? =_;rw[dQ (by simpa using rE),fQ,h'];rfl
    have xq:=Ou.qm KS (λg hg hs=>by
     have h1:g=X:=hs;subst h1;rcases Ou.2 with⟨hv,_⟩|⟨g',cap,cur,fz,hv,_,hgg,_⟩
     ·rw[hv]at hg;cases hg
     rw[hv]at hg;obtain rfl:g'=g:=aU hg;exact absurd (Nc Rx hgg) (by decide))
    have K5:ak w1 (w4.setCell ⟨X,2,none⟩ (.slice p4 (k+1) c4)):=(((K.qo K3).alloc _).grown hg4 (λq hq=> .inr (hO3.lt q hq).1)).t KS (λi hi hs=>by have h:i=X:=hs;have:=HX.o;omega);refine⟨⟨k+1,ns++ [n],_,by go_num,by omega,ag ⟨?_,by rw[aN,zY.o.2];rfl⟩,ag Oz,ag ?_,K5⟩,by simp[intOf];omega⟩
    ·have Xf:=(aT.1 Hwt.o)
     rw[aZ Xf.1,Xf.2];exact U6 _ _ _ _ zY.o.1 zyM.o
    rw[show yD (ns++ [n])=yD ns++ [.int .i64 n]by simp[yD]];exact xq
  obtain⟨pv,cv,Qi⟩:=yJ hO.o;subst Qi;have x0:wo.cell? ⟨X,0,none⟩=some (.string a):=by rw[aO _ _ _ _ _ (0,0) hXr.o];rfl
  have x1:wo.cell? ⟨X,1,none⟩=some (.string b):=by rw[aO _ _ _ _ _ (0,0) hXr.o];rfl
  have x2:wo.cell? ⟨X,2,none⟩=some (.slice pv k cv):=by rw[aO _ _ _ _ _ (0,0) hXr.o];rfl
  have hz3:wo.heap[w.heap.size]? =some (.cells #[.string ⟨#[]⟩,.string ⟨#[]⟩,.slice none 0 0] 45 (0,0)):=by rw[<-HZ.o];exact K.heap hz id
  have z0:wo.cell? ⟨w.heap.size,0,none⟩=some (.string ⟨#[]⟩):=by rw[aO _ _ _ _ _ (0,0) hz3];rfl
  have z1:wo.cell? ⟨w.heap.size,1,none⟩=some (.string ⟨#[]⟩):=by rw[aO _ _ _ _ _ (0,0) hz3];rfl
  have z2:wo.cell? ⟨w.heap.size,2,none⟩=some (.slice none 0 0):=by rw[aO _ _ _ _ _ (0,0) hz3];rfl
  have f0:∀i,wo.frozen? ⟨w.heap.size,i,none⟩=false:=λi=>bU hz3 i;have j1:¬((k:Int)<((m-2:Nat):Int)):=by omega
  go_wp2_with fail;have hZX:w.heap.size<w1.heap.size:=by have:=lt_of_heap hz;have:=HZ.o;omega
  have KZ:Keep (qJ w.heap.size) wo (((wo.setCell ⟨w.heap.size,0,none⟩ (.string a)).setCell ⟨w.heap.size,1,none⟩ (.string b)).setCell ⟨w.heap.size,2,none⟩ (.slice pv k cv)):=(((ah (qJ w.heap.size) wo).tK 0 _).tK 1 _).tK 2 _;have hNm:vM wo (.slice pv k cv) ns:=J7 (by rw[zY.o.2];exact hO.o);have zAg:=hNm.qm KZ (λg hg hs=>by have h1:=(hO.o.lt g hg).1;have h2:g=w.heap.size:=hs;omega)
  have hIR:O8 (((wo.setCell ⟨w.heap.size,0,none⟩ (.string a)).setCell ⟨w.heap.size,1,none⟩ (.string b)).setCell ⟨w.heap.size,2,none⟩ (.slice pv k cv)) (.slice pv k cv):=by
   intro g hg;rcases hO.o.2 with⟨hv,_⟩|⟨g',cap,cur,fz,hv,hbg,hgg,_⟩
   ·rw[hv]at hg;cases hg
   rw[hv]at hg;obtain rfl:g'=g:=aU hg;exact⟨by omega,_,_,KZ.heap hgg (λhs=>by have h2:g'=w.heap.size:=hs;omega)⟩
  have xu:JU s.data.toList=some (a,b,ns):=by have h2:=zY.o.1;rw[bg (by rw[Hwl.o];exact Nat.le_of_eq (by omega)),Hws.o]at h2;rw[JU,<-HP.o];show Option.map _ (wP ((c::R).map (·.data.toList)))=_;rw[h2];rfl
  refine eF (JB (x:= .agg #[.string a,.string b,.slice pv k cv]) rfl rfl ?_) rfl ⟨⟨a,b,_,_,_,true,rfl,by rw[xu];exact⟨rfl,rfl,rfl,zAg,hIR⟩⟩,(K0.qo K).t KZ (λi hi hs=>by have h:i=w.heap.size:=hs;omega)⟩;go_simp
end
section
open Go.Lib
def Yu:∀(l:List (List UInt8)) (ns:List Int),wP l=some ns->ns.length=l.length
 | [],ns,h=>by
  obtain rfl: []=ns:=by simpa [wP]using h
  rfl
 | t::l,ns,h=>by
  rw[wP]at h;cases ht:G6 t with
  | none=>rw[ht]at h;cases h
  | some n=>
   rw[ht]at h;cases hl:wP l with
   | none=>rw[hl]at h;cases h
   | some ms=>
    rw[hl]at h;obtain rfl:n::ms=ns:=by simpa using h
    rw[bf,bf,Yu l ms hl]
def zpF{t:List UInt8}{x:sW}(h:JU t=some x):x.2.2.length<=t.length:=by
 have hl:=SL 32 t;have hc:t.count 32<=t.length:=pz;rw[JU]at h;split at h
 ·rename_i a b c r hp;cases hn:wP (c::r)with
  | none=>rw[hn]at h;cases h
  | some ns=>
   rw[hn]at h;have h2:=Yu _ _ hn;have h3:x.2.2=ns:=by rw[<-aU h]
   rw[hp]at hl;simp only[bf]at hl h2;rw[h3,h2];omega
 cases h
def U5:∀(l:List (List UInt8)) (k:Nat) (t:List UInt8),l[k]? =some t->JU t=none->allOnes l=none
 | [],k,t,h,_=>by simp at h
 | x::l,0,t,h,hn=>by
  obtain rfl:x=t:=by simpa using h
  rw[allOnes,hn]
 | x::l,k+1,t,h,hn=>by
  rw[allOnes];cases JU x with
  | none=>rfl
  | some n=>
   have:=U5 l k t (by simpa using h) hn;simp[this]
def U4:∀(l:List (List UInt8)) (t:List UInt8) (ns:List sW) (n:sW),allOnes l=some ns->JU t=some n->allOnes (l++ [t])=some (ns++ [n])
 | [],t,ns,n,h,hn=>by
  obtain rfl: []=ns:=by simpa [allOnes]using h
  simp[allOnes,hn]
 | x::l,t,ns,n,h,hn=>by
  rw[allOnes]at h;rw[fV,allOnes];cases hx:JU x with
  | none=>rw[hx]at h;cases h
  | some v=>
   rw[hx]at h;cases hl:allOnes l with
   | none=>rw[hl]at h;cases h
   | some ms=>
    rw[hl]at h;obtain rfl:v::ms=ns:=by simpa using h
    rw[U4 l t ms n hl hn];rfl
end
def zrH [Inhabited Bd](s:af)(w:ax)(BA:loB<=w.heap.size)(hs:s.size<=1000000)(V:yZ w):
  ae 96 #[.string s] w λe w'=>zeJ s w' e∧ak w w':=by
 by_cases hf:(pieces 32 s.data.toList).length<3
 ·refine(zrG s w hs V hf).m ?_;rintro e w' ⟨rfl,K⟩;have xu:JU s.data.toList=none:=by
   rw[JU]
   match hp:pieces 32 s.data.toList,hf with
   | [],_=>rfl
   | [_],_=>rfl
   | [_,_],_=>rfl
   | _::_::_::_,h=>simp at h;omega
  exact⟨⟨_,_,_,_,_,false,rfl,by rw[xu]⟩,K⟩
 ·exact zpD s w BA hs V (by omega)
section
open Go.Sort Go.Shelf
def zqP(a b:af):(@BEq.beq (List UInt8) (@List.instBEq UInt8 instBEqOfDecidableEq) a.toList b.toList)=decide (a=b):=by
 by_cases h:a=b
 ·rw[bF h,h];exact fF _
 rw[cO h];exact eu.2 λe=>h (toList_inj e)
end
def CO [Inhabited Bd](s:af)(w':ax)(e:Ending):Prop:=match DD s.data.toList with
 | some (d,l)=>∃(v:ay) (L:List qP),e= .returned (.tuple #[.int .i64 d,v,.nilIface])∧L.map qA=l∧zT w' v L∧∀x∈L,O8 w' x.av
 | none=>e= .returned (.tuple #[.int .i64 0,.slice none 0 0,qY 3])
def zmu [Inhabited Bd](s:af)(w:ax)(BA:loB<=w.heap.size)(hs:s.size<=1000000)(V:yZ w):
  ae 42 #[.string s] w λe w'=>CO s w' e∧ak w w':=by
 have hsp:=KH s 10 w hs V;have Hsp:=ag hsp;have HV:=ag V;clear hsp V;go_enter func42,ntmps42;go_wp2_with fail;refine Hsp.o.m ?_;rintro e w1 ⟨P,hP,rfl,uU,K1⟩;have zwW:P≠ []:=λe=>by rw[e]at hP;exact zdp 10 _ hP.s
 obtain⟨hd,R,rfl⟩:∃hd R,P=hd::R:=by
  cases P with
  | nil=>exact absurd rfl zwW
  | cons a R=>exact⟨a,R,rfl⟩
 obtain⟨m,hm⟩:=aj ((hd::R).length);have YB:0<m:=by rw[hm];simp
 obtain⟨N,hN⟩:=aj w.heap.size;rw[<-hm];rw[<-hN]at uU⊢;have cP:∀j t,(hd::R)[j]? =some t->w1.cell? ⟨N,j,none⟩=some (.string t):=λj t ht=>by rw[aO _ _ _ _ _ (0,0) uU,aF,aX,ht];rfl
 have c0:=cP 0 hd rfl;have zsF:VG s.data.toList=hd.data.toList:=by rw[VG,<-hP];rfl
 have zox:MV s.data.toList=(R.map (·.data.toList)).dropLast:=by rw[MV,<-hP];rfl
 have ztC:∀t∈hd::R,t.size<=1000000:=λt ht=>by have h1:=VX 10 s.data.toList t.data.toList (by rw[<-hP];exact bY.2 ⟨t,ht,rfl⟩);have h2:s.data.toList.length=s.size:=rfl;have h3:t.data.toList.length=t.size:=rfl;omega
 have hm6:m<=1000001:=by
  have h1:=SL 10 s.data.toList;have h2:m=(pieces 10 s.data.toList).length:=by rw[<-hP,aP];exact hm
  have h3:s.data.toList.count 10<=s.data.toList.length:=pz;have h4:s.data.toList.length=s.size:=rfl;omega
 have hcut:∀w,ae 94 #[.string hd,.string ⟨#[100,105,109,32]⟩] w λe w'=>e= .returned (.tuple #[.string ⟨(Lib.trimPrefix hd.data.toList Ec).toArray⟩,.bool (Lib.hasPrefix hd.data.toList Ec)])∧w'=w:=λw=>strings_CutPrefix hd ⟨#[100,105,109,32]⟩ w;obtain⟨tp,htp⟩:∃tp:af,tp=⟨(Lib.trimPrefix hd.data.toList Ec).toArray⟩:=⟨_,rfl⟩
 have ziz:tp.data.toList=Lib.trimPrefix hd.data.toList Ec:=by rw[htp]
 have zvT:tp.size<=1000000:=by
  have h1:tp.size=(Lib.trimPrefix hd.data.toList Ec).length:=by rw[<-ziz];rfl
  have h2:(Lib.trimPrefix hd.data.toList Ec).length<=hd.data.toList.length:=by
   unfold Lib.trimPrefix;split
   ·rw[gY];omega
   exact aS _
  have h3:=ztC hd bW;have h4:hd.data.toList.length=hd.size:=rfl;omega
 obtain⟨B,hB⟩:=aj (Lib.hasPrefix hd.data.toList Ec);rw[<-htp,<-hB]at hcut;have FM:=za7 tp w1 zvT (HV.o.qm K1).pow (HV.o.qm K1).Zx;have zqW:=ag hcut;have zef:=ag FM;have zod:=ag zsF;have zoH:=ag zox;have zAM:=ag ztC;have zum:=ag ziz;have HB:=ag hB;have HcP:=ag cP;have Hm:=ag hm;have RY:=ag uU;have HN:=ag hN;clear hcut FM zsF zox ztC ziz hB cP hm uU hP zwW htp Hsp hN;go_wp2_with fail;refine(zqW.o _).m ?_;rintro e w2 ⟨rfl,Gp⟩;subst w2;go_wp2_with fail;refine zef.o.m ?_;rintro e w3 ⟨⟨n,G,rfl,GG⟩,K3⟩;have QR:=ag GG;clear GG;have Dv:∀W,(B=false∨G=false)->CO s W (.returned (.tuple #[.int .i64 0,.slice none 0 0,.iface 34 (.int .i64 3)])):=by
  intro W h;have hp:DD s.data.toList=none:=by
   rw[DD,zod.o,<-HB.o,<-zum.o];rcases h with h|h
   ·rw[h];rfl
   cases B with
   | false=>rfl
   | true=>
    have h2:=QR.o;cases hx:G6 tp.data.toList with
    | none=>rfl
    | some v=>rw[hx]at h2;rw[h2.2]at h;cases h
  rw[CO,hp];rfl
 have Hno:=ag Dv;clear Dv;cases B with
 | false=>
  go_wp2_with fail
  go_ret3
  exact⟨Hno.o _ (.inl (by first|rfl|trivial)),K1.qo K3⟩
 | true=>
  cases G with
  | false=>
   go_wp2_with fail
   go_ret3
   exact⟨Hno.o _ (.inr (by first|rfl|trivial)),K1.qo K3⟩
  | true=>
   obtain⟨M,hM⟩:=aj (max (m-1) 1);have hM1:(max ((m:Int)-1) 1)=(M:Int):=by omega
   have hMw:IntKind.i64.wrap ((m:Int)-1)=(m:Int)-1:=aY _ (by omega);have hMl:M<=m:=by omega
   have hMg:1<=M:=by omega
   have HM:=ag hM;clear hM;go_upto_region 7 with(fail)
   go_cut [43,44,45] (λlv nv iv wx=>∃(pp:Addr),lv= .slice (some pp) (M-1) (m-1)∧Hid (1<m->pp=⟨N,1,none⟩)∧nv= .int .i64 ((M-1:Nat):Int)∧iv= .int .i64 0∧wx=w3)
   ·by_cases zzH:m=1
    ·have zut:=ag zzH;go_wp2_with fail;go_meet
     have hM0:M=1:=by have:=HM.o;have:=zut.o;omega
     exact⟨⟨N,0,none⟩,by rw[hM0,show m-1=0 by have:=zut.o;omega];rfl,ag (λh=>by have:=zut.o;omega),by rw[hM0];rfl,rfl,rfl⟩
    go_wp2_with fail;go_meet
    exact⟨_,rfl,ag (λh=>rfl),rfl,rfl,rfl⟩
   obtain⟨pp,rfl,YQ,rfl,rfl,Yw⟩:=hcut;have zzk:=Yw.s;clear Yw;subst zzk;obtain⟨Q,hQ⟩:=aj (M-1);rw[<-hQ];obtain⟨ws,hws⟩:∃ws:List (List UInt8),ws=R.map (·.data.toList):=⟨_,rfl⟩
   have Hws:=ag hws;have HQ:=ag hQ;have hQ6:Q<=1000001:=by have:=HM.o;omega
   have Lu:=ag K1;have Qm:=ag K3;clear hws hQ K1 K3 hMl hMg hM1 hMw RY;go_wp2_with fail
   go_loopw [10,45] (λlv iv wr=>∃(k:Nat) (L:List qP) (v:ay),iv= .int .i64 k∧v=lv∧k<=Q∧Hid (allOnes (ws.take k)=some (L.map qA)∧L.length=k)∧Hid (qF wr w3.heap.size 45 3 v k (L.flatMap rC))∧Hid (∀x∈L,vM wr x.av x.ns∧O8 wr x.av∧x.ns.length<=1000000)∧ak w3 wr) (λ_ iv _=>Q-(intOf iv).toNat)
   ·exact⟨0,[],_,rfl,rfl,by omega,ag ⟨by rw[dD];rfl,rfl⟩,ag (qF.nil _ _ _ _),ag (λx hx=>by cases hx),ah _ _⟩
   obtain⟨k,L,v,rfl,rfl,hk,hL,hO,hN,K⟩:=hrel;obtain⟨wo,rfl⟩:=aj wr;by_cases rE:k<Q
   ·have k1:(k:Int)<(Q:Int):=by omega
    have h1m:1<m:=by have:=HM.o;have:=HQ.o;omega
    obtain rfl:=YQ.o h1m;have hRl:R.length=m-1:=by have:=Hm.o;simp at this;omega
    obtain⟨t,ht⟩:∃t,R[k]? =some t:=⟨_,aK (by have:=HM.o;have:=HQ.o;omega)⟩
    have ct:wo.cell? ⟨N,1+k,none⟩=some (.string t):=by have h0:=HcP.o (1+k) t (by rw[show 1+k=k+1 by omega];simpa using ht);have h1:=Lib.lt_of_cell h0;exact((Qm.o.qo K).cell (p:=⟨N,1+k,none⟩) h1 id).t h0
    have IE:ws[k]? =some t.data.toList:=by rw[Hws.o,aX,ht];rfl
    have NQ:t.size<=1000000:=zAM.o t (bD _ (bG ht));have xu:=λW (KW:ak wo W)=>zrH t W (bQ BA (((Lu.o.qo Qm.o).qo K).qo KW).size) NQ (HV.o.qm (((Lu.o.qo Qm.o).qo K).qo KW));have zfQ:=ag xu;have Hwt:=ag IE;have Htl:=ag NQ;clear xu IE ht hRl NQ h1m;go_wp2_with fail;refine(zfQ.o _ (ah _ _)).m ?_;rintro e w4 ⟨⟨nm,tg,pa,na,ca,B,rfl,hob⟩,K4⟩;have Hob:=ag hob;clear hob;cases B with
    | false=>
     have hp:DD s.data.toList=none:=by
      have h1:JU t.data.toList=none:=by
       have h:=Hob.o;cases hx:JU t.data.toList with
       | none=>rfl
       | some v=>rw[hx]at h;cases h.1
      have h2:allOnes (MV s.data.toList)=none:=by
       refine U5 _ k t.data.toList ?_ h1;rw[zoH.o,List.getElem?_dropLast,bu ?_]
       ·have:=Hwt.o;rw[Hws.o]at this;exact this
       have:=HM.o;have:=HQ.o;have:=Hm.o;rw[aP];simp at this;omega
      rw[DD,zod.o,<-HB.o,<-zum.o];have h3:=QR.o;cases hx:G6 tp.data.toList with
      | none=>simp
      | some v=>simp[h2]
     have H7:∀W,CO s W (.returned (.tuple #[.int .i64 0,.slice none 0 0,.iface 34 (.int .i64 3)])):=λW=>by rw[CO,hp];rfl
     have zyQ:=ag H7;clear hp H7;go_wp2_with fail
     go_ret3
     exact⟨zyQ.o _,(((Lu.o.qo Qm.o).qo K).qo K4).alloc _⟩
    | true=>
     obtain⟨x,hx⟩:∃x,JU t.data.toList=some x:=by
      have h:=Hob.o;cases hx:JU t.data.toList with
      | none=>rw[hx]at h;cases h
      | some x=>exact⟨x,rfl⟩
     have hob:=Hob.o;rw[hx]at hob;obtain⟨-,rfl,rfl,Bl,Qg⟩:=hob;obtain⟨xn,xt,ns⟩:=x;simp only at Bl;have hxl:ns.length<=1000000:=by have h1:=zpF hx;have h2:=Htl.o;have h3:t.data.toList.length=t.size:=rfl;simp only at h1;omega
     obtain⟨pv,cv,Qi⟩:=yJ hO.o;subst Qi;obtain⟨ii,hii,hzi,hsi,Rw⟩:=Fg;have hO4:=((hO.o.qm K4 (λ_ _ x=>x)).alloc (.cells #[.string xn,.string xt,.slice pa na ca] 45)).alloc (.cells #[.string xn,.string xt,.slice pa na ca] 45);have hs4:w3.heap.size<=w4.heap.size:=(K.qo K4).size;have Hx:=ag hx;have JS:=ag Bl;have Hix:=ag Qg;have Hxl:=ag hxl;have hcn:=rJ (w4.alloc (.cells #[.string xn,.string xt,.slice pa na ca] 45)) [.string xn,.string xt,.slice pa na ca] 45;have uF:(w4.alloc (.cells #[.string xn,.string xt,.slice pa na ca] 45)).heap.size=w4.heap.size+1:=dW _;rw[uF]at hcn;have Hcn:=ag hcn;clear hx Bl Qg hxl zfQ Hob hcn uF;go_wp2_with (at_builtin;refine tC _ rfl _ _ 49 rfl w3.heap.size 45 ii _ 3 56 kK hii hzi hsi Rw rfl (by decide) (.slice pv k cv) k _ rfl hO4 ⟨w4.heap.size+1,0,none⟩ 1 1 [.string xn,.string xt,.slice pa na ca] rfl rfl Hcn.o (Am xn xt pa na ca) (by unfold maxLen;omega) (by omega) (by simp<;>omega) ?_;intro v5 w5 xq hg5);have KV:Keep (λb=>(Value.slice pv k cv).ownBlock=some b) ((w4.alloc (.cells #[.string xn,.string xt,.slice pa na ca] 45)).alloc (.cells #[.string xn,.string xt,.slice pa na ca] 45)) w5:=(ah _ _).grown hg5 (λq hq=> .inl hq);have K45:ak w4 ((w4.alloc (.cells #[.string xn,.string xt,.slice pa na ca] 45)).alloc (.cells #[.string xn,.string xt,.slice pa na ca] 45)):=((ah _ _).alloc _).alloc _;have Xk:ak w3 w5:=((K.qo K4).qo K45).grown hg5 (λq hq=> .inr (hO.o.lt q hq).1);have zsE:∀(u:ay) (l:List Int),vM w4 u l->O8 w4 u->vM w5 u l∧O8 w5 u:=by
      intro u l hn hi;have Bc:∀b,u.ownBlock=some b->¬(Value.slice pv k cv).ownBlock=some b:=by
       intro b hb hv;obtain⟨-,cs,fz,hc⟩:=hi b hb;have Oo:=K45.heap hc id;rcases hO4.2 with⟨hv0,_⟩|⟨g,cap,cur,fz2,hv0,_,hgg,_⟩
       ·rw[hv0]at hv;cases hv
       rw[hv0]at hv;obtain rfl:g=b:=aU hv;exact absurd (Nc Oo hgg) (by decide)
      refine⟨(hn.qm K45 (λ_ _ x=>x)).qm KV Bc,λb hb=> ?_⟩;obtain⟨hlb,cs,fz,hc⟩:=hi b hb;exact⟨hlb,cs,fz,KV.heap (K45.heap hc id) (Bc b hb)⟩
     refine⟨⟨k+1,L++ [⟨xn,xt,.slice pa na ca,ns⟩],_,by go_num,rfl,by omega,ag ⟨?_,by rw[aN,hL.o.2];rfl⟩,ag ?_,ag ?_,Xk⟩,by simp[intOf];omega⟩
     ·have Xf:=(aT.1 Hwt.o)
      rw[aZ Xf.1,Xf.2,dK];exact U4 _ _ _ _ hL.o.1 Hx.o
     ·rw[dU];exact xq
     intro y hy;rcases dX.1 hy with hy|hy
     ·obtain⟨h1,h2,h3⟩:=hN.o y hy;have h4:=zsE y.av y.ns (h1.qm K4 (λ_ _ x=>x)) (λb hb=>by obtain⟨hlb,cs,fz,hc⟩:=h2 b hb;exact⟨hlb,cs,fz,K4.heap hc id⟩);exact⟨h4.1,h4.2,h3⟩
     rw[bJ.1 hy];have h4:=zsE (.slice pa na ca) ns JS.o Hix.o;exact⟨h4.1,h4.2,Hxl.o⟩
   obtain rfl:k=Q:=by omega
   have k1:¬((k:Int)<(k:Int)):=by omega
   obtain⟨pv,cv,Qi⟩:=yJ hO.o;subst Qi;have NS:=hL.o.2;have vz:allOnes (MV s.data.toList)=some (L.map qA):=by
    have h:=hL.o.1;rw[zoH.o];have e:ws.take k=(R.map (·.data.toList)).dropLast:=by
     rw[Hws.o,List.dropLast_eq_take,aP];have h1:=HM.o;have h2:=HQ.o;have h3:=Hm.o;simp only[bf]at h3;by_cases h4:R.length=0
     ·have:R= []:=dV h4
      subst this;simp
     congr 1
     omega
    rw[<-e];exact h
   have hit:zT wo (.slice pv L.length cv) L:=⟨uT.yw zf (by rw[NS];exact hO.o),λx hx=>(hN.o x hx).1⟩
   have Rq:=zdm n (.slice pv L.length cv) L wo hit (by unfold maxLen;omega) (λx hx=>(hN.o x hx).2.2) (HV.o.qm ((Lu.o.qo Qm.o).qo K)).pow;rw[NS]at Rq;obtain⟨PS,hPS⟩:=aj (Js n L);rw[<-hPS]at Rq;have zow:∀d,G6 tp.data.toList=some d->DD s.data.toList=if uZ d (L.map qA)=true∧xW d (L.map qA)=s.data.toList then some (d,L.map qA)else none:=by intro d hd;rw[DD,zod.o,<-HB.o,<-zum.o,hd,vz];simp
   have hd:G6 tp.data.toList=some n:=by
    have h3:=QR.o;cases hx:G6 tp.data.toList with
    | none=>rw[hx]at h3;cases h3
    | some v=>rw[hx]at h3;rw[h3.1]
   have zfF:=zow n hd;have zlB:=ag zfF;have HPS:=ag hPS;have Hpr:=ag Rq;have Hlk:=ag NS;have Hit:=ag hit;clear zfF hPS Rq zow hd vz NS hit;by_cases zN:uZ n (L.map qA)=true
   ·have hE:H9 n L= .nilIface:=by rw[H9,bu zN]
    have Rq:=Hpr.o;rw[hE]at Rq;have zlA:=ag Rq;have Xn:=ag zN;clear Rq Hpr hE zN;by_cases IY:PS=s
    ·have hb:(@BEq.beq (List UInt8) (@List.instBEq UInt8 instBEqOfDecidableEq) PS.toList s.toList)=true:=by rw[zqP,bF IY]
     have zyP:=ag IY;clear IY;go_wp2_with fail;refine zlA.o.m ?_;rintro e w6 ⟨rfl,K6⟩;go_wp2_with fail
     go_ret3
     refine⟨?_,(((Lu.o.qo Qm.o).qo K).qo K6)⟩;have YQ:xW n (L.map qA)=s.data.toList:=by have h1:=HPS.o;rw[Js,bu Xn.o,zyP.o]at h1;rw[h1]
     rw[CO,zlB.o,bu ⟨Xn.o,YQ⟩];refine⟨_,L,rfl,rfl,?_⟩;rw[<-Hlk.o];exact⟨⟨Hit.o.rows.qm K6 (λ_ _ x=>x),λx hx=>(Hit.o.yK x hx).qm K6 (λ_ _ x=>x)⟩,λx hx b hb=>by obtain⟨hlb,cs,fz,hc⟩:=(hN.o x hx).2.1 b hb;exact⟨hlb,cs,fz,K6.heap hc id⟩⟩
    have hb:(@BEq.beq (List UInt8) (@List.instBEq UInt8 instBEqOfDecidableEq) PS.toList s.toList)=false:=by rw[zqP,cO IY]
    have hnp:DD s.data.toList=none:=by rw[zlB.o,aV];rintro⟨_,h⟩;have h1:=HPS.o;rw[Js,bu Xn.o,h]at h1;exact IY h1
    have Hnp:=ag hnp;clear IY hnp;go_wp2_with fail;refine zlA.o.m ?_;rintro e w6 ⟨rfl,K6⟩;go_wp2_with fail
    go_ret3
    exact⟨by rw[CO,Hnp.o];rfl,(((Lu.o.qo Qm.o).qo K).qo K6)⟩
   have hE:H9 n L= .iface 34 (.int .i64 1):=by rw[H9,aV zN];rfl
   have hnp:DD s.data.toList=none:=by rw[zlB.o,aV];rintro⟨h,_⟩;exact zN h
   have Hnp:=ag hnp;have Rq:=Hpr.o;rw[hE]at Rq;have zlA:=ag Rq;clear Rq Hpr hE zN hnp;go_wp2_with fail;refine zlA.o.m ?_;rintro e w6 ⟨rfl,K6⟩;go_wp2_with fail
   go_ret3
   exact⟨by rw[CO,Hnp.o];rfl,(((Lu.o.qo Qm.o).qo K).qo K6)⟩
section
open Go.Sort Go.Shelf
def Qu(n lo hi:Int)(w:ax):ae 45 #[.int .i64 n,.int .i64 lo,.int .i64 hi] w λe w'=>e= .returned (.bool (decide (lo<=n)&&decide (n<=hi)))∧w'=w:=by
 by_cases h1:lo<=n
 ·have d1:decide (lo<=n)=true:=by simp[h1]
  rw[d1,jG];obtain⟨B,hB⟩:=aj (decide (n<=hi));rw[<-hB];have Ry:=hB.s;clear hB;go_enter func45,ntmps45;go_wp2;go_ret;exact⟨by simp[Ry],rfl⟩
 have h2:decide (lo<=n)=false:=by simp;omega
 rw[h2,iH];clear h1;go_enter func45,ntmps45;go_wp2;go_ret;exact⟨rfl,rfl⟩
def zbv(v:ay)(l:List Int)(w:ax)(N:vM w v l)(hl:l.length<=1000000):ae 104 #[v] w λe w'=>e= .returned (.bool (!l.any CY))∧w'=w:=by
 obtain⟨p,c,rfl⟩:=N.len;obtain⟨n,hn⟩:=aj l.length;rw[<-hn]at N hl⊢;have Hn:=ag hn;have HN:=ag N;clear hn N;go_enter func104,ntmps104;go_wp2_with fail
 go_loopw [7] (λiv wr=>∃i:Nat,i<=n∧iv= .int .i64 i∧Hid (∀j,j<i->CY (l.getD j 0)=false)∧wr=w) (λiv _=>n-(intOf iv).toNat)
 ·exact⟨0,by omega,rfl,ag (λj h=>by omega),rfl⟩
 obtain⟨i,hi,rfl,Dv,rfl⟩:=hrel;by_cases rE:i<n
 ·have i1:(i:Int)<n:=by omega
  obtain⟨b,o,rfl,-,hb,hc⟩:=HN.o.at (by have:=Hn.o;omega);have ci:=hc i (by have:=Hn.o;omega);obtain⟨x,hx⟩:=aj (l.getD i 0);rw[<-hx]at ci;have Hx:=ag hx;have yh:=λw=>Qu x (-1000) 1000 w;obtain⟨B,hB⟩:=aj ((decide (-1000<=x)&&decide (x<=1000)));rw[<-hB]at yh;have hBf:CY x= !B:=by rw[hB,CY];by_cases h1: -1000<=x<;>by_cases h2:x<=1000<;>simp[h1,h2]<;>omega
  have EJ:=ag yh;have HBf:=ag hBf;clear hc hx hB hBf yh;cases B with
  | true=>
   go_wp2_with fail;refine(EJ.o _).m ?_;rintro e w1 ⟨rfl,rfl⟩;go_wp2_with fail;refine⟨⟨i+1,by omega,by go_num,ag (λj hj=> ?_),by first|rfl|trivial⟩,by simp[intOf];omega⟩;by_cases e:j=i
   ·rw[e,<-Hx.o,HBf.o];rfl
   exact Dv.o j (by omega)
  | false=>
   go_wp2_with fail;refine(EJ.o _).m ?_;rintro e w1 ⟨rfl,rfl⟩;go_wp2_with fail;go_ret;refine⟨?_,rfl⟩
   have:l.any CY=true:=jm.2 ⟨x,by rw[Hx.o,aG,aK (by have:=Hn.o;omega)];exact fO _,by rw[HBf.o];rfl⟩
   rw[this];rfl
 obtain rfl:i=n:=by omega
 go_wp2_with fail;go_ret;refine⟨?_,rfl⟩
 have:l.any CY=false:=by
  rw[jT];intro x hx;obtain⟨j,hj,rfl⟩:=iG hx;have:=Dv.o j (by rw[Hn.o];exact hj);rw[aG,aK hj]at this
  simpa using this
 rw[this];rfl
def UM(qE:Int)(v:ay)(l:List Int)(k:Int)(w:ax)(N:vM w v l)(hl:l.length<=1000000):ae 75 #[.int .i64 qE,v,.int .i64 k] w λe w'=>e= .returned (.bool (EI qE l k))∧w'=w:=by
 have hc:=zbv v l w N hl;have yh:=λw=>Qu k 1 60 w;obtain⟨a,c,rfl⟩:=N.len;by_cases hd:(l.length:Int)=qE
 ·have FK:((l.length:Int)==qE)=true:=by simpa using hd
  cases hb:l.any CY with
  | true=>
   have hr:EI qE l k=false:=by simp[EI,hb]
   rw[hr];rw[hb]at hc;have Hd:=ag hd;clear hd hb hr;go_enter func75,ntmps75;go_wp2_with fail;refine hc.m ?_;rintro e w' ⟨rfl,hw⟩;subst w';go_wp2_with fail;go_ret;exact⟨rfl,rfl⟩
  | false=>
   have hr:EI qE l k=(decide (1<=k)&&decide (k<=60)):=by simp[EI,hb,hd]
   rw[hr];rw[hb]at hc;obtain⟨B,hB⟩:=aj ((decide (1<=k)&&decide (k<=60)));rw[<-hB]at yh⊢;have Hd:=ag hd;clear hd hb hr hB;go_enter func75,ntmps75;go_wp2_with fail;refine hc.m ?_;rintro e w' ⟨rfl,hw⟩;subst w';go_wp2_with fail;refine(yh _).m ?_;rintro e w' ⟨rfl,hw⟩;subst w';go_wp2_with fail;go_ret;exact⟨rfl,rfl⟩
 have hr:EI qE l k=false:=by simp[EI,hd]
 rw[hr];have FK:((l.length:Int)==qE)=false:=by simpa using hd
 clear hd hr hc;go_enter func75,ntmps75;go_wp2_with fail;go_ret;exact⟨rfl,rfl⟩
def zj7(va vb:ay)(a b:List Int)(w:ax)(A:vM w va a)(B:vM w vb b)(ha:a.length<=1000000)(hb:b.length<=1000000):
  ae 76 #[va,vb] w λe w'=>e= .returned (.int .i64 (TF a b))∧∃q,w'=w.drewN q:=by
 obtain⟨pa,ca,rfl⟩:=A.len;obtain⟨pb,cb,rfl⟩:=B.len;obtain⟨na,hna⟩:=aj a.length;obtain⟨nb,GG⟩:=aj b.length;rw[<-hna]at A ha;rw[<-GG]at B hb;rw[<-hna,<-GG];have Hna:=ag hna;have QR:=ag GG;have HA:=ag A;have HB:=ag B;clear hna GG A B;go_enter func76,ntmps76;go_wp2_with fail
 go_loopw [5,10] (λnv iv wr=>∃i:Nat,i<=na∧iv= .int .i64 i∧nv= .int .i64 (Jp a b i)∧∃q,wr=w.drewN q) (λ_ iv _=>na-(intOf iv).toNat)
 case atStart=>exact⟨0,by omega,rfl,by rw[WC],0,rfl⟩
 case round=>
  obtain⟨i,hi,rfl,rfl,q,rfl⟩:=hrel;by_cases rE:i<na
  ·have i1:(i:Int)<na:=by omega
   by_cases hltb:i<nb
   ·have i2:(i:Int)<nb:=by omega
    obtain⟨bA,oA,rfl,-,hbA,Xh⟩:=HA.o.at (by have:=Hna.o;omega);obtain⟨bB,oB,rfl,-,hbB,hcB⟩:=HB.o.at (by have:=QR.o;omega);have cA:=Xh i (by have:=Hna.o;omega);have cB:=hcB i (by have:=QR.o;omega);have hs:=La a b i (by have:=Hna.o;omega) (by have:=QR.o;omega);obtain⟨x,hx⟩:=aj (a.getD i 0);obtain⟨y,hy⟩:=aj (b.getD i 0);obtain⟨f,hf⟩:=aj (Jp a b i);rw[<-hx]at cA hs;rw[<-hy]at cB hs;rw[<-hf]at hs⊢;have Hs:=ag hs;clear Xh hcB hx hy hf hs;go_wp2_with fail
    go_quiet (fail)
    go_wp2_with fail;exact⟨⟨i+1,by omega,by go_num,by rw[Hs.o];rfl,_,rfl⟩,by simp[intOf];omega⟩
   have i2:¬((i:Int)<nb):=by omega
   have e1:Jp a b (i+1)=Jp a b i:=by rw[J9 a b (i+1) (by have:=QR.o;omega),J9 a b i (by have:=QR.o;omega)]
   have E1:=ag e1;clear e1;go_wp2_with fail;exact⟨⟨i+1,by omega,by go_num,by rw[E1.o],_,rfl⟩,by simp[intOf];omega⟩
  obtain rfl:i=na:=by omega
  have e1:=J9 a b i (by have:=Hna.o;omega);have E1:=ag e1;clear e1;go_wp2_with fail;go_ret;exact⟨by first|rfl|(rw[E1.o];rfl),_,rfl⟩
def E8(x y:sJ):Bool:=decide (x.2<y.2)||(decide (x.2=y.2)&&Op.bytesLess x.1.toList y.1.toList)
def zby(x y:sJ):E8 x y=true↔ltF x y:=by
 simp only[E8,ltF,fA,bI,aW];rw[<-zhd,zec];constructor
 ·rintro(h|⟨h1,h2⟩)
  ·exact .inl h
  exact .inr ⟨h1,by rw[bu h2];decide⟩
 rintro(h|⟨h1,h2⟩)
 ·exact .inl h
 refine .inr ⟨h1,?_⟩;split at h2
 ·assumption
 split at h2<;>omega
def zm5(x y:sJ)(w:ax):ae 77 #[.agg (xw x).toArray,.agg (xw y).toArray] w λe w'=>e= .returned (.bool (E8 x y))∧ak w w':=by
 obtain⟨xn,xd⟩:=x;obtain⟨yn,yd⟩:=y;have K:ak w ((w.alloc (.cells #[.string xn,.int .i64 xd] 146)).alloc (.cells #[.string yn,.int .i64 yd] 146)):=((ah _ _).alloc _).alloc _;by_cases h1:xd<yd
 ·have hr:E8 (xn,xd) (yn,yd)=true:=by simp[E8,h1]
  rw[hr];clear hr;show Calls _ _ #[.agg #[.string xn,.int .i64 xd],.agg #[.string yn,.int .i64 yd]] _ _;go_enter func77,ntmps77;go_wp2_with fail;go_ret;exact⟨rfl,K⟩
 by_cases h2:xd=yd
 ·subst h2;obtain⟨B,hB⟩:=aj (Op.bytesLess xn.toList yn.toList);have hr:E8 (xn,xd) (yn,xd)=B:=by rw[hB];simp[E8]
  rw[hr];have Ry:=hB.s;clear hr hB;show Calls _ _ #[.agg #[.string xn,.int .i64 xd],.agg #[.string yn,.int .i64 xd]] _ _;go_enter func77,ntmps77;go_wp2_with fail;go_ret;exact⟨by simp[Ry],K⟩
 have hr:E8 (xn,xd) (yn,yd)=false:=by simp[E8,h1,h2]
 have h3:(xd==yd)=false:=by simpa using h2
 rw[hr];clear hr;show Calls _ _ #[.agg #[.string xn,.int .i64 xd],.agg #[.string yn,.int .i64 yd]] _ _;go_enter func77,ntmps77;go_wp2_with fail;go_ret;exact⟨rfl,K⟩
end
section
open Go.Lib
abbrev ztl(c:UInt8):Prop:=97<=c.toNat∧c.toNat<=122
def zbh(c:UInt8):0<=indexByte Ii.data.toList c↔ztl c:=by
 have key:∀i:Fin 256,(0<=indexByte Ii.data.toList (UInt8.ofNat i.val)↔ztl (UInt8.ofNat i.val)):=by decide+kernel
 have:=key ⟨c.toNat,c.toNat_lt⟩
 rwa [oN]at this
def zm4(h:Ju c):Ib.data.toList.contains c=true:=by
 have key:∀i:Fin 256,Ju (UInt8.ofNat i.val)->Ib.data.toList.contains (UInt8.ofNat i.val)=true:=by decide+kernel
 have:=key ⟨c.toNat,c.toNat_lt⟩;rw[oN]at this;exact this h
def zha(p:UInt8->Bool):∀l:List UInt8,(∀c∈l,p c=true)->l.dropWhile p= []
 | [],_=>rfl
 | b::l,h=>by rw[pO,bu (h b bW)];exact zha p l λc hc=>h c (bD _ hc)
def zo2{l:List UInt8}(h:∀c∈l,Ju c):trimS l Ib.data.toList= []:=by unfold trimS trimLeftS trimRightS;rw[zha _ l.reverse (λc hc=>zm4 (h c (mg.1 hc)))];rfl
def chB(i:Nat)(c:UInt8):Prop:=ztl c∨(i≠0∧48<=c.toNat∧c.toNat<=57)
def Wi(s:af):zF s=true↔1<=s.size∧s.size<=10∧∀(i:Nat) (h:i<s.size),chB i s[i]:=by
 have NU:∀(i:Nat) (h:i<s.size),s[i]=s.data.toList[i]'h:=λi h=>rfl;have hhd:∀h:0<s.size,s.data.toList.headD 0=s[0]:=λh=>by rw[NU 0 h];rw[List.headD_eq_head?_getD,List.head?_eq_getElem?,aK (show 0<s.data.toList.length from h)];rfl
 have Bc:s≠⟨#[]⟩↔1<=s.size:=by
  constructor
  ·intro h;rcases lq s.size with h0|h0
   ·exact absurd (jk (Array.eq_empty_of_size_eq_zero h0)) h
   exact h0
  rintro h rfl;exact absurd h (by decide)
 constructor
 ·intro h;have hm:=zan h;simp only[zF,bI,aW]at h;obtain⟨⟨⟨h1,h2⟩,h3⟩,h4⟩:=h;have h1:=Bc.1 h1;refine⟨h1,h2,λi hi=> ?_⟩;by_cases h0:i=0
  ·subst h0;rw[hhd hi,zbh]at h3;exact .inl h3
  have:=hm s[i] (by rw[NU i hi];exact fO _);rcases this with h5|h5
  ·exact .inl h5
  exact .inr ⟨h0,h5⟩
 rintro⟨h1,h2,h3⟩;simp only[zF,bI,aW];refine⟨⟨⟨Bc.2 h1,h2⟩,?_⟩,zo2 λc hc=> ?_⟩
 ·rw[hhd h1,zbh];rcases h3 0 h1 with h|h
  ·exact h
  exact absurd rfl h.1
 obtain⟨i,hi,rfl⟩:=iG hc;rcases h3 i hi with h|h
 ·exact .inl h
 exact .inr h.2
end
def zdt(s:af)(hs:s.size<=1000000)(w:ax):ae 103 #[.string s] w λe w'=>e= .returned (.bool (zF s))∧w'=w:=by
 have yh:=λw=>Qu s.size 1 10 w;obtain⟨B,hB⟩:=aj ((decide (1<=(s.size:Int))&&decide ((s.size:Int)<=10)));rw[<-hB]at yh;have EJ:=ag yh;have HB:=ag hB;obtain⟨R,hR⟩:=aj (zF s);rw[<-hR];have HR:=ag hR;clear hB yh hR;go_enter func103,ntmps103;go_wp2_with fail
 go_loopw [7] (λiv wr=>∃i:Nat,i<=s.size∧iv= .int .i64 i∧wr=w∧Hid (∀(j:Nat) (h:j<s.size),j<i->chB j s[j])) (λiv _=>s.size-(intOf iv).toNat)
 ·exact⟨0,by omega,rfl,rfl,ag (λj _ h=>absurd h (Nat.not_lt_zero j))⟩
 obtain⟨i,hi,rfl,rfl,hA⟩:=hrel;by_cases rE:i<s.size
 ·have i1:(i:Int)<s.size:=by omega
  have HF:Hid (¬chB i s[i]->R=false):=ag (λh=>by
   rw[HR.o];cases hb:zF s with
   | false=>rfl
   | true=>exact absurd (((Wi s).1 hb).2.2 i rE) h)
  have HN:Hid (chB i s[i]->∀(j:Nat) (h:j<s.size),j<i+1->chB j s[j]):=ag (λh j hj IG=>by
   by_cases e:j=i
   ·subst e;exact h
   exact hA.o j hj (by omega))
  clear hA;have fin:∀(b:Bool),b=false->Ending.returned (.bool b)=Ending.returned (.bool false):=λb h=>by rw[h]
  by_cases a1:(97:Int)<=s[i].toNat
  ·by_cases a2:(s[i].toNat:Int)<=122
   ·go_wp2_with fail;exact⟨⟨i+1,by omega,by go_num,trivial,ag (HN.o (.inl ⟨by omega,by omega⟩))⟩,by simp[intOf];omega⟩
   have Dv:¬chB i s[i]:=by
    rintro(⟨_,h⟩|⟨_,_,h⟩)<;>omega
   have HNo:=ag (HF.o Dv);clear Dv;cases e0:((i:Int)==0)with
   | true=>
    go_wp2_with fail;go_ret;exact⟨(fin _ HNo.o).s,rfl⟩
   | false=>
    have b1:(48:Int)<=s[i].toNat:=by omega
    have b2:¬(s[i].toNat:Int)<=57:=by omega
    go_wp2_with fail;go_ret;exact⟨(fin _ HNo.o).s,rfl⟩
  cases e0:((i:Int)==0)with
  | true=>
   have Dv:¬chB i s[i]:=by
    have e1:(i:Int)=0:=by simpa using e0
    rintro(⟨h,_⟩|⟨h,_,_⟩)<;>omega
   have HNo:=ag (HF.o Dv);clear Dv;go_wp2_with fail;go_ret;exact⟨(fin _ HNo.o).s,rfl⟩
  | false=>
   have HE:Hid (i≠0):=ag (by rintro rfl;simp at e0);by_cases b1:(48:Int)<=s[i].toNat
   ·by_cases b2:(s[i].toNat:Int)<=57
    ·go_wp2_with fail;exact⟨⟨i+1,by omega,by go_num,trivial,ag (HN.o (.inr ⟨HE.o,by omega,by omega⟩))⟩,by simp[intOf];omega⟩
    have Dv:¬chB i s[i]:=by
     rintro(⟨_,h⟩|⟨_,_,h⟩)<;>omega
    have HNo:=ag (HF.o Dv);clear Dv;go_wp2_with fail;go_ret;exact⟨(fin _ HNo.o).s,rfl⟩
   have Dv:¬chB i s[i]:=by
    rintro(⟨h,_⟩|⟨_,h,_⟩)<;>omega
   have HNo:=ag (HF.o Dv);clear Dv;go_wp2_with fail;go_ret;exact⟨(fin _ HNo.o).s,rfl⟩
 obtain rfl:i=s.size:=by omega
 have hRB:R=B:=by
  rw[HR.o,HB.o];cases hb:zF s with
  | true=>
   have h:=(Wi s).1 hb;rw[bF (by omega),bF (by omega)];rfl
  | false=>
   by_cases h1:1<=(s.size:Int)
   ·by_cases h2:(s.size:Int)<=10
    ·have:=(Wi s).2 ⟨by omega,by omega,λj h=>hA.o j h h⟩;rw[hb]at this;cases this
    rw[cO h2,Bool.and_false]
   rw[cO h1,iH]
 subst hRB;clear hA;go_wp2_with fail;refine(EJ.o _).m ?_;rintro e w' ⟨rfl,hw⟩;subst w';go_wp2_with fail;go_ret;exact⟨rfl,rfl⟩
def zaP(x:qP)(qE:Int)(w:ax)(N:vM w x.av x.ns)(hl:x.ns.length<=1000000)(h1:x.name.size<=1000000)(h2:x.tag.size<=1000000):
  ae 49 #[.agg (rC x).toArray,.int .i64 qE] w λe w'=>e= .returned (.bool (uJ (qA x) qE))∧ak w w':=by
 have OC:=λw=>zdt x.name h1 w;have Dw:=λw=>zdt x.tag h2 w;have yh:=λw=>Qu qE 1 8 w;have hco:=λ(w':ax) (K:ak w w')=>zbv x.av x.ns w' (N.qm K (λ_ _ x=>x)) hl;obtain⟨p,c,hv⟩:=N.len;obtain⟨n,hn⟩:=aj x.ns.length;obtain⟨N1,hN1⟩:=aj (zF x.name);obtain⟨N2,hN2⟩:=aj (zF x.tag);obtain⟨B,hB⟩:=aj ((decide (1<=qE)&&decide (qE<=8)));obtain⟨C,hC⟩:=aj (!x.ns.any CY);obtain⟨T,hT⟩:=aj (decide (x.tag=(⟨#[]⟩:af)));obtain⟨D,hD⟩:=aj (decide ((n:Int)=qE));have hr:uJ (qA x) qE=(N1&&(T||N2)&&B&&D&&C):=by rw[hN1,hN2,hB,hC,hT,hD,hn,<-Bool.and_assoc];rfl
 have ht:x.tag.toList.isEmpty=T:=by
  rw[hT];by_cases h:x.tag=⟨#[]⟩
  ·rw[bF h,h,dI];rfl
  rw[cO h];cases h2:x.tag.toList with
  | nil=>exact absurd (toList_inj (by rw[h2,dI])) h
  | cons a l=>rfl
 have hd:((n:Int)==qE)=D:=by
  rw[hD];by_cases h:(n:Int)=qE
  ·rw[bF h];exact jZ.2 h
  rw[cO h];exact eu.2 h
 rw[hr,show(rC x).toArray= #[.string x.name,.string x.tag,.slice p n c]by rw[rC,hv,hn]];rw[<-hN1]at OC;rw[<-hN2]at Dw;rw[<-hB]at yh;rw[hv,<-hn]at hco;simp only[<-hC]at hco;have HI:=ag yh;have H1:=ag OC;have H2:=ag Dw;have HC:=ag hco;obtain⟨nm,F8⟩:=aj x.name;obtain⟨tg,Zl⟩:=aj x.tag;rw[<-F8]at H1⊢;rw[<-Zl]at H2 ht⊢;have K0:ak w (w.alloc (.cells #[.string nm,.string tg,.slice p n c] 45)):=(ah _ _).alloc _;clear yh OC Dw hco hB hC hN1 hN2 hT hD hr N hl h1 h2 hv hn F8 Zl;cases N1 with
 | false=>
  clear ht hd;go_enter func49,ntmps49;go_wp2_with fail;refine(H1.o _).m ?_;rintro e w1 ⟨rfl,rfl⟩;go_wp2_with fail;go_ret;exact⟨rfl,K0⟩
 | true=>
  cases T<;>cases N2<;>cases B<;>cases D
  all_goals
   go_enter func49,ntmps49;go_wp2_with fail;refine(H1.o _).m ?_;rintro e w1 ⟨rfl,rfl⟩;go_wp2_with fail
   iterate 3 (try(first|refine(H2.o _).m ?_|refine(HI.o _).m ?_|refine(HC.o _ K0).m ?_);rintro e w1 ⟨rfl,rfl⟩;go_wp2_with fail)
   go_ret;exact⟨rfl,K0⟩
def UQ(qE:Nat)(v:ay)(l:List qP)(w:ax)(I:zT w v l)(zN:uZ qE (l.map qA)=true)(T:CS w):
  ae 57 #[.int .i64 qE,v] w λe w'=>e= .returned (.tuple #[.string ⟨(xW qE (l.map qA)).toArray⟩,.int .i64 0])∧ak w w':=by
 obtain⟨h1,h8,h60,hto⟩:=SI.1 zN;have vz:∀x∈l,uJ (qA x) qE=true:=λx hx=>by have h:=gV.1 hto.1 (qA x);rw[nM]at h;exact h (bY.2 ⟨x,hx,rfl⟩)
 obtain⟨p,c,rfl⟩:=I.rows.len;obtain⟨n,hn⟩:=aj l.length;rw[<-hn]at I h60 hto⊢;have zng:(n:Int)<=60:=by omega
 have yh:∀w,ae 45 #[.int .i64 (qE:Int),.int .i64 1,.int .i64 8] w λe w'=>e= .returned (.bool true)∧w'=w:=λw=>by have h:=Qu (qE:Int) 1 8 w;rw[bF h1,bF h8]at h;exact h
 have L9:=λw1 (K:ak w w1)=>Pq qE (by omega) (by omega) w1 (T.qm K id);obtain⟨dt,hdt⟩:∃dt:af,dt=⟨(Lib.itoa qE).toArray⟩:=⟨_,rfl⟩
 rw[<-hdt]at L9;have hdl:dt.data.toList=Lib.itoa qE:=by rw[hdt]
 have IQ:dt.size<=5:=by have:=Az qE (by omega);rw[<-hdl]at this;exact this
 have G8:((⟨#[100,105,109,32]⟩:af)++dt).size=dt.size+4:=by rw[dN];show 4+dt.size=_;omega
 have EJ:=ag yh;have ZB:=ag (L9 w (ah _ _));have Hdl:=ag hdl;have HI:=ag I;have HT:=ag T;have Hn:=ag hn;have zeh:=ag vz;have Hto:=ag hto;have Hhl:Hid ((Gv qE).length<=10):=ag (by have:=Az qE (by omega);rw[Gv,aN,aN];show 4+_+1<=10;omega);have Xn:=ag (show 1<=(qE:Int)∧(qE:Int)<=8 from⟨by omega,by omega⟩);clear yh L9 hdl I T hn vz hto hdt zN h1 h8;go_enter func57,ntmps57;go_wp2_with fail;refine(EJ.o _).m ?_;rintro e w1 ⟨rfl,vF⟩;subst w1;go_wp2_with fail;refine ZB.o.m ?_;rintro e w1 ⟨rfl,K1⟩;have hS0:((⟨#[100,105,109,32]⟩:af)++dt++(⟨#[10]⟩:af)).data.toList=Gv qE++((l.take 0).map qA).flatMap Aq:=by rw[eY,eY,dD];simp[Gv,Ec,Hdl.o]
 have HS0:=ag hS0;clear hS0 ZB EJ;go_wp2_with fail
 go_loopw [6,7,25] (λokv sv iv wr=>∃(j:Nat) (S:af),okv= .bool true∧sv= .string S∧iv= .int .i64 j∧j<=n∧Hid (S.data.toList=Gv qE++((l.take j).map qA).flatMap Aq)∧ak w wr) (λ_ _ iv _=>n-(intOf iv).toNat)
 case atStart=>exact⟨0,_,rfl,rfl,rfl,by omega,HS0,K1⟩
 case round=>
  clear HS0 K1 G8;obtain⟨j,S,rfl,rfl,rfl,hj,hS,K⟩:=hrel;obtain⟨wo,rfl⟩:=aj wr;have hSs:S.size<=6100:=by
   have h2:S.size=S.data.toList.length:=rfl;have h3:=zgK (V4 Hto.o hj).1;have h4:((l.take j).map qA).length<=60:=by rw[aP,dJ];omega
   have h5:=Hhl.o;rw[h2,hS.o,aN];omega
  by_cases rE:j<n
  ·have j1:(j:Int)<n:=by omega
   have Ir:=HI.o.rows.qm K (λ_ _ x=>x);obtain⟨pb,off,rfl,-,hpb,uw⟩:=Ir.at (by have:=Hn.o;omega);obtain⟨x,hx⟩:∃x,l[j]? =some x:=⟨_,aK (by have:=Hn.o;omega)⟩
   have ET:=uw j x hx;have Ls:x∈l:=bG hx;have Nx:=(HI.o.yK x Ls).qm K (λ_ _ x=>x);have hit:=zeh.o x Ls;have uF:=SY hit;have hib:=(KU hit).ns;have c0:wo.cell? ⟨pb,off+j*3,none⟩=some (.string x.name):=ET 0 _ rfl;have c1:wo.cell? ⟨pb,off+j*3+1,none⟩=some (.string x.tag):=ET 1 _ rfl;have c2:wo.cell? ⟨pb,off+j*3+2,none⟩=some x.av:=ET 2 _ rfl;obtain⟨px,cx,Qi⟩:=Nx.len;have zvW:x.name.size<=10:=uF.1;have zvV:x.tag.size<=10:=uF.2.1;have QV:=λw' (Kx:ak wo w')=>zaP x qE w' (Nx.qm Kx (λ_ _ x=>x)) (by have h3:x.ns.length<=8:=uF.2.2;omega) (by omega) (by omega);rw[hit,show(rC x).toArray= #[.string x.name,.string x.tag,.slice px x.ns.length cx]by rw[rC,Qi]]at QV;rw[Qi]at c2;obtain⟨nx,Bl⟩:=aj x.ns.length;rw[<-Bl]at QV c2;have zv8:nx<=8:=by rw[Bl];exact uF.2.2
   have zcU:Aq (qA x)=x.name.data.toList++ [32]++x.tag.data.toList++(x.ns.map Lib.itoa).flatMap (λq=>(32:UInt8)::q)++ [10]:=by rw[Aq,DY,qA];simp
   obtain⟨nm,F8⟩:=aj x.name;obtain⟨tg,Zl⟩:=aj x.tag;rw[<-F8,<-Zl]at QV zcU;rw[<-F8]at c0 zvW;rw[<-Zl]at c1 zvV;have zf2:0<j->∃y:qP,y.name.data.toList<nm.data.toList∧∀w',ak wo w'->w'.cell? ⟨pb,off+(j-1)*3,none⟩=some (.string y.name):=λh0=>by
    obtain⟨y,hy⟩:∃y,l[j-1]? =some y:=⟨_,aK (by have:=Hn.o;omega)⟩
    have h9:=((zdq hx).1 (V4 Hto.o (show j+1<=n by omega))).2.2 y h0 hy;rw[<-F8]at h9;exact⟨y,h9,λw' Kx=>(Kx.cell (p:=⟨pb,off+(j-1)*3,none⟩) hpb id).t (uw (j-1) y hy 0 _ rfl)⟩
   have Hri:=ag QV;have zn9:=ag zf2;have zog:=ag zcU;have HNx:=ag Nx;have JS:=ag Bl;have Hx:=ag hx;have Hav:=ag Qi;have Hib:=ag hib;have zzM:(j:Int)-1<n:=by omega
   clear QV zf2 zcU Nx Bl hx Qi ET uw Ls F8 Zl Ir hit uF hib;go_wp2_with fail;obtain⟨wX,hwX⟩:=aj (wo.alloc (.cells #[.string nm,.string tg,.slice px nx cx] 45));obtain⟨X,JR⟩:=aj wo.heap.size;have hX:wX.heap[X]? =some (.cells #[.string nm,.string tg,.slice px nx cx] 45 (0,0)):=by rw[hwX,JR];exact aQ wo _
   have KX:ak wo wX:=by rw[hwX];exact(ah _ _).alloc _
   rw[<-hwX,<-JR];have zfJ:=lt_of_heap hX;have x0:wX.cell? ⟨X,0,none⟩=some (.string nm):=by rw[aO _ _ _ _ _ (0,0) hX];rfl
   have x1:wX.cell? ⟨X,1,none⟩=some (.string tg):=by rw[aO _ _ _ _ _ (0,0) hX];rfl
   have x2:wX.cell? ⟨X,2,none⟩=some (.slice px nx cx):=by rw[aO _ _ _ _ _ (0,0) hX];rfl
   have HX:=ag hX;have HKX:=ag KX;have zee:=ag (λY:Ext wX=>Hri.o (wX.ext Y) (KX.qo (rZ wX Y)));have zzz:pb<wX.heap.size:=dH hpb KX.size;clear hwX JR hX KX Hri c0 c1 c2
   go_cut [6] (λbv wx=>bv= .bool true∧ak wX wx)
   case first=>
    by_cases hj0:j=0
    ·have hje:((j:Int)==0)=true:=by rw[hj0];rfl
     clear hj0;refine rX (by kernel_rfl) (by kernel_rfl) ?_
     repeat((with_reducible refine jK (λK hK=> ?_));go_simp;first|(refine hK _ ?_;clear hK K)|(apply Exists.intro;refine⟨λ_=> ?_,hK _ ?_⟩;(go_at_call 49;exact vw _ (zee.o _));clear hK K))
     refine dP ?_;intro Y;go_wp2_with fail;go_meet
     exact⟨rfl,rZ wX Y⟩
    have hj1:0<j:=by omega
    have IG:(0:Int)<j:=by omega
    have hje:((j:Int)==0)=false:=by rw[eu];omega
    obtain⟨y,hyl,hyk⟩:=zn9.o hj1;have hyc:=hyk wX HKX.o;have vF:IntKind.i64.wrap ((j:Int)-1)=((j-1:Nat):Int):=by rw[aY _ (by omega)];omega
    have hjm:j-1<n:=by omega
    have hS':Op.bytesLess y.name.toList nm.toList=true:=by rw[Qq,dI,dI];exact bF hyl
    obtain⟨yn,hyn⟩:=aj y.name;rw[<-hyn]at hyc hS';clear hyn hyl hyk hj0;refine rX (by kernel_rfl) (by kernel_rfl) ?_
    repeat((with_reducible refine jK (λK hK=> ?_));go_simp;first|(refine hK _ ?_;clear hK K)|(apply Exists.intro;refine⟨λ_=> ?_,hK _ ?_⟩;(go_at_call 49;exact vw _ (zee.o _));clear hK K))
    refine dP ?_;intro Y;go_wp2_with fail;go_meet
    exact⟨rfl,rZ wX Y⟩
   case rest=>
   obtain⟨rfl,K3⟩:=hcut;obtain⟨w3,rfl⟩:=aj wc;have Kw3:ak w w3:=(K.qo HKX.o).qo K3;have hx3:=K3.heap HX.o id;have y0:w3.cell? ⟨X,0,none⟩=some (.string nm):=by rw[aO _ _ _ _ _ (0,0) hx3];rfl
   have y1:w3.cell? ⟨X,1,none⟩=some (.string tg):=by rw[aO _ _ _ _ _ (0,0) hx3];rfl
   have y2:w3.cell? ⟨X,2,none⟩=some (.slice px nx cx):=by rw[aO _ _ _ _ _ (0,0) hx3];rfl
   have Zp:((nm++⟨#[32]⟩:af)).size=nm.size+1:=dN;have Oo:((nm++⟨#[32]⟩++tg:af)).size=nm.size+1+tg.size:=by rw[dN,Zp]
   have hS1:(S++(nm++⟨#[32]⟩++tg)).data.toList=(Gv qE++((l.take j).map qA).flatMap Aq)++(nm.data.toList++ [32]++tg.data.toList)++((x.ns.take 0).map Lib.itoa).flatMap (λq=>(32:UInt8)::q):=by rw[eY,eY,eY,jW,jW,jW,hS.o];simp
   have HS1:=ag hS1;clear hS1 hS hx3 x0 x1 x2;go_wp2_with fail
   go_loopw [7,62] (λsv iv wr=>∃(k:Nat) (S2:af),sv= .string S2∧iv= .int .i64 k∧k<=nx∧Hid (S2.data.toList=(Gv qE++((l.take j).map qA).flatMap Aq)++(nm.data.toList++ [32]++tg.data.toList)++((x.ns.take k).map Lib.itoa).flatMap (λq=>(32:UInt8)::q))∧S2.size<=6200+6*k∧ak w wr) (λ_ iv _=>nx-(intOf iv).toNat)
   ·exact⟨0,_,rfl,rfl,by omega,HS1,by rw[dN,Oo];omega,Kw3⟩
   clear HS1 Kw3 y0 y1 y2 Zp Oo;obtain⟨k,S2,rfl,rfl,hk,QO,hS2s,Kk⟩:=hrel;obtain⟨w5,rfl⟩:=aj wr;by_cases hkn:k<nx
   ·have k1:(k:Int)<nx:=by omega
    have Nk:=(HI.o.yK x (bG Hx.o)).qm Kk (λ_ _ x=>x);rw[Hav.o,<-JS.o]at Nk;obtain⟨bn,on,rfl,-,hbn,hcn⟩:=Nk.at (by have:=JS.o;omega);have cn:=hcn k (by have:=JS.o;omega);obtain⟨y,hy⟩:∃y,x.ns[k]? =some y:=⟨_,aK (by have:=JS.o;omega)⟩
    rw[aG,hy]at cn;have cn':w5.cell? ⟨bn,on+k,none⟩=some (.int .i64 y):=cn;have hyb:=Hib.o y (bG hy);have L9:=Pq y (by omega) (by omega) w5 (HT.o.qm Kk id);obtain⟨it,hit⟩:∃it:af,it=⟨(Lib.itoa y).toArray⟩:=⟨_,rfl⟩
    rw[<-hit]at L9;have zb7:it.data.toList=Lib.itoa y:=by rw[hit]
    have zzR:it.size<=5:=by have:=Az y hyb;rw[<-zb7]at this;exact this
    have htk:(S2++(⟨#[32]⟩++it)).data.toList=(Gv qE++((l.take j).map qA).flatMap Aq)++(nm.data.toList++ [32]++tg.data.toList)++((x.ns.take (k+1)).map Lib.itoa).flatMap (λq=>(32:UInt8)::q):=by
     have hkl:=(aT.1 hy)
     rw[aZ hkl.1,hkl.2,dK,dU,eY,eY,jW,jW,QO.o,zb7];simp
    have ZB:=ag L9;have Htk:=ag htk;have OW:((⟨#[32]⟩:af)++it).size=it.size+1:=by rw[dN];show 1+it.size=_;omega
    clear cn hcn hy L9 hit zb7 htk Nk QO;go_wp2_with fail;refine ZB.o.m ?_;rintro e w6 ⟨rfl,K6⟩;go_wp2_with fail;exact⟨⟨k+1,_,rfl,by go_num,by omega,Htk,by rw[dN,OW];omega,Kk.qo K6⟩,by simp[intOf];omega⟩
   obtain rfl:k=nx:=by omega
   have ZM:(S2++(⟨#[10]⟩:af)).data.toList=Gv qE++((l.take (j+1)).map qA).flatMap Aq:=by
    have Tv:=(aT.1 Hx.o)
    have ht0:x.ns.take k=x.ns:=bg (by have:=JS.o;omega);rw[eY,jW,QO.o,ht0,aZ Tv.1,Tv.2,dK,dU];have h1:(List.map qA [x]).flatMap Aq=Aq (qA x):=by simp
    rw[h1,zog.o];simp
   have zyZ:=ag ZM;clear ZM QO;go_wp2_with fail;exact⟨⟨j+1,_,rfl,rfl,by go_num,by omega,zyZ,Kk⟩,by simp[intOf];omega⟩
  obtain rfl:j=n:=by omega
  have tN:S=⟨(xW qE (l.map qA)).toArray⟩:=by apply jk;apply iR.1;rw[hS.o,bg (by have:=Hn.o;omega)];rfl
  have xM:=ag tN;clear tN hS;go_wp2_with fail
  go_ret2
  exact⟨by rw[xM.o];rfl,K⟩
section
open Go.Sort Go.Shelf
open Go.Proofs (ltOf)
def yU(l:List sJ):Nat->Nat
 | 0=>0
 | i+1=>if E8 (l.getD i (⟨#[]⟩,0)) (l.getD (yU l i) (⟨#[]⟩,0))then i else yU l i
def Uz(l:List sJ):∀i,0<i->i<=l.length->yU l i<i
 | 0,h,_=>by omega
 | i+1,_,h=>by
  rw[yU];split
  ·omega
  rcases lq i with rfl|hi
  ·show 0<1;omega
  have:=Uz l i hi (by omega);omega
def zcE{c:sJ}(h1:¬ltF b a)(h2:¬ltF c b):¬ltF c a:=by
 have e1:(!(ltOf Bz) b a)=true:=by rw[eU,uQ];exact h1
 have e2:(!(ltOf Bz) c b)=true:=by rw[eU,uQ];exact h2
 have:=Wl a b c e1 e2
 rwa [eU,uQ]at this
def Rj(h:ltF a b):¬ltF b a:=by
 intro h2;have e:=Wn a b;rw[fA,eU,eU,uQ,uQ]at e;rcases e with e|e
 ·exact e h2
 exact e h
def WJ(l:List sJ):∀i,i<=l.length->∀j,j<i->¬ltF (l.getD j (⟨#[]⟩,0)) (l.getD (yU l i) (⟨#[]⟩,0))
 | 0,_,j,h=>by omega
 | i+1,hi,j,hj=>by
  rw[yU];by_cases hb:E8 (l.getD i (⟨#[]⟩,0)) (l.getD (yU l i) (⟨#[]⟩,0))=true
  ·rw[bu hb];have rE:=(zby _ _).1 hb;by_cases e:j=i
   ·subst e;exact λh=>Rj h h
   exact zcE (Rj rE) (WJ l i (by omega) j (by omega))
  rw[aV hb];by_cases e:j=i
  ·subst e;exact λh=>hb ((zby _ _).2 h)
  exact WJ l i (by omega) j (by omega)
def Dp(l:List sJ):sJ:=l.getD (yU l l.length) (⟨#[]⟩,0)
def zy(l:List sJ):List sJ:=l.take (yU l l.length)++l.drop (yU l l.length+1)
def zaf(l:List sJ)(h:l≠ []):(Dp l::zy l).Perm l:=by
 have hl:0<l.length:=pM.2 h;have hb:=Uz l l.length hl (aS _);have e:l=l.take (yU l l.length)++Dp l::l.drop (yU l l.length+1):=by have:=(iV (yU l l.length) l).s;rw[jB hb]at this;rw[Dp,aG,aK hb];exact this
 have e2:(Dp l::zy l).Perm (l.take (yU l l.length)++Dp l::l.drop (yU l l.length+1)):=by rw[zy];exact List.perm_middle.s
 rw[<-e]at e2;exact e2
def zpk(l:List sJ)(h:l≠ []):vC l=Dp l::vC (zy l):=by
 rw[Io (zaf l h).s];have hp:List.Pairwise (λa b=>(!(ltOf Bz) b a)=true) (Dp l::vC (zy l)):=by refine dR.2 ⟨λb hb=> ?_,SA _⟩;rw[zmC]at hb;have Zr:b∈l:=(zaf l h).mem_iff.1 (bD _ hb);obtain⟨j,hj,rfl⟩:=iG Zr;have:=WJ l l.length (aS _) j hj;rw[aG,aK hj]at this;rw[eU,uQ];exact this
 have e:vC (Dp l::zy l)=vC (Dp l::vC (zy l)):=Io ((AL _).s.cons _);rw[e];exact zcw hp
def G5(l:List sJ):Nat->List sJ×List sJ
 | 0=>([],l)
 | i+1=>if (G5 l i).2= []then G5 l i else((G5 l i).1++ [Dp (G5 l i).2],zy (G5 l i).2)
def zgH(l:List sJ):∀i,vC l=(G5 l i).1++vC (G5 l i).2
 | 0=>by rw[G5];rfl
 | i+1=>by
  have ih:=zgH l i;rw[G5];split
  ·exact ih
  rename_i h;rw[ih,zpk _ h];simp
def zhy(l:List sJ)(h:l≠ []):(zy l).length+1=l.length:=by
 have:=(zaf l h).length_eq
 simpa using this
end
section
open Go.Sort Go.Shelf
def zri(qE:Int)(v va:ay)(at_:List Int)(k:Int)(tag:af)(w:ax)(N:vM w va at_)(ha:at_.length<=1000000)(hn:EI qE at_ k=false):
  ae 30 #[.int .i64 qE,v,va,.int .i64 k,.string tag] w λe w'=>e= .returned (.tuple #[.slice none 0 0,.int .i64 1])∧w'=w:=by
 have h:=UM qE va at_ k w N ha;rw[hn]at h;go_enter func30,ntmps30;go_wp2_with fail;refine h.m ?_;rintro e w' ⟨rfl,hw⟩;subst w';go_wp2_with fail
 go_ret2
 exact⟨rfl,rfl⟩
def zaw{cap:Nat}{L:List sJ}(h:qF w base 146 2 (.slice (some ⟨g,0,none⟩) n cap) n (L.flatMap xw)){x:sJ}(hx:L[i]? =some x):w.cell? ⟨g,i*2,none⟩=some (.string x.1)∧w.cell? ⟨g,i*2+1,none⟩=some (.int .i64 x.2):=by
 have f:∀t u,(xw x)[t]? =some u->(L.flatMap xw)[i*2+t]? =some u:=λt u hu=>by have ht:t<2:=(aT.1 hu).1;rw[Es xm L i t ht,hx];exact hu
 have y0:=h.cells rfl (i*2+0) _ (f 0 _ rfl);have y1:=h.cells rfl (i*2+1) _ (f 1 _ rfl);have e:∀j,(⟨g,0,none⟩:Addr).add j=⟨g,j,none⟩:=λj=>by unfold Addr.add;split<;>simp_all
 rw[e,iY]at y0;rw[e]at y1;exact⟨y0,y1⟩
def zvq(b i:Nat):(⟨b,0,none⟩:Addr).add i=⟨b,i,none⟩:=by unfold Addr.add;split<;>simp_all
def zdD:∀(L:List sJ) (m:Nat),(L.flatMap xw).drop (m*2)=(L.drop m).flatMap xw
 | [],m=>by simp
 | x::L,0=>by simp
 | x::L,m+1=>by rw[dZ,dA,Nat.succ_mul,oG,<-xm x,List.drop_length_add_append,xm x,zdD L m]
def zi2{size:Nat}(h:qF w base e size v n xs):∃p c,v= .slice p n c:=by
 rcases h.2 with⟨h,hn⟩|⟨_,_,_,_,h,_⟩
 ·exact⟨none,0,by rw[h,hn]⟩
 exact⟨_,_,h⟩
def zze:ay->Nat
 | .slice _ n _=>n
 | _=>0
def zth(a b:ay):Prop:=∀g,a.ownBlock=some g->b.ownBlock≠some g
def zo6(qE:Int)(v:ay)(l:List qP)(va:ay)(at_:List Int)(k:Int)(tag:af)(w:ax)(I:zT w v l)(N:vM w va at_)(hl:l.length<=1000)(ha:at_.length<=1000000)(zY:∀x∈l,x.ns.length<=1000000)(hn:EI qE at_ k=true):
  ae 30 #[.int .i64 qE,v,va,.int .i64 k,.string tag] w λe w'=>∃v',e= .returned (.tuple #[v',.int .i64 0])∧uT w' v' 2 xw (xg l at_ k tag)∧ak w w':=by
 have h:=UM qE va at_ k w N ha;rw[hn]at h;have hk1:1<=k∧k<=60:=by simp only[EI,bI,aW]at hn;omega
 obtain⟨K0,rfl⟩:∃K0:Nat,k=K0:=⟨k.toNat,by omega⟩
 have hK0:1<=K0∧K0<=60:=by omega
 obtain⟨p,c,rfl⟩:=I.rows.len;obtain⟨n,Dw⟩:=aj l.length;rw[<-Dw]at I hl;rw[<-Dw];have Hn:=ag Dw;have HI:=ag I;have HN:=ag N;have Hns:=ag zY;have Hh:=ag h;obtain⟨i0,zM,Ba,Vg,Vd⟩:=Td;clear Dw I N zY h hn hk1;go_enter func30,ntmps30;go_wp2_with fail;refine Hh.o.m ?_;rintro e w' ⟨rfl,hw⟩;subst w';go_wp2_with fail
 go_loopw [13,25] (λov i wr=>∃(j:Nat) (o:ay),j<=n∧i= .int .i64 j∧o=ov∧Hid (qF wr w.heap.size 146 2 o (uo (l.take j) at_ tag).length ((uo (l.take j) at_ tag).flatMap xw))∧ak w wr) (λ_ i _=>n-(intOf i).toNat)
 case atStart=>exact⟨0,_,by omega,rfl,rfl,ag (qF.nil _ _ _ _),ah _ _⟩
 case round=>
  obtain⟨j,o,hj,rfl,rfl,O,K⟩:=hrel;by_cases rE:j<n
  ·have j1:(j:Int)<n:=by omega
   have Ir:=HI.o.rows.qm K (λ_ _ x=>x);obtain⟨b,off,rfl,-,hb,uw⟩:=Ir.at (by have:=Hn.o;omega);obtain⟨x,hx⟩:∃x,l[j]? =some x:=⟨_,aK (by have:=Hn.o;omega)⟩
   have ET:=uw j x hx;have Ls:x∈l:=bG hx;have Nx:=(HI.o.yK x Ls).qm K (λ_ _ x=>x);have hxl:=Hns.o x Ls;have hsu:=Yg l at_ tag j x hx;have hfl:=Nv (l.take j) at_ tag;rw[dJ]at hfl;have Jo:=λw3 (K3:ak wr w3)=>zj7 _ va x.ns at_ w3 (Nx.qm K3 (λ_ _ x=>x)) (HN.o.qm (K.qo K3) (λ_ _ x=>x)) hxl ha;have c0:wr.cell? ⟨b,off+j*3,none⟩=some (.string x.name):=ET 0 _ rfl;have c1:wr.cell? ⟨b,off+j*3+1,none⟩=some (.string x.tag):=ET 1 _ rfl;have c2:wr.cell? ⟨b,off+j*3+2,none⟩=some x.av:=ET 2 _ rfl;obtain⟨nl,CV⟩:=aj x.ns.length;obtain⟨pa,ca,Qi⟩:=Nx.len;rw[Qi]at c2 Jo;rw[<-CV]at c2 Jo;obtain⟨nm,F8⟩:=aj x.name;obtain⟨tg,Zl⟩:=aj x.tag;obtain⟨fd,hfd⟩:=aj (TF x.ns at_);rw[<-F8]at c0;rw[<-Zl]at c1;rw[<-hfd]at Jo;have znA:=ag Jo;have Xm:=ag hsu;have Hfl:=ag hfl;have hfv:ZW at_ x=(nm,fd):=by rw[F8,hfd];rfl
   have htb:Vo tag x=(decide (tag=⟨#[]⟩)||decide (tg=tag)):=by rw[Zl];rfl
   have Hfv:=ag hfv;have Htb:=ag htb;obtain⟨m,hm⟩:=aj ((uo (l.take j) at_ tag).length);have hmj:m<=j:=by omega
   have O2:=O.o;rw[<-hm]at O2;have HO2:=ag O2;have Hm:=ag hm;clear uw hsu hx Ls ET hfl Jo hfv htb CV Qi F8 Zl hfd Nx Ir O O2 hm hxl;have hKx:ak wr (wr.alloc (.cells #[.string nm,.string tg,.slice pa nl ca] 45)):=(ah _ _).alloc _;have zsq:Vo tag x=false->(uo (l.take (j+1)) at_ tag)=uo (l.take j) at_ tag:=λh=>by rw[Xm.o,h];simp
   have Dz:Vo tag x=true->(uo (l.take (j+1)) at_ tag)=uo (l.take j) at_ tag++ [(nm,fd)]:=λh=>by rw[Xm.o,h,Hfv.o];simp
   have zyN:=ag zsq;have zA9:=ag Dz;clear zsq Dz;have hKs:=K.size;have zsH:=λq=>znA.o ((wr.alloc (.cells #[.string nm,.string tg,.slice pa nl ca] 45)).drewN q) (hKx.drewN q);have zy0:=ag zsH;clear zsH;by_cases hT:Vo tag x=true
   ·have Dz:=zA9.o hT;have zgb:tag.toList.isEmpty=true∨(tag.toList.isEmpty=false∧(@BEq.beq (List UInt8) (@List.instBEq UInt8 instBEqOfDecidableEq) tag.toList tg.toList)=true):=by
     cases he:tag.toList.isEmpty with
     | true=>exact .inl rfl
     | false=>
      refine .inr ⟨rfl,?_⟩;rw[Htb.o,fA,aW,aW]at hT;rcases hT with h|h
      ·rw[h,dI]at he;cases he
      rw[h];exact fF _
    have HE:=ag Dz;clear hT Dz;rcases zgb with ht1|⟨ht1,ht2⟩
    all_goals
     go_wp2_with fail;refine yG 8 [0,1,3,5] (by kernel_rfl) (by kernel_rfl) (λc a d v w h=>by cases d<;>exact h) ?_;rw[show H8 8 [0,1,3,5]= [2,4,6,7]from rfl];simp only[qC,aF,aH,aI,dA,dF]
     iterate 4 ((with_reducible refine xy (λK hK=> ?_));go_simp;refine hK _ ?_;clear hK K)
     with_reducible refine yf ?_
     iterate 4 ((with_reducible refine jK (λK hK=> ?_));go_simp;first|(refine hK _ ?_;clear hK K)|(apply Exists.intro;refine⟨λ_=> ?_,hK _ ?_⟩;(go_at_call 76;exact kY (zy0.o _));clear hK K))
     refine dP ?_;intro q;have hW1:qF ((wr.alloc (.cells #[.string nm,.string tg,.slice pa nl ca] 45)).drewN q) w.heap.size 146 2 o m _:=(HO2.o.alloc _).drewN q;have hK1:ak w ((wr.alloc (.cells #[.string nm,.string tg,.slice pa nl ca] 45)).drewN q):=(K.alloc _).drewN q;refine qQ (λw1=>qF w1 w.heap.size 146 2 o m ((uo (l.take j) at_ tag).flatMap xw)∧ak w w1) ⟨hW1,hK1⟩ ?_;rintro w1 ⟨hO1,hK⟩;clear hW1 hK1;go_wp2_with (at_builtin;refine tC _ rfl _ _ 73 rfl w.heap.size 146 i0 _ 2 24 mV zM Ba Vg Vd rfl (by decide) o _ _ rfl (hO1.alloc _) ⟨w1.heap.size,0,none⟩ 1 1 [.string nm,.int .i64 fd] rfl rfl (rJ _ _ _) (Kq (nm,fd)) (by unfold maxLen;omega) (by omega) (by have:=hK.size;simp;omega) ?_;intro v' w' II xh);have hK5:ak w w':=((hK.alloc (.cells #[.string nm,.int .i64 fd] 146)).grown xh (λk hk=> .inr (hO1.lt k hk).1))
     refine⟨⟨j+1,_,by omega,by go_num,rfl,ag ?_,hK5⟩,by simp[intOf];omega⟩;rw[HE.o,aN,dU,<-Hm.o];exact II
   have hT':Vo tag x=false:=by simpa using hT
   have HE:=ag (zyN.o hT');have Dv:=hT';rw[Htb.o,kD,gq,gq]at Dv;have ht1:tag.toList.isEmpty=false:=by
    cases he:tag.toList.isEmpty with
    | false=>rfl
    | true=>
     exfalso;exact Dv.1 (toList_inj (by rw[List.isEmpty_iff.1 he,dI]))
   have ht2:(@BEq.beq (List UInt8) (@List.instBEq UInt8 instBEqOfDecidableEq) tag.toList tg.toList)=false:=by rw[eu];intro h;exact Dv.2 (toList_inj h).s
   clear hT hT' Dv;go_wp2_with fail;refine⟨⟨j+1,_,by omega,by go_num,rfl,ag ?_,K.alloc _⟩,by simp[intOf];omega⟩;rw[HE.o,<-Hm.o];exact HO2.o.alloc _
  obtain rfl:j=n:=by omega
  have hO:=O.o;have hN:List.take j l=l:=bg (by rw[<-Hn.o];exact aS _);rw[hN]at hO;obtain⟨F,hF⟩:=aj (uo l at_ tag);have hFl:F.length<=1000:=by have:=Nv l at_ tag;rw[hF];have:=Hn.o;omega
  rw[<-hF]at hO;have HF:=ag hF;have HO:=ag hO;clear hF hO hN O;go_wp2_with fail
  go_loopw [12,13] (λov av wr=>∃(i:Nat) (o a:ay),i<=K0∧o=ov∧a=av∧Hid ((G5 F i).1.length=i∧(G5 F i).1.length+(G5 F i).2.length=F.length)∧Hid (qF wr w.heap.size 146 2 o i ((G5 F i).1.flatMap xw))∧Hid (qF wr w.heap.size 146 2 a (G5 F i).2.length ((G5 F i).2.flatMap xw))∧Hid (zth o a)∧ak w wr) (λ_ av _=>zze av)
  ·exact⟨0,_,_,by omega,rfl,rfl,ag ⟨rfl,by rw[G5];simp⟩,ag (qF.nil _ _ _ _),ag (by rw[G5];exact HO.o),ag (λg h=>by cases h),K⟩
  clear K HO;obtain⟨i,o,a,hi,rfl,rfl,YS,hO,hA,Xj,K⟩:=hrel;obtain⟨wq,rfl⟩:=aj wr;obtain⟨L,hL⟩:=aj ((G5 F i).2);obtain⟨O,hOe⟩:=aj ((G5 F i).1);rw[<-hL]at YS hA;rw[<-hOe]at YS hO;have HL:=ag hL;have HOe:=ag hOe;obtain⟨po,co,ho⟩:=zi2 hO.o;obtain⟨pa,ca,ha2⟩:=zi2 hA.o;obtain⟨nl,CV⟩:=aj L.length;rw[<-CV]at ha2 hA;subst ho ha2;have Ot:=ag CV;have hnl1000:nl<=1000:=by have:=YS.o.2;omega
  clear hL hOe CV;by_cases hgo:i<K0∧0<nl
  ·have h1:(i:Int)<K0:=by omega
   have h2:(0:Int)<nl:=by omega
   have hgo1:=hgo.1;have zwp:=hgo.2;clear hgo;obtain⟨g,cap,hv,-,-⟩:=hA.o.some (by have:=Ot.o;omega);cases hv;go_wp2_with fail
   go_loopw [16,59] (λbv tv wx=>∃t:Nat,t<=nl∧tv= .int .i64 t∧bv= .int .i64 (yU L t)∧ak wq wx) (λ_ tv _=>nl-(intOf tv).toNat)
   ·exact⟨0,by omega,rfl,rfl,ah _ _⟩
   obtain⟨t,ht,rfl,rfl,Kx⟩:=hrel;by_cases NQ:t<nl
   ·have t1:(t:Int)<nl:=by omega
    have hb:yU L t<nl:=by
     rcases lq t with rfl|h0
     ·exact zwp
     have:=Uz L t h0 (by rw[<-Ot.o];omega);omega
    have b1:((yU L t:Nat):Int)<nl:=by omega
    obtain⟨x,hx⟩:∃x,L[t]? =some x:=⟨_,aK (by rw[<-Ot.o];exact NQ)⟩
    obtain⟨y,hy⟩:∃y,L[yU L t]? =some y:=⟨_,aK (by rw[<-Ot.o];exact hb)⟩
    have hAx:=hA.o.qm Kx (λ_ _ x=>x);obtain⟨x0,x1⟩:=zaw hAx hx;obtain⟨y0,y1⟩:=zaw hAx hy;have zkp:yU L (t+1)=if E8 x y then t else yU L t:=by rw[yU,aG,aG,hx,hy];rfl
    have hah:=λw=>zm5 x y w;obtain⟨B,hB⟩:=aj (E8 x y);rw[<-hB]at hah zkp;obtain⟨bk,Vb⟩:=aj (yU L t);rw[<-Vb]at hb b1 y0 y1 zkp⊢;obtain⟨xn,xd⟩:=x;obtain⟨yn,yd⟩:=y;simp only at x0 x1 y0 y1;have Hah:Hid (∀w,ae 77 #[.agg #[.string xn,.int .i64 xd],.agg #[.string yn,.int .i64 yd]] w (au (.bool B) w)):=ag hah;have ztb:=ag zkp;clear hah hB zkp Vb hx hy hAx;go_wp2_with fail
    go_region_with (go_at_call 77;refine(Hah.o _).m ?_;rintro e w2 ⟨rfl,K2⟩)
    all_goals
     have Kn:ak wq w2:=Kx.qo (((ah qw _).drewN 1).qo K2);cases B with
     | true=>
      go_wp2_with fail;exact⟨⟨t+1,by omega,by go_num,by rw[ztb.o];rfl,Kn⟩,by simp[intOf];omega⟩
     | false=>
      go_wp2_with fail;exact⟨⟨t+1,by omega,by go_num,by rw[ztb.o];rfl,Kn⟩,by simp[intOf];omega⟩
   obtain rfl:t=nl:=by omega
   have hb:yU L t<t:=Uz L t zwp (by rw[<-Ot.o];exact aS _);have b1:((yU L t:Nat):Int)<t:=by omega
   have OB:=hA.o.qm Kx (λ_ _ x=>x);have hO2:=hO.o.qm Kx (λ_ _ x=>x);have hK2:=K.qo Kx;obtain⟨y,hy⟩:∃y,L[yU L t]? =some y:=⟨_,aK (by rw[<-Ot.o];exact hb)⟩
   obtain⟨y0,y1⟩:=zaw OB hy;have Bl:Dp L=y:=by rw[Dp,<-Ot.o,aG,hy];rfl
   have hrs:zy L=L.take (yU L t)++L.drop (yU L t+1):=by rw[zy,<-Ot.o]
   have zt6:L≠ []:=λe=>by have:=Ot.o;rw[e]at this;simp at this;omega
   have hS1:(G5 F (i+1)).1=O++ [y]∧(G5 F (i+1)).2=zy L:=by rw[G5,<-HL.o,aV zt6,<-HOe.o,Bl];exact⟨rfl,rfl⟩
   have hrl:=zhy L zt6;obtain⟨bk,Vb⟩:=aj (yU L t);rw[<-Vb]at hb b1 y0 y1 hrs⊢;obtain⟨yn,yd⟩:=y;simp only at y0 y1;have hA3:=OB.take (bk) (by omega);have hcapA:t<=ca:=by
    rcases OB.2 with⟨h,_⟩|⟨_,_,_,_,h,_,_,_,hc,_⟩
    ·cases h
    cases h;exact hc
   have HS1:=ag hS1;have Hrl:=ag hrl;have Hrs:=ag hrs;have HA2:=ag OB;have HO2:=ag hO2;have Xo:=ag hK2;have hO20:i<=60:=by omega
   clear OB hO2 hK2 hS1 hrl hrs hy Bl zt6 Vb hA3;have uF:=Xo.o.size;go_wp2_with (at_builtin;refine rY _ rfl _ _ 73 rfl w.heap.size 146 i0 _ 2 24 mV zM Ba Vg Vd rfl (by decide) (.slice po i co) i _ rfl (HO2.o.alloc _) ⟨wr.heap.size,0,none⟩ 1 1 [.string yn,.int .i64 yd] rfl rfl (rJ _ _ _) (Kq (yn,yd)) (by unfold maxLen;omega) (by omega) (by show w.heap.size<=(wr.heap.push _).size;rw[dW];omega) ?_;intro v6 w6 EH hg6 zvM);have Kg:Keep (λb=>(Value.slice po i co).ownBlock=some b) wr w6:=((ah _ _).alloc _).grown hg6 (λk hk=> .inl hk);have hA6:=HA2.o.qm Kg (λb hb hs=>Xj.o b hs hb);have hgl:=(HA2.o.lt g rfl).2;have zwI:∀b,v6.ownBlock=some b->b≠g∧b<w6.heap.size:=λb hb=>by
    refine⟨λe=> ?_,(EH.lt b hb).2⟩;subst e;rcases zvM with h|h
    ·exact Xj.o b (by rw[<-h];exact hb) rfl
    have:=h b hb;have h2:b<(wr.alloc (.cells #[.string yn,.int .i64 yd] 146)).heap.size:=by show b<(wr.heap.push _).size;rw[dW];omega
    omega
   have zsh:qF w6 w.heap.size 146 2 v6 (i+1) ((G5 F (i+1)).1.flatMap xw):=by rw[HS1.o.1,dU];exact EH
   have K6:ak w w6:=Xo.o.t Kg (λb hb hs=>absurd hb (oU.2 (HO2.o.lt b hs).1));have HA6:=ag hA6;have zux:=ag zwI;have H6:=ag zsh;have hs6:=K6.size;have hbk1:bk<=ca:=by omega
   have zz8:bk+1<=t:=by omega
   obtain⟨bn,hbn⟩:=aj (bk+1);have hbkw:IntKind.i64.wrap ((bk:Int)+1)=(bn:Int):=by rw[aY _ (by omega)];omega
   rw[<-hbn]at zz8;have Hbn:=ag hbn;clear hbn;clear EH hg6 zvM zsh hA6 zwI Kg y0 y1 Xo HO2;refine yG 7 [0,1,2,3,4,5,6] (by kernel_rfl) (by kernel_rfl) (λc a d v w h=>by cases d<;>exact h) ?_;rw[show H8 7 [0,1,2,3,4,5,6]= []from rfl];simp only[qC,aF,aH,aI,dA,dF]
   repeat((with_reducible refine xy (λK hK=> ?_));go_simp;refine hK _ ?_;clear hK K)
   with_reducible refine yf ?_;refine dP ?_;intro q;have zwb:(L.flatMap xw).length=t*2:=by rw[J8 xm,Ot.o]
   have hml:bk+(t-bn)=(zy L).length:=by have h1:=Hrl.o;rw[<-Ot.o]at h1;have:=Hbn.o;omega
   have X4:∀(a:Act) (ops:Array Oper) (rest:List Oper) (o:Oper) (Q:Exit->Act->ax->Prop) (pp qq:Operand) (ad:Addr) (cc:Nat),(∀j,ad.add j=⟨g,bn*2+j,none⟩)∨t=bn->o.guard=none->o.op= .call { callee:= .builtin .append,args:= #[pp,qq],argTypes:= #[73,73] }->a.eval pp= .slice (some ⟨g,0,none⟩) bk ca->a.eval qq= .slice (some ad) (t-bn) cc->
     (∀v7 w7,qF w7 w.heap.size 146 2 v7 (zy L).length ((zy L).flatMap xw)->(w6.drewN q).grownBy w7 (some g)->(v7.ownBlock=some g∨∀b,v7.ownBlock=some b->w6.heap.size<=b)->wpList prog ops Q rest (a.put o.dst v7) w7)->wpList prog ops Q (o::rest) a (w6.drewN q):=by
    intro a ops rest o Q pp qq ad cc had h1 h2 h3 h4 h5;refine rY (w:=w6.drewN q) h1 pp qq 73 h2 w.heap.size 146 i0 _ 2 24 mV zM Ba Vg Vd rfl (by decide) _ bk _ h3 ((HA6.o.take bk (by omega)).drewN q) ad (t-bn) cc ((L.flatMap xw).drop (bn*2)) h4 (by rw[gY,zwb,Nat.sub_mul]) (λj u hu=> ?_) (λu hu=>zdE L u (pg hu)) (by unfold maxLen;omega) (by omega) hs6 ?_
    ·rcases had with had|had
     case inr=>
      rw[mJ (by rw[zwb,had];exact aS _)]at hu;simp at hu
     rw[nV]at hu;have h6:=HA6.o.cells rfl _ _ hu;rw[had j];rw[show(⟨g,0,none⟩:Addr).add (bn*2+j)=⟨g,bn*2+j,none⟩from zvq g _]at h6;exact h6
    ·intro v7 w7 h6 h7 h8;rw[hml]at h6;refine h5 v7 w7 ?_ h7 h8;rw[Hrs.o,<-Hbn.o,dU,<-WA xm,<-zdD];rw[Hrs.o,<-Hbn.o]at h6;exact h6
   have HX4:=ag X4;clear X4;refine HX4.o _ _ _ _ _ _ _ (if ca=bn then⟨g,0,none⟩else⟨g,bn*2,none⟩) (ca-bn) ?_ rfl rfl rfl ?_ ?_
   ·by_cases e:ca=bn
    ·exact .inr (by omega)
    left;intro j;rw[aV e];unfold Addr.add;simp
   ·by_cases e:ca=bn
    ·rw[bu e];go_simp
    rw[aV e];go_simp
   intro v7 w7 Dx hg7 zzm;go_wp2_with fail;have K7:Keep (qJ g) w6 w7:=((ah _ _).drewN q).grown hg7 (λk hk=> .inl (by cases hk;rfl));have zuY:=H6.o.qm K7 (λb hb hs=>(zux.o b hb).1 hs);have apn:zth v6 v7:=by
    intro b hb h7;rcases zzm with h|h
    ·rw[h]at h7;cases h7;exact(zux.o _ hb).1 rfl
    have:=h b h7;have:=(zux.o b hb).2;omega
   refine⟨⟨i+1,_,_,by omega,rfl,rfl,ag ⟨by rw[HS1.o.1,aN];have:=YS.o.1;simp;omega,by rw[HS1.o.1,HS1.o.2,aN];have h1:=YS.o;have h2:=Hrl.o;simp only[iF];omega⟩,ag zuY,ag (by rw[HS1.o.2];exact Dx),ag apn,K6.t K7 (λb hb hs=>absurd hb (oU.2 (by have h:b=g:=hs;rw[h];exact(HA6.o.lt g rfl).1)))⟩,?_⟩;obtain⟨p7,c7,hv7⟩:=zi2 Dx;rw[hv7];show(zy L).length<t;have:=Hrl.o;rw[<-Ot.o]at this;omega
  have zlo:uT wq (.slice po i co) 2 xw (xg l at_ K0 tag):=by
   have h0:xg l at_ K0 tag=O:=by
    have hinv:=zgH F i;rw[xg,<-HF.o,hinv,<-HL.o,<-HOe.o];by_cases e:i<K0
    ·have:L= []:=dV (by have:=Ot.o;omega)
     rw[this,QD,dS];exact bg (by have:=YS.o.1;show O.length<=K0;omega)
    have hki:K0=O.length:=by have:=YS.o.1;omega
    show(O++vC L).take K0=O;rw[hki,List.take_left]
   rw[h0];exact uT.yw xm (by rw[YS.o.1];exact hO.o)
  have zxH:=ag zlo;clear zlo;by_cases e:i<K0
  ·have h1:(i:Int)<K0:=by omega
   obtain rfl:nl=0:=by omega
   clear hgo;go_wp2_with fail
   go_ret2
   exact⟨_,rfl,zxH.o,K⟩
  have h1:¬((i:Int)<K0):=by omega
  clear hgo;go_wp2_with fail
  go_ret2
  exact⟨_,rfl,zxH.o,K⟩
end
