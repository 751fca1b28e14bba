import Derived.Test.YtopbkdebihcmcaaGreatDoorYBA
import Derived.Test.YtopbkdebihcmcaaGreatDoorYBC
import Derived.Test.YtopbkdebihcmcaaGreatDoorYBF
import Derived.Shelf.Strings.SlTrimAscii
set_option linter.unusedSimpArgs false
set_option linter.unusedVariables false
namespace Go.Proofs.YtopbkdebihcmcaaGreatDoor
open Go.RowKit
set_option maxRecDepth 100000
set_option maxHeartbeats 16000000
section
open Go.Sort Go.Shelf
def Gx:af:=⟨#[97,98,99,100,101,102,103,104,105,106,107,108,109,110,111,112,113,114,115,116,117,118,119,120,121,122]⟩
def Gm:af:=⟨#[97,98,99,100,101,102,103,104,105,106,107,108,109,110,111,112,113,114,115,116,117,118,119,120,121,122,48,49,50,51,52,53,54,55,56,57]⟩
def nameB(s:af):Bool:=decide (s≠⟨#[]⟩)&&decide (s.size<=10)&&decide (0<=Lib.indexByte Gx.data.toList (s.data.toList.headD 0))&&decide (Lib.trimS s.data.toList Gm.data.toList= [])
theorem name_any(s:af)(w:World):ae 167 #[.string s] w λe w'=>e= .returned (.bool (nameB s))∧Keep nM w w':=by
 by_cases h0:s=⟨#[]⟩
 ·subst h0;go_enter Tryz.func167,Tryz.ntmps167;go_wp2_with fail;go_ret;exact⟨rfl,ah _ _⟩
 have hs0:0<s.size:=by
  rcases mV s.size with h|h
  ·exact absurd (xy (aU ((bs_len s).trans h))) h0
  ·exact h
 have i1:(0:Int)<s.size:=by omega
 have h0':s.toList.isEmpty=false:=by
  cases h:s.toList with
  | nil=>exact absurd (toList_inj (by rw[h,bQ])) h0
  | cons a l=>rfl
 have hn:nameB s=(decide (s.size<=10)&&decide (0<=Lib.indexByte Gx.data.toList (s.data.toList.headD 0))&&decide (Lib.trimS s.data.toList Gm.data.toList= [])):=by rw[nameB,bJ h0,iK]
 rw[hn];clear hn;by_cases h1:s.size<=10
 ·rw[bJ h1,iK];have d1:((s.size:Nat):Int)<=10:=by omega
  have hix:=λw=>Tryz.strings_IndexByte Gx (s[0].toNat:Int) w;have e0:((s[0].toNat:Nat):Int).toNat.toUInt8=s.data.toList.headD 0:=by
   rw[jf]
   have:s.data.toList.headD 0=s[0]:=by
    have h:=hs0;obtain⟨⟨d⟩⟩:=s;cases d with
    | nil=>simp[ByteArray.size]at h
    | cons a l=>rfl
   rw[this];exact UInt8.ofNat_toNat
  rw[e0]at hix;have htr:=λw=>Any.strings_Trim_laid Tryz.lays160 (by kernel_rfl) s Gm w (by omega) (by decide) (ascii_of_all (by decide))
  change∀w,ae 175 _ _ _ at htr
  obtain⟨I,hI⟩:∃I,I=Lib.indexByte Gx.data.toList (s.data.toList.headD 0):=⟨_,rfl⟩
  obtain⟨T,hT⟩:∃T,T=Lib.trimS s.data.toList Gm.data.toList:=⟨_,rfl⟩
  rw[<-hI]at hix⊢;rw[<-hT]at htr⊢;simp only[Gx,Gm]at hix htr;have Hix:=ag hix;have Htr:=ag htr;clear h0 h1 e0 hI hT hix htr;by_cases hI:0<=I
  ·rw[bJ hI,iK];have hT2:(⟨T.toArray⟩:af).toList.isEmpty=decide (T= []):=by
    rw[bQ];cases T<;>simp
   go_enter Tryz.func167,Tryz.ntmps167;go_wp2_with fail;refine(Hix.out _).mono ?_;rintro e w' ⟨rfl,hw⟩;subst w';go_wp2_with fail;refine(Htr.out _).mono ?_;rintro e w' ⟨rfl,hB⟩;go_wp2_with fail;go_ret;exact⟨by simp[hT2];cases T<;>rfl,Keep.vg hB⟩
  ·rw[bV hI,iL];go_enter Tryz.func167,Tryz.ntmps167;go_wp2_with fail;refine(Hix.out _).mono ?_;rintro e w' ⟨rfl,hw⟩;subst w';go_wp2_with fail;go_ret;exact⟨rfl,ah _ _⟩
 ·rw[bV h1,iL,iL];have d1:¬((s.size:Nat):Int)<=10:=by omega
  clear h0 h1;go_enter Tryz.func167,Tryz.ntmps167;go_wp2_with fail;go_ret;exact⟨rfl,ah _ _⟩
def DU(x:oK)(nS:Int):Bool:=nameB x.name&&(decide (x.tag=⟨#[]⟩)||nameB x.tag)&&decide (1<=nS)&&decide (nS<=8)&&decide ((x.ns.length:Int)=nS)&& !x.ns.any BD
theorem zhl(n:Int)(w:World):ae 166 #[.int .i64 n] w λe w'=>e= .returned (.bool (BD n))∧w'=w:=by
 by_cases h:n< -1000
 ·have hb:BD n=true:=by simp[BD,h]
  rw[hb];go_enter Tryz.func166,Tryz.ntmps166;go_wp2_with fail;go_ret;exact⟨rfl,rfl⟩
 ·have hb:BD n=decide (1000<n):=by simp[BD,h]
  rw[hb];have hd:decide (n< -1000)=false:=by simpa using h
  clear h hb;go_enter Tryz.func166,Tryz.ntmps166;go_wp2_with fail;go_ret;exact⟨rfl,rfl⟩
theorem I9(x:oK)(nS:Int)(w:World)(N:Nums w x.av x.ns)(hl:x.ns.length<=1000000):
  ae 122 #[.agg (pO x).toArray,.int .i64 nS] w λe w'=>e= .returned (.bool (DU x nS))∧Keep nM w w':=by
 obtain⟨nm,tg,av,ns⟩:=x;simp only at N hl;obtain⟨p,c,rfl⟩:=N.len;simp only[pO,DU];have hn1:=λw=>name_any nm w;have hn2:=λw=>name_any tg w;have hc:=λ(W:World) (K:Keep nM w W)=>FB 166 BD zhl (enters_of Tryz.func166 (by kernel_rfl) rfl) _ ns W (N.keep K (λ_ _ x=>x)) hl;obtain⟨B1,hB1⟩:∃b,b=nameB nm:=⟨_,rfl⟩
 obtain⟨B2,hB2⟩:∃b,b=nameB tg:=⟨_,rfl⟩
 obtain⟨B3,hB3⟩:∃b,b=ns.any BD:=⟨_,rfl⟩
 have ht:tg.toList.isEmpty=decide (tg=⟨#[]⟩):=by
  by_cases h:tg=⟨#[]⟩
  ·rw[bJ h,h,bQ];rfl
  ·rw[bV h];cases h2:tg.toList with
   | nil=>exact absurd (toList_inj (by rw[h2,bQ])) h
   | cons a l=>rfl
 obtain⟨B4,hB4⟩:∃b,b=decide (tg=(⟨#[]⟩:af)):=⟨_,rfl⟩
 rw[<-hB1]at hn1;rw[<-hB2]at hn2;rw[<-hB3]at hc;rw[<-hB4]at ht;rw[<-hB1,<-hB2,<-hB3,<-hB4];obtain⟨nl,hnl⟩:∃n,n=ns.length:=⟨_,rfl⟩
 rw[<-hnl]at hc⊢;have H1:=ag hn1;have H2:=ag hn2;have HC:=ag hc;have HT:=ag ht;clear hn1 hn2 hc ht hB1 hB2 hB3 hB4 hnl N;have hT:=HT.out;cases B1 with
 | false=>
  simp only[iL];clear hT;go_enter Tryz.func122,Tryz.ntmps122;go_wp2_with fail;refine(H1.out _).mono ?_;rintro e w1 ⟨rfl,K1⟩;go_wp2_with fail;go_ret;exact⟨rfl,((ah nM w).alloc _).nK K1⟩
 | true=>
  have h4:(1<=nS∧nS<=8∧(nl:Int)=nS)∨(¬1<=nS)∨(1<=nS∧¬nS<=8)∨(1<=nS∧nS<=8∧¬(nl:Int)=nS):=by omega
  rcases h4 with⟨d1,d2,d3⟩|d1|⟨d1,d2⟩|⟨d1,d2,d3⟩
  ·have er:(true&&(B4||B2)&&decide (1<=nS)&&decide (nS<=8)&&decide ((nl:Int)=nS)&& !B3)=((B4||B2)&& !B3):=by
    rw[bJ d1,bJ d2,bJ d3];simp
   have e3:((nl:Int)==nS)=true:=by simpa using d3
   rw[er];clear er d3;cases B4 with
   | true=>
    go_enter Tryz.func122,Tryz.ntmps122;go_wp2_with fail;refine(H1.out _).mono ?_;rintro e w1 ⟨rfl,K1⟩;have K1':=((ah nM w).alloc (.cells #[.string nm,.string tg,.slice p nl c] 101)).nK K1;have c1:w1.cell? ⟨w.heap.size,1,none⟩=some (.string tg):=(K1.cell (p:=⟨w.heap.size,1,none⟩) (by simp) (λx=>x)).trans (by rw[aO _ _ _ _ 101 (0,0) (aG w _)];rfl);have c2:w1.cell? ⟨w.heap.size,2,none⟩=some (.slice p nl c):=(K1.cell (p:=⟨w.heap.size,2,none⟩) (by simp) (λx=>x)).trans (by rw[aO _ _ _ _ 101 (0,0) (aG w _)];rfl);have hX1:w.heap.size<w1.heap.size:=by have:=K1.size;simp at this;omega
    go_wp2_with fail;refine(HC.out _ K1').mono ?_;rintro e w5 ⟨rfl,hw⟩;subst w5;go_wp2_with fail;go_ret;exact⟨rfl,K1'⟩
   | false=>
    go_enter Tryz.func122,Tryz.ntmps122;go_wp2_with fail;refine(H1.out _).mono ?_;rintro e w1 ⟨rfl,K1⟩;have K1':=((ah nM w).alloc (.cells #[.string nm,.string tg,.slice p nl c] 101)).nK K1;have c1:w1.cell? ⟨w.heap.size,1,none⟩=some (.string tg):=(K1.cell (p:=⟨w.heap.size,1,none⟩) (by simp) (λx=>x)).trans (by rw[aO _ _ _ _ 101 (0,0) (aG w _)];rfl);have c2:w1.cell? ⟨w.heap.size,2,none⟩=some (.slice p nl c):=(K1.cell (p:=⟨w.heap.size,2,none⟩) (by simp) (λx=>x)).trans (by rw[aO _ _ _ _ 101 (0,0) (aG w _)];rfl);have hX1:w.heap.size<w1.heap.size:=by have:=K1.size;simp at this;omega
    go_wp2_with fail;refine(H2.out _).mono ?_;rintro e w2 ⟨rfl,K2⟩;have Fj:=K1'.nK K2;have c3:w2.cell? ⟨w.heap.size,2,none⟩=some (.slice p nl c):=(K2.cell (p:=⟨w.heap.size,2,none⟩) hX1 (λx=>x)).trans c2;cases B2 with
    | false=>
     go_wp2_with fail;go_ret;exact⟨rfl,Fj⟩
    | true=>
     go_wp2_with fail;refine(HC.out _ Fj).mono ?_;rintro e w5 ⟨rfl,hw⟩;subst w5;go_wp2_with fail;go_ret;exact⟨rfl,Fj⟩
  ·have er:(true&&(B4||B2)&&decide (1<=nS)&&decide (nS<=8)&&decide ((nl:Int)=nS)&& !B3)=false:=by
    rw[bV d1];simp
   rw[er];clear er;cases B4 with
   | true=>
    go_enter Tryz.func122,Tryz.ntmps122;go_wp2_with fail;refine(H1.out _).mono ?_;rintro e w1 ⟨rfl,K1⟩;have K1':=((ah nM w).alloc (.cells #[.string nm,.string tg,.slice p nl c] 101)).nK K1;have c1:w1.cell? ⟨w.heap.size,1,none⟩=some (.string tg):=(K1.cell (p:=⟨w.heap.size,1,none⟩) (by simp) (λx=>x)).trans (by rw[aO _ _ _ _ 101 (0,0) (aG w _)];rfl);have c2:w1.cell? ⟨w.heap.size,2,none⟩=some (.slice p nl c):=(K1.cell (p:=⟨w.heap.size,2,none⟩) (by simp) (λx=>x)).trans (by rw[aO _ _ _ _ 101 (0,0) (aG w _)];rfl);have hX1:w.heap.size<w1.heap.size:=by have:=K1.size;simp at this;omega
    go_wp2_with fail;go_ret;exact⟨rfl,K1'⟩
   | false=>
    go_enter Tryz.func122,Tryz.ntmps122;go_wp2_with fail;refine(H1.out _).mono ?_;rintro e w1 ⟨rfl,K1⟩;have K1':=((ah nM w).alloc (.cells #[.string nm,.string tg,.slice p nl c] 101)).nK K1;have c1:w1.cell? ⟨w.heap.size,1,none⟩=some (.string tg):=(K1.cell (p:=⟨w.heap.size,1,none⟩) (by simp) (λx=>x)).trans (by rw[aO _ _ _ _ 101 (0,0) (aG w _)];rfl);have c2:w1.cell? ⟨w.heap.size,2,none⟩=some (.slice p nl c):=(K1.cell (p:=⟨w.heap.size,2,none⟩) (by simp) (λx=>x)).trans (by rw[aO _ _ _ _ 101 (0,0) (aG w _)];rfl);have hX1:w.heap.size<w1.heap.size:=by have:=K1.size;simp at this;omega
    go_wp2_with fail;refine(H2.out _).mono ?_;rintro e w2 ⟨rfl,K2⟩;have Fj:=K1'.nK K2;have c3:w2.cell? ⟨w.heap.size,2,none⟩=some (.slice p nl c):=(K2.cell (p:=⟨w.heap.size,2,none⟩) hX1 (λx=>x)).trans c2;cases B2 with
    | false=>
     go_wp2_with fail;go_ret;exact⟨rfl,Fj⟩
    | true=>
     go_wp2_with fail;go_ret;exact⟨rfl,Fj⟩
  ·have er:(true&&(B4||B2)&&decide (1<=nS)&&decide (nS<=8)&&decide ((nl:Int)=nS)&& !B3)=false:=by
    rw[bV d2];simp
   rw[er];clear er;cases B4 with
   | true=>
    go_enter Tryz.func122,Tryz.ntmps122;go_wp2_with fail;refine(H1.out _).mono ?_;rintro e w1 ⟨rfl,K1⟩;have K1':=((ah nM w).alloc (.cells #[.string nm,.string tg,.slice p nl c] 101)).nK K1;have c1:w1.cell? ⟨w.heap.size,1,none⟩=some (.string tg):=(K1.cell (p:=⟨w.heap.size,1,none⟩) (by simp) (λx=>x)).trans (by rw[aO _ _ _ _ 101 (0,0) (aG w _)];rfl);have c2:w1.cell? ⟨w.heap.size,2,none⟩=some (.slice p nl c):=(K1.cell (p:=⟨w.heap.size,2,none⟩) (by simp) (λx=>x)).trans (by rw[aO _ _ _ _ 101 (0,0) (aG w _)];rfl);have hX1:w.heap.size<w1.heap.size:=by have:=K1.size;simp at this;omega
    go_wp2_with fail;go_ret;exact⟨rfl,K1'⟩
   | false=>
    go_enter Tryz.func122,Tryz.ntmps122;go_wp2_with fail;refine(H1.out _).mono ?_;rintro e w1 ⟨rfl,K1⟩;have K1':=((ah nM w).alloc (.cells #[.string nm,.string tg,.slice p nl c] 101)).nK K1;have c1:w1.cell? ⟨w.heap.size,1,none⟩=some (.string tg):=(K1.cell (p:=⟨w.heap.size,1,none⟩) (by simp) (λx=>x)).trans (by rw[aO _ _ _ _ 101 (0,0) (aG w _)];rfl);have c2:w1.cell? ⟨w.heap.size,2,none⟩=some (.slice p nl c):=(K1.cell (p:=⟨w.heap.size,2,none⟩) (by simp) (λx=>x)).trans (by rw[aO _ _ _ _ 101 (0,0) (aG w _)];rfl);have hX1:w.heap.size<w1.heap.size:=by have:=K1.size;simp at this;omega
    go_wp2_with fail;refine(H2.out _).mono ?_;rintro e w2 ⟨rfl,K2⟩;have Fj:=K1'.nK K2;have c3:w2.cell? ⟨w.heap.size,2,none⟩=some (.slice p nl c):=(K2.cell (p:=⟨w.heap.size,2,none⟩) hX1 (λx=>x)).trans c2;cases B2 with
    | false=>
     go_wp2_with fail;go_ret;exact⟨rfl,Fj⟩
    | true=>
     go_wp2_with fail;go_ret;exact⟨rfl,Fj⟩
  ·have er:(true&&(B4||B2)&&decide (1<=nS)&&decide (nS<=8)&&decide ((nl:Int)=nS)&& !B3)=false:=by
    rw[bV d3];simp
   have e3:((nl:Int)==nS)=false:=by simpa using d3
   rw[er];clear er d3;cases B4 with
   | true=>
    go_enter Tryz.func122,Tryz.ntmps122;go_wp2_with fail;refine(H1.out _).mono ?_;rintro e w1 ⟨rfl,K1⟩;have K1':=((ah nM w).alloc (.cells #[.string nm,.string tg,.slice p nl c] 101)).nK K1;have c1:w1.cell? ⟨w.heap.size,1,none⟩=some (.string tg):=(K1.cell (p:=⟨w.heap.size,1,none⟩) (by simp) (λx=>x)).trans (by rw[aO _ _ _ _ 101 (0,0) (aG w _)];rfl);have c2:w1.cell? ⟨w.heap.size,2,none⟩=some (.slice p nl c):=(K1.cell (p:=⟨w.heap.size,2,none⟩) (by simp) (λx=>x)).trans (by rw[aO _ _ _ _ 101 (0,0) (aG w _)];rfl);have hX1:w.heap.size<w1.heap.size:=by have:=K1.size;simp at this;omega
    go_wp2_with fail;go_ret;exact⟨rfl,K1'⟩
   | false=>
    go_enter Tryz.func122,Tryz.ntmps122;go_wp2_with fail;refine(H1.out _).mono ?_;rintro e w1 ⟨rfl,K1⟩;have K1':=((ah nM w).alloc (.cells #[.string nm,.string tg,.slice p nl c] 101)).nK K1;have c1:w1.cell? ⟨w.heap.size,1,none⟩=some (.string tg):=(K1.cell (p:=⟨w.heap.size,1,none⟩) (by simp) (λx=>x)).trans (by rw[aO _ _ _ _ 101 (0,0) (aG w _)];rfl);have c2:w1.cell? ⟨w.heap.size,2,none⟩=some (.slice p nl c):=(K1.cell (p:=⟨w.heap.size,2,none⟩) (by simp) (λx=>x)).trans (by rw[aO _ _ _ _ 101 (0,0) (aG w _)];rfl);have hX1:w.heap.size<w1.heap.size:=by have:=K1.size;simp at this;omega
    go_wp2_with fail;refine(H2.out _).mono ?_;rintro e w2 ⟨rfl,K2⟩;have Fj:=K1'.nK K2;have c3:w2.cell? ⟨w.heap.size,2,none⟩=some (.slice p nl c):=(K2.cell (p:=⟨w.heap.size,2,none⟩) hX1 (λx=>x)).trans c2;cases B2 with
    | false=>
     go_wp2_with fail;go_ret;exact⟨rfl,Fj⟩
    | true=>
     go_wp2_with fail;go_ret;exact⟨rfl,Fj⟩
end
section
open Go.Lib
def pieces(c:UInt8):List UInt8->List (List UInt8)
 | []=> [[]]
 | b::l=>if b=c then []::pieces c l else match pieces c l with
  | []=> [[b]]
  | p::r=>(b::p)::r
theorem VG(c:UInt8):∀l,pieces c l≠ []
 | []=>by simp[pieces]
 | b::l=>by
  rw[pieces];split
  ·simp
  ·split<;>simp
theorem I4(c:UInt8):∀l:List UInt8,splitK [c] 0 (count l [c]) l=pieces c l
 | []=>by rw[count_one];rfl
 | b::l=>by
  have ih:=I4 c l;by_cases h:b=c
  ·subst h;have hix:index (b::l) [b]=0:=by rw[index];simp[List.isPrefixOf]
   rw[count_cons_eq,mM,splitK,hix,pieces,aP rfl]
   simpa using ih
  ·have hp:([c]:List UInt8).isPrefixOf (b::l)=false:=by simp[List.isPrefixOf,Ne.symm h]
   have hix:index (b::l) [c]=if index l [c]== -1 then-1 else index l [c]+1:=by rw[index,hp];simp
   rw[count_cons_ne b c l h,pieces,aB h];cases hk:count l [c]with
   | zero=>
    rw[hk,splitK]at ih;rw[splitK,<-ih]
   | succ k=>
    have hm:index l [c]≠-1:=λe=>by rw[count_miss e]at hk;cases hk
    have hge:=index_ge l [c];obtain⟨j,hj⟩:∃j:Nat,index l [c]=j:=⟨(index l [c]).toNat,by omega⟩
    have hix':index (b::l) [c]=((j+1:Nat):Int):=by rw[hix,aB (λe=>hm (jP.1 e)),hj];omega
    rw[hk,splitK,hj,aB (by simp)]at ih;rw[splitK,hix',aB (by simp;omega),<-ih];have e1:((j+1:Nat):Int).toNat+0=j+1:=by omega
    have e2:((j:Nat):Int).toNat+0=j:=by omega
    have e3:((j+1:Nat):Int).toNat+ [c].length=j+1+1:=rfl;have e4:((j:Nat):Int).toNat+ [c].length=j+1:=rfl;rw[e1,e2,e3,e4];rfl
theorem UJ(c:UInt8)(s:af):(splitB ⟨#[c]⟩ 0 (countB s ⟨#[c]⟩) s).map (·.data.toList)=pieces c s.data.toList:=by rw[splitB_data];exact I4 c s.data.toList
theorem pieces_len(c:UInt8)(l:List UInt8):(pieces c l).length=l.count c+1:=by
 induction l with
 | nil=>rfl
 | cons b l ih=>
  rw[pieces];by_cases h:b=c
  ·rw[aP h,aK,ih,h,List.count_cons_self]
  ·rw[aB h,List.count_cons_of_ne (by simpa using h),<-ih];have:=VG c l;split
   ·rename_i e;exact absurd e this
   ·rename_i e;rw[e];rfl
theorem OQ(c:UInt8):∀l:List UInt8,c∉l->pieces c l= [l]
 | [],_=>rfl
 | b::l,h=>by rw[pieces,aB (λe=>h (by rw[e];exact aY)),OQ c l (λe=>h (aQ _ e))]
theorem Jr(c:UInt8)(r:List UInt8):∀p:List UInt8,c∉p->pieces c (p++c::r)=p::pieces c r
 | [],_=>by rw[fK,pieces,aP rfl]
 | b::p,h=>by rw[dI,pieces,aB (λe=>h (by rw[e];exact aY)),Jr c r p (λe=>h (aQ _ e))]
theorem OT(c:UInt8):∀(ls:List (List UInt8)) (r:List UInt8),(∀p∈ls,c∉p)->pieces c (ls.flatMap (λp=>p++ [c])++r)=ls++pieces c r
 | [],r,_=>rfl
 | p::ls,r,h=>by rw[df,bu,bu,List.singleton_append,Jr c _ p (h p aY),OT c ls r (λq hq=>h q (aQ _ hq))];rfl
theorem I5(c:UInt8):∀(ls:List (List UInt8)) (p:List UInt8),c∉p->(∀q∈ls,c∉q)->pieces c (p++ls.flatMap (λq=>c::q))=p::ls
 | [],p,hp,_=>by rw[iY,dJ,OQ c p hp]
 | q::ls,p,hp,h=>by rw[df,dI,Jr c _ p hp,I5 c ls q (h q aY) (λx hx=>h x (aQ _ hx))]
def yU(s:List UInt8):Option Int:=match atoiAll s with
 | .ok v=>if itoa v=s then some v else none
 | _=>none
theorem PH:∀(l r:List UInt8) (a:Nat),decFrom a (l++r)=(decFrom a l).bind λm=>decFrom m r
 | [],r,a=>rfl
 | b::l,r,a=>by
  rw[dI,decFrom,decFrom];cases digitVal b with
  | none=>rfl
  | some d=>exact PH l r _
theorem Pv(d:Nat)(h:d<10):digitVal (UInt8.ofNat (48+d))=some d:=by
 have e:(UInt8.ofNat (48+d)).toNat=48+d:=by rw[UInt8.toNat_ofNat'];omega
 rw[digitVal,e,aP (by omega)]
 congr 1
 omega
theorem Ua:∀(u:Nat),decFrom 0 (decDigits u)=some u:=by
 intro u
 induction u using Nat.strongRecOn with
 | ind u ih=>
  rw[decDigits];split
  ·rename_i h;rw[decFrom,Pv u h];show some (0*10+u)=some u;rw[mO,dM]
  ·rename_i h;rw[PH,ih (u/10) (by omega)];show decFrom (u/10) _=_;rw[decFrom,Pv (u % 10) (by omega)];show some (u/10*10+u % 10)=some u
   congr 1
   omega
theorem JA:∀(u:Nat),∀c∈decDigits u,48<=c.toNat∧c.toNat<=57:=by
 intro u
 induction u using Nat.strongRecOn with
 | ind u ih=>
  intro c hc;have one:∀d,d<10->c=UInt8.ofNat (48+d)->48<=c.toNat∧c.toNat<=57:=by rintro d hd rfl;rw[UInt8.toNat_ofNat'];omega
  rw[decDigits]at hc;split at hc
  ·rename_i h;exact one u h (bD.1 hc)
  ·rename_i h;rcases dG.1 hc with hc|hc
   ·exact ih (u/10) (by omega) c hc
   ·exact one _ (by omega) (bD.1 hc)
theorem Wh(u:Nat):decDigits u≠ []:=by rw[decDigits];split<;>simp
theorem TA(u:Nat)(h:u<10000):(decDigits u).length<=4:=by
 have h1:∀u,u<10->(decDigits u).length=1:=λu h=>by rw[decDigits,dif_pos h];rfl
 have h2:∀u,u<100->(decDigits u).length<=2:=λu h=>by
  by_cases h0:u<10
  ·have:=h1 u h0;omega
  ·rw[decDigits,dif_neg h0,ay,h1 _ (by omega)];simp
 have h3:∀u,u<1000->(decDigits u).length<=3:=λu h=>by
  by_cases h0:u<10
  ·have:=h1 u h0;omega
  ·have:=h2 (u/10) (by omega);rw[decDigits,dif_neg h0,ay];simp;omega
 by_cases h0:u<10
 ·have:=h1 u h0;omega
 ·have:=h3 (u/10) (by omega);rw[decDigits,dif_neg h0,ay];simp;omega
theorem zhb(n:Int):∀c∈itoa n,(48<=c.toNat∧c.toNat<=57)∨c.toNat=45:=by
 intro c hc;unfold itoa at hc;split at hc
 ·rcases bK.1 hc with rfl|hc
  ·exact .inr rfl
  ·exact .inl (JA _ c hc)
 ·exact .inl (JA _ c hc)
theorem xE(n:Int)(h: -10000<n∧n<10000):(itoa n).length<=5:=by
 unfold itoa;split
 ·have:=TA n.natAbs (by omega);simp;omega
 ·have:=TA n.toNat (by omega);omega
theorem zfi(n:Int)(h: -10000<n∧n<10000):atoiAll (itoa n)= .ok n:=by
 have hl:=xE n h;have hd:∀u,decNat (decDigits u)=some u:=λu=>by
  have hne:=Wh u;rw[decNat,Ua];cases hx:decDigits u with
  | nil=>exact absurd hx hne
  | cons a l=>rfl
 have key:atoi (itoa n)=some n:=by
  unfold itoa;by_cases hn:n<0
  ·rw[aP hn,atoi,aP (by rfl),hd];show some (-(n.natAbs:Int))=some n
   congr 1
   omega
  ·rw[aB hn];have hm:=JA n.toNat;have hdd:=hd n.toNat;cases hx:decDigits n.toNat with
   | nil=>exact absurd hx (Wh _)
   | cons a l=>
    rw[hx]at hm hdd;have ha:=hm a aY;rw[atoi,aB (by intro e;have:=jP.1 e;subst this;exact absurd ha.1 (by decide)),aB (by intro e;have:=jP.1 e;subst this;exact absurd ha.1 (by decide)),hdd];show some ((n.toNat:Nat):Int)=some n
    congr 1
    omega
 rw[atoiAll_short _ (by omega),key];rfl
theorem zcR(n:Int)(h: -10000<n∧n<10000):yU (itoa n)=some n:=by rw[yU,zfi n h];show(if itoa n=itoa n then some n else none)=some n;rw[aP rfl]
abbrev Jk(c:UInt8):Prop:=(97<=c.toNat∧c.toNat<=122)∨(48<=c.toNat∧c.toNat<=57)
theorem zhW{c:UInt8}(h:Gm.data.toList.contains c=true):Jk c:=by
 have key:∀i:Fin 256,Gm.data.toList.contains (UInt8.ofNat i.val)=true->Jk (UInt8.ofNat i.val):=by decide+kernel
 have:=key ⟨c.toNat,c.toNat_lt⟩;rw[UInt8.ofNat_toNat]at this;exact this h
theorem drop_nil(p:UInt8->Bool):∀l:List UInt8,l.dropWhile p= []->∀c∈l,p c=true
 | [],_,c,hc=>by cases hc
 | b::l,h,c,hc=>by
  rw[List.dropWhile_cons]at h;split at h
  ·rename_i hb;rcases bK.1 hc with rfl|hc
   ·exact hb
   ·exact drop_nil p l h c hc
  ·cases h
theorem We(p:UInt8->Bool):∀l:List UInt8,l.dropWhile p= []∨∃b r,l.dropWhile p=b::r∧p b=false
 | []=> .inl rfl
 | b::l=>by
  rw[List.dropWhile_cons];split
  ·exact We p l
  ·rename_i hb;exact .inr ⟨b,l,rfl,by simpa using hb⟩
theorem Y9{s:af}(h:nameB s=true):∀c∈s.data.toList,Jk c:=by
 simp only[nameB,aZ,aS]at h;have ht:=h.2;unfold trimS trimLeftS trimRightS at ht;intro c hc;rcases We (Gm.data.toList.contains ·) s.data.toList.reverse with h2|⟨b,r,h2,hb⟩
 ·exact zhW (drop_nil _ _ h2 c (kR.2 hc))
 ·have h3:=drop_nil _ _ ht b (kR.2 (by rw[h2];exact aY));rw[hb]at h3;cases h3
abbrev pR:=af×af×List Int
def nZ(x:oK):pR:=(x.name,x.tag,x.ns)
def qM(x:pR)(nS:Int):Bool:=nameB x.1&&(decide (x.2.1=⟨#[]⟩)||nameB x.2.1)&&decide (1<=nS)&&decide (nS<=8)&&decide ((x.2.2.length:Int)=nS)&& !x.2.2.any BD
theorem zd7(x:oK)(nS:Int):qM (nZ x) nS=DU x nS:=rfl
def bodyT(x:pR):List UInt8:=x.1.data.toList++(x.2.1.data.toList::x.2.2.map itoa).flatMap (λq=>32::q)
def Dc(x:pR):List UInt8:=bodyT x++ [10]
def BF:List UInt8:= [100,105,109,32]
def uT(nS:Int)(l:List pR):List UInt8:=(BF++itoa nS++ [10])++l.flatMap Dc
def uw:List pR->Bool
 | []=>true
 | x::r=>(match r with
  | []=>true
  | y::_=>decide (x.1.data.toList<y.1.data.toList))&&uw r
def qJ(nS:Int)(l:List pR):Bool:=decide (1<=nS)&&decide (nS<=8)&&decide (l.length<=60)&&l.all (qM · nS)&&uw l
def rY:List (List UInt8)->Option (List Int)
 | []=>some []
 | t::r=>match yU t with
  | none=>none
  | some n=>(rY r).map (n:: ·)
def DL(t:List UInt8):Option pR:=match pieces 32 t with
 | a::b::c::r=>(rY (c::r)).map λns=>(⟨a.toArray⟩,⟨b.toArray⟩,ns)
 | _=>none
def allOnes:List (List UInt8)->Option (List pR)
 | []=>some []
 | t::r=>match DL t with
  | none=>none
  | some x=>(allOnes r).map (x:: ·)
def EH(s:List UInt8):List (List UInt8):=(pieces 10 s).tail.dropLast
def Nl(s:List UInt8):List UInt8:=(pieces 10 s).headD []
def x8(s:List UInt8):Option (Int×List pR):=
 if hasPrefix (Nl s) BF then
  match yU (trimPrefix (Nl s) BF)with
  | none=>none
  | some nS=>match allOnes (EH s)with
   | none=>none
   | some l=>if qJ nS l=true∧uT nS l=s then some (nS,l)else none
 else none
theorem OV{s:List UInt8}{nS:Int}{l:List pR}(h:x8 s=some (nS,l)):qJ nS l=true∧uT nS l=s:=by
 unfold x8 at h;split at h
 ·split at h
  ·cases h
  ·split at h
   ·cases h
   ·split at h
    ·rename_i e;simp only[eU,iE]at h;rw[h.1,h.2]at e;exact e
    ·cases h
 ·cases h
theorem TE:∀ns:List Int,(∀n∈ns,-10000<n∧n<10000)->rY (ns.map itoa)=some ns
 | [],_=>rfl
 | n::ns,h=>by rw[bF,rY,zcR n (h n aY),TE ns (λm hm=>h m (aQ _ hm))];rfl
theorem V6{ns:List Int}(h:ns.any BD=false):∀n∈ns,-10000<n∧n<10000:=by intro n hn;rw[je]at h;have:=h n hn;simp only[BD,dP,aS,not_or]at this;omega
structure Jl(x:pR):Prop where
 name:∀c∈x.1.data.toList,Jk c
 tag:∀c∈x.2.1.data.toList,Jk c
 ns:∀n∈x.2.2,-10000<n∧n<10000
 some:x.2.2≠ []
theorem D6{x:pR}{nS:Int}(h:qM x nS=true):Jl x:=by
 simp only[qM,aZ,dP,aS,eY]at h;obtain⟨⟨⟨⟨⟨h1,h2⟩,h3⟩,h4⟩,h5⟩,h6⟩:=h;refine⟨Y9 h1,?_,V6 h6,λe=>by rw[e]at h5;simp at h5;omega⟩;rcases h2 with h2|h2
 ·rw[h2];intro c hc;cases hc
 ·exact Y9 h2
theorem Xi{c:UInt8}(n:Int)(hc:c.toNat=10∨c.toNat=32):c∉itoa n:=by intro h;have:=zhb n c h;omega
theorem KU{c:UInt8}{l:List UInt8}(h:∀c∈l,Jk c)(hc:c.toNat=10∨c.toNat=32):c∉l:=by intro hm;have:=h c hm;unfold Jk at this;omega
theorem zaF{x:pR}(h:Jl x):pieces 32 (bodyT x)=x.1.data.toList::x.2.1.data.toList::x.2.2.map itoa:=by
 rw[bodyT,I5 32 _ _ (KU h.name (.inr rfl))];intro q hq;rcases bK.1 hq with rfl|hq
 ·exact KU h.tag (.inr rfl)
 ·obtain⟨n,_,rfl⟩:=bf.1 hq;exact Xi n (.inr rfl)
theorem zjj{x:pR}(h:Jl x):(10:UInt8)∉bodyT x:=by
 rw[bodyT,dG,not_or];refine⟨KU h.name (.inl rfl),λhm=> ?_⟩;obtain⟨q,hq,hm⟩:=kQ.1 hm;rcases bK.1 hm with e|hm
 ·exact absurd e (by decide)
 rcases bK.1 hq with rfl|hq
 ·exact KU h.tag (.inl rfl) hm
 ·obtain⟨n,_,rfl⟩:=bf.1 hq;exact Xi n (.inl rfl) hm
theorem zg1{x:pR}(h:Jl x):DL (bodyT x)=some x:=by
 rw[DL,zaF h];cases hns:x.2.2 with
 | nil=>exact absurd hns h.some
 | cons n ns=>
  rw[bF];show Option.map _ (rY ((n::ns).map itoa))=_;rw[<-hns,TE x.2.2 h.ns];rfl
theorem O4:∀l:List pR,(∀x∈l,Jl x)->allOnes (l.map bodyT)=some l
 | [],_=>rfl
 | x::l,h=>by rw[bF,allOnes,zg1 (h x aY),O4 l (λy hy=>h y (aQ _ hy))];rfl
theorem zlO(nS:Int):(10:UInt8)∉BF++itoa nS:=by rw[dG,not_or];exact⟨by decide,Xi nS (.inl rfl)⟩
theorem LG{nS:Int}{l:List pR}(h:∀x∈l,Jl x):pieces 10 (uT nS l)=(BF++itoa nS)::(l.map bodyT++ [[]]):=by
 have e:uT nS l=(((BF++itoa nS)::l.map bodyT).flatMap λp=>p++ [10])++ []:=by rw[dJ,df,List.flatMap_map];rfl
 rw[e,OT 10 _ _ ?_]
 ·rfl
 ·intro p hp;rcases bK.1 hp with rfl|hp
  ·exact zlO nS
  ·obtain⟨x,hx,rfl⟩:=bf.1 hp;exact zjj (h x hx)
theorem OU{nS:Int}{l:List pR}(h:qJ nS l=true):x8 (uT nS l)=some (nS,l):=by
 have h0:=h;simp only[qJ,aZ,aS]at h;obtain⟨⟨⟨⟨h1,h2⟩,h3⟩,h4⟩,h5⟩:=h;have hok:∀x∈l,Jl x:=λx hx=>D6 (gQ.1 h4 x hx);have hh:Nl (uT nS l)=BF++itoa nS:=by rw[Nl,LG hok];rfl
 have hl:EH (uT nS l)=l.map bodyT:=by rw[EH,LG hok,List.tail_cons,List.dropLast_append_of_ne_nil (by simp)];simp
 have hp:hasPrefix (BF++itoa nS) BF=true:=by simp[hasPrefix,BF]
 have ht:trimPrefix (BF++itoa nS) BF=itoa nS:=by unfold trimPrefix;rw[hp];simp[BF]
 rw[x8,hh,hp,aP rfl,ht,zcR nS (by omega)];simp only[hl,O4 l hok];exact aP ⟨h0,trivial⟩
theorem OL:∀(l:List pR) (k:Nat),uw l=true->uw (l.take k)=true
 | [],k,_=>by rw[List.take_nil];rfl
 | x::r,0,_=>rfl
 | [x],k+1,h=>by rw[bY,List.take_nil];rfl
 | x::y::r,k+1,h=>by
  rw[uw,aZ]at h;have ih:=OL (y::r) k h.2;cases k with
  | zero=>rfl
  | succ k=>
   rw[bY]at ih;rw[bY,bY,uw,aZ];exact⟨h.1,ih⟩
end
section
open Go.Sort Go.Shelf
open Go.Proofs (ltOf)
def yT(l:List Int):Prop:=∀n∈l,-1000<=n∧n<=1000
theorem xH{l:List Int}(h:yT l)(k:Nat): -1000<=l.getD k 0∧l.getD k 0<=1000:=by
 rw[ax];cases e:l[k]? with
 | none=>simp
 | some n=>exact h n (bg e)
def sqd(x y:Int):Int:=(x-y)*(x-y)
theorem Ri{d:Int}{B:Nat}(h1: -(B:Int)<=d)(h2:d<=B):0<=d*d∧d*d<=(B:Int)*B:=by
 constructor
 ·rcases Int.le_total 0 d with h|h
  ·exact Int.mul_nonneg h h
  ·have:=Int.mul_nonneg (show 0≤-d by omega) (show 0≤-d by omega)
   rwa [Int.neg_mul_neg]at this
 ·rcases Int.le_total 0 d with h|h
  ·exact mY h2 h2 h (by omega)
  ·have:=mY (show-d<=B by omega) (show-d<=B by omega) (show 0≤-d by omega) (by omega)
   rwa [Int.neg_mul_neg]at this
theorem Tt(n x y:Int)(hn:0<=n)(hn2:n<=1000000000000)(hx: -1000<=x∧x<=1000)(hy: -1000<=y∧y<=1000):BH n x y=n+sqd x y∧0<=sqd x y∧sqd x y<=4000000:=by
 have hd:wrap64 (x-y)=x-y:=by unfold wrap64;omega
 have hb:=Ri (d:=x-y) (B:=2000) (by omega) (by omega);refine⟨?_,hb⟩;unfold BH;rw[hd];have hs:wrap64 ((x-y)*(x-y))=(x-y)*(x-y):=by
  obtain⟨q,hq⟩:∃q,q=(x-y)*(x-y):=⟨_,rfl⟩
  rw[<-hq]at hb⊢;unfold wrap64;omega
 rw[hs];show wrap64 (n+sqd x y)=_;obtain⟨q,hq⟩:∃q,q=sqd x y:=⟨_,rfl⟩
 have hq2:q=(x-y)*(x-y):=hq;rw[<-hq2]at hb;rw[<-hq];unfold wrap64;omega
theorem zc8(a b:List Int)(ha:yT a)(hb:yT b):∀k,k<=a.length->k<=b.length->k<=100->0<=FO a b k∧FO a b k<=4000000*k
 | 0,_,_,_=>by rw[V8];omega
 | k+1,h1,h2,h3=>by have ih:=zc8 a b ha hb k (by omega) (by omega) (by omega);rw[IE a b k (by omega) (by omega)];have:=Tt (FO a b k) (a.getD k 0) (b.getD k 0) ih.1 (by omega) (xH ha k) (xH hb k);rw[this.1];omega
theorem zez(a b:List Int)(ha:yT a)(hb:yT b)(k:Nat)(h1:k<a.length)(h2:k<b.length)(h3:k<100):FO a b (k+1)=FO a b k+sqd (a.getD k 0) (b.getD k 0):=by have ih:=zc8 a b ha hb k (by omega) (by omega) (by omega);rw[IE a b k (by omega) (by omega)];exact(Tt (FO a b k) (a.getD k 0) (b.getD k 0) ih.1 (by omega) (xH ha k) (xH hb k)).1
def zK(n:Int):Int:=(n+1000)/250-4
theorem zeI(n:Int)(h: -1000<=n):zK n*250<=n∧n<=zK n*250+249:=by unfold zK;omega
theorem zhx(n:Int)(h: -1000<=n∧n<=1000): -4<=zK n∧zK n<=4:=by unfold zK;omega
def Uj(ns:List Int)(k:Nat):List Int:=(ns.take k).map zK++List.replicate (8-k) 0
def cellAt(x:oK):List Int:=Uj x.ns x.ns.length
theorem zdd(ns:List Int)(k:Nat)(h:k<=ns.length)(h8:k<=8):(Uj ns k).length=8:=by rw[Uj,ay,aI,bG,bP];omega
theorem zjo(ns:List Int)(k:Nat)(h:k<ns.length)(h8:k<8):(Uj ns k).set k (zK (ns.getD k 0))=Uj ns (k+1):=by
 have e:(ns.take k).map zK++List.replicate (8-k) 0=(ns.take k).map zK++(0::List.replicate (8-(k+1)) 0):=by rw[show 8-k=(8-(k+1))+1 by omega,kW]
 have hl:((ns.take k).map zK).length=k:=by rw[aI,bG];omega
 rw[Uj,e,iw _ _ (by omega),hl,lU,List.set_cons_zero,Uj,aT h,di,bu,ax,aC h];rfl
theorem zjq(ns:List Int)(k i:Nat)(h:i<k)(hk:k<=ns.length):(Uj ns k).getD i 0=zK (ns.getD i 0):=by rw[Uj,ax,dE (by rw[aI,bG];omega),bC,fG,aP h,ax,aC (by omega)];rfl
def Ei(low a:Int):Int:=max (max (low-a) (a-(low+250-1))) 0
def wQ(c at_:List Int):Nat->Int
 | 0=>0
 | k+1=>wQ c at_ k+Ei (c.getD k 0*250) (at_.getD k 0)*Ei (c.getD k 0*250) (at_.getD k 0)
theorem zlI(n a:Int)(h: -1000<=n):Ei (zK n*250) a*Ei (zK n*250) a<=sqd n a:=by
 have hl:=zeI n h;obtain⟨g,hg⟩:∃g,g=Ei (zK n*250) a:=⟨_,rfl⟩
 rw[<-hg];unfold sqd;unfold Ei at hg;have h0:0<=g:=by omega
 rcases Int.le_total n a with h|h
 ·have h2:g<=a-n:=by omega
  have:=mY h2 h2 h0 (by omega);have e:(n-a)*(n-a)=(a-n)*(a-n):=by
   rw[<-Int.neg_mul_neg]
   congr 1<;>omega
  rwa [e]
 ·have h2:g<=n-a:=by omega
  exact mY h2 h2 h0 (by omega)
theorem VT(x:oK)(at_:List Int)(hx:yT x.ns)(ha:yT at_)(h8:x.ns.length<=8):∀k,k<=x.ns.length->k<=at_.length->wQ (cellAt x) at_ k<=FO x.ns at_ k
 | 0,_,_=>by rw[V8];exact jO _
 | k+1,h1,h2=>by have ih:=VT x at_ hx ha h8 k (by omega) (by omega);rw[wQ,zez x.ns at_ hx ha k (by omega) (by omega) (by omega),cellAt,zjq _ _ _ (by omega) (aF _)];have:=zlI (x.ns.getD k 0) (at_.getD k 0) (xH hx k).1;rw[cellAt]at ih;omega
theorem VS(c at_:List Int)(hc:∀k,-4<=c.getD k 0∧c.getD k 0<=4)(ha:yT at_):∀k,k<=100->0<=wQ c at_ k∧wQ c at_ k<=16000000*k
 | 0,_=>by show(0:Int)<=0∧_;simp[wQ]
 | k+1,h=>by have ih:=VS c at_ hc ha k (by omega);have h1:=hc k;have h2:=xH ha k;have hg:=Ri (d:=Ei (c.getD k 0*250) (at_.getD k 0)) (B:=4000) (by unfold Ei;omega) (by unfold Ei;omega);rw[wQ];omega
abbrev Cell:=List Int×List oK
def Yn(cs:List Cell)(a:List Int):Bool:=cs.any λc=>decide (c.1=a)
def vz(cs:List Cell)(a:List Int):List Cell:=if Yn cs a then cs else cs++ [(a,[])]
def Uo(cs:List Cell)(a:List Int):Nat:=cs.findIdx λc=>decide (c.1=a)
def zdh(cs:List Cell)(k:Nat)(x:oK):List Cell:=cs.modify k λc=>(c.1,c.2++ [x])
def Yv(cs:List Cell)(x:oK):List Cell:=zdh (vz cs (cellAt x)) (Uo cs (cellAt x)) x
def y9(l:List oK):List Cell:=l.foldl Yv []
theorem PL(l:List oK)(j:Nat)(x:oK)(hx:l[j]? =some x):y9 (l.take (j+1))=Yv (y9 (l.take j)) x:=by have hj:=(aN.1 hx).1;rw[aT hj,(aN.1 hx).2,y9,y9,jK];rfl
structure yD(cs:List Cell)(l:List oK):Prop where
 perm:(cs.flatMap (·.2)).Perm l
 at_:∀c∈cs,∃x∈l,c.1=cellAt x
 in_:∀c∈cs,∀x∈c.2,cellAt x=c.1
 len:cs.length<=l.length
theorem zc1(cs:List Cell)(a:List Int):Uo cs a<(vz cs a).length∧(vz cs a)[Uo cs a]?.map (·.1)=some a:=by
 unfold vz Uo;by_cases h:Yn cs a=true
 ·rw[aP h];have h2:=List.findIdx_lt_length.2 (iI.1 h);refine⟨h2,?_⟩;rw[aC h2];have:=List.findIdx_getElem (p:=λc:Cell=>decide (c.1=a)) (w:=h2)
  simpa using this
 ·rw[aB h];have h2:cs.findIdx (λc=>decide (c.1=a))=cs.length:=by
   rw[List.findIdx_eq_length];intro c hc;have h3:Yn cs a=false:=by simpa using h
   rw[Yn,je]at h3
   simpa using h3 c hc
  rw[h2];simp
theorem zgB{cs:List Cell}{l:List oK}(h:yD cs l)(x:oK):yD (Yv cs x) (l++ [x]):=by
 have hi:=zc1 cs (cellAt x);have hw:yD (vz cs (cellAt x)) (l++ [x])->True:=λ_=>trivial;have w1:((vz cs (cellAt x)).flatMap (·.2)).Perm l:=by
  unfold vz;split
  ·exact h.perm
  ·rw[cZ];simpa using h.perm
 have w2:∀c∈vz cs (cellAt x),∃y∈l++ [x],c.1=cellAt y:=by
  intro c hc;unfold vz at hc;split at hc
  ·obtain⟨y,hy,e⟩:=h.at_ c hc;exact⟨y,List.mem_append_left _ hy,e⟩
  ·rcases dG.1 hc with hc|hc
   ·obtain⟨y,hy,e⟩:=h.at_ c hc;exact⟨y,List.mem_append_left _ hy,e⟩
   ·rw[bD.1 hc];exact⟨x,by simp,rfl⟩
 have w3:∀c∈vz cs (cellAt x),∀y∈c.2,cellAt y=c.1:=by
  intro c hc;unfold vz at hc;split at hc
  ·exact h.in_ c hc
  ·rcases dG.1 hc with hc|hc
   ·exact h.in_ c hc
   ·rw[bD.1 hc];intro y hy;cases hy
 have w4:(vz cs (cellAt x)).length<=l.length+1:=by
  have:=h.len;unfold vz;split
  ·omega
  ·rw[ay,gu];omega
 obtain⟨W,hW⟩:∃W,W=vz cs (cellAt x):=⟨_,rfl⟩
 obtain⟨k,hk⟩:∃k,k=Uo cs (cellAt x):=⟨_,rfl⟩
 rw[<-hW]at hi w1 w2 w3 w4;rw[<-hk]at hi;rw[Yv,zdh,<-hW,<-hk];have hsplit:W.modify k (λc=>(c.1,c.2++ [x]))=W.take k++(W[k].1,W[k].2++ [x])::W.drop (k+1):=by rw[List.modify_eq_take_cons_drop hi.1]
 have hW2:W=W.take k++W[k]::W.drop (k+1):=by rw[<-gY hi.1,iy]
 have hk1:W[k].1=cellAt x:=by
  have:=hi.2;rw[aC hi.1]at this
  simpa using this
 have hmem:∀c,c∈W.modify k (λc=>(c.1,c.2++ [x]))->c∈W∨c=(W[k].1,W[k].2++ [x]):=by
  intro c hc;rw[hsplit]at hc;rcases dG.1 hc with hc|hc
  ·exact .inl (dH hc)
  ·rcases bK.1 hc with hc|hc
   ·exact .inr hc
   ·exact .inl (List.mem_of_mem_drop hc)
 refine⟨?_,λc hc=> ?_,λc hc=> ?_,by rw[List.length_modify,ay,gu];exact w4⟩
 ·rw[hsplit];rw[hW2]at w1;simp only[cZ,df,bu]at w1⊢;have e1:((W.take k).flatMap (·.2)++(W[k].2++([x]++(W.drop (k+1)).flatMap (·.2)))).Perm (((W.take k).flatMap (·.2)++(W[k].2++(W.drop (k+1)).flatMap (·.2)))++ [x]):=by
   simp only[bu];exact((ku).append_left _).append_left _
  exact e1.trans (w1.append_right [x])
 ·rcases hmem c hc with hc|rfl
  ·exact w2 c hc
  ·exact⟨x,by simp,hk1⟩
 ·rcases hmem c hc with hc|rfl
  ·exact w3 c hc
  ·intro y hy;rcases dG.1 hy with hy|hy
   ·exact w3 W[k] (fD _) y hy
   ·rw[bD.1 hy];exact hk1.symm
theorem Wl(l:List oK):yD (y9 l) l:=by
 have key:∀n,n<=l.length->yD (y9 (l.take n)) (l.take n):=by
  intro n
  induction n with
  | zero=>intro _;rw[bZ];exact⟨jA _,λ_ h=>(by cases h),λ_ h=>(by cases h),aF _⟩
  | succ n ih=>
   intro hn;have hx:l[n]? =some l[n]:=aC (by omega);rw[PL l n _ hx,aT (by omega)];exact zgB (ih (by omega)) _
 have:=key l.length (aF _)
 rwa [lX]at this
theorem zhZ:Tot (λx y=> !(ltOf yh) y x) where
 trans:=VU
 total:=VV
 zm3:=λa b h1 h2=>by rw[eY]at h1 h2;exact EO a b h2 h1
theorem Ja(l l':List oK)(at_:List Int)(tag:af):qN (l++l') at_ tag=qN l at_ tag++qN l' at_ tag:=by rw[qN,qN,qN,List.filter_append,di]
theorem zgv(V C:List oK)(at_:List Int)(k:Int)(tag:af):(sU (tV V at_ k tag++tV C at_ k tag)).take k.toNat=tV (V++C) at_ k tag:=by have h1:=zhZ.first (qN V at_ tag) (tV C at_ k tag) k.toNat;have h2:=zhZ.first (qN C at_ tag) (qN V at_ tag) k.toNat;have e1:(sU (tV V at_ k tag++tV C at_ k tag)).take k.toNat=(sU (qN V at_ tag++tV C at_ k tag)).take k.toNat:=h1;have e2:sU (qN V at_ tag++tV C at_ k tag)=sU (tV C at_ k tag++qN V at_ tag):=Jo ku;have e3:(sU (tV C at_ k tag++qN V at_ tag)).take k.toNat=(sU (qN C at_ tag++qN V at_ tag)).take k.toNat:=h2;rw[e1,e2,e3,Jo ku,<-Ja];rfl
theorem zdJ(V R:List oK)(at_:List Int)(k:Int)(tag:af)(hk:0<k.toNat)(hlen:(tV V at_ k tag).length=k.toNat)(y:rU)(hy:(tV V at_ k tag)[k.toNat-1]? =some y)(hR:∀x∈R,y.2<PX x.ns at_):tV (V++R) at_ k tag=tV V at_ k tag:=by
 have hl:k.toNat<=(qN V at_ tag).length:=by rw[tV,bG,ND]at hlen;omega
 have h:=zhZ.zgi (qN V at_ tag) (qN R at_ tag) k.toNat hl ?_
 ·rw[tV,Ja];exact h
 ·intro x hx r hr;have hx2:x.2<=y.2:=by
   have hS:=zhZ.sorted (qN V at_ tag);have hy2:(sU (qN V at_ tag))[k.toNat-1]? =some y:=by rw[tV,fG,aP (by omega)]at hy;exact hy
   obtain⟨i,hi,he⟩:=jQ hx;have hi2:i<k.toNat:=by rw[bG]at hi;omega
   rw[List.getElem_take]at he;obtain⟨hb,hb2⟩:=aN.1 hy2;by_cases e:i=k.toNat-1
   ·subst e;rw[<-he,<-hb2];exact jO _
   ·have:=iR.1 hS i (k.toNat-1) (by rw[bG]at hi;omega) hb (by omega);rw[he]at this;have h3:(!(ltOf yh) y x)=true:=by rw[<-hb2];exact this
    rw[eY,wL]at h3
    have:¬y.2<x.2:=λe=>h3 (.inl e)
    omega
  obtain⟨z,hz,rfl⟩:=bf.1 hr;have hz2:=hR z (fJ.1 hz).1;have hz3:(WU at_ z).2=PX z.ns at_:=rfl;rw[eY,wL];rintro(h|h)
  ·omega
  ·omega
end
section
open Go.Sort Go.Shelf
def tu(l:List Int):List Value:=l.map (Value.int .i64)
theorem L9{P:Program}{d:Nat}{e:TypeId}{k:IntKind}{l m:List Int}{w:World}(he:P.underlying e=some (.int k))(hpk:P.plainKey e=true)(hl:l.length=8)(hm:m.length=8):
  ∀is:List Nat,(∀i∈is,i<8)->(Op.eqItems (d+1) e 1 (tu l).toArray (tu m).toArray is).run P w= .ok (is.all λi=>decide (l.getD i 0=m.getD i 0)) w
 | [],_=>by simp[Op.eqItems]
 | i::is,h=>by
  have hi:=h i aY;have ih:=L9 (d:=d) (w:=w) he hpk hl hm is (λj hj=>h j (aQ _ hj));have ha:(part e (tu l).toArray (i*1)).run P w= .ok (.int .i64 (l.getD i 0)) w:=run_part_plain w hpk (by rw[ng,aj,tu,bC,ax,aC (by omega)];rfl)
  have hb:(part e (tu m).toArray (i*1)).run P w= .ok (.int .i64 (m.getD i 0)) w:=run_part_plain w hpk (by rw[ng,aj,tu,bC,ax,aC (by omega)];rfl)
  simp only[Op.eqItems,jG,ha,hb,lQ,run_equalIn_int w d e .i64 k _ _ he,ih,List.all_cons];by_cases h:l.getD i 0=m.getD i 0
  ·have hb:(l.getD i 0==m.getD i 0)=true:=by simpa using h
   rw[hb,bJ h,iK];simp[ih]
  ·have hb:(l.getD i 0==m.getD i 0)=false:=by simpa using h
   rw[hb,bV h,iL];simp
theorem eight(l:List Int)(h:l.length=8):∃a0 a1 a2 a3 a4 a5 a6 a7,l= [a0,a1,a2,a3,a4,a5,a6,a7]:=by
 match l,h with
 | [a0,a1,a2,a3,a4,a5,a6,a7],_=>exact⟨a0,a1,a2,a3,a4,a5,a6,a7,rfl⟩
theorem zpm{l m:List Int}(hl:l.length=8)(hm:m.length=8):((List.range 8).all λi=>decide (l.getD i 0=m.getD i 0))=decide (l=m):=by
 rw[jE,gQ,aS];constructor
 ·intro h;apply jy (by omega);intro i h1 h2;have:=h i (iO.2 (by omega));rw[aS,ax,ax,aC h1,aC h2]at this;exact this
 ·rintro rfl i _;simp
end
section
open Go.Sort Go.Shelf
theorem zn5(l m:List Int)(hl:l.length=8)(hm:m.length=8)(w:World):(Op.equalIn 10000 200 (.agg (tu l).toArray) (.agg (tu m).toArray)).run Tryz.prog w= .ok (decide (l=m)) w:=by
 have hib:∃i,Tryz.prog.info? 3=some i:=⟨_,rfl⟩
 obtain⟨i,hi⟩:=hib;have hc:Tryz.prog.cellsOf 3=1:=by kernel_rfl
 have hpk:Tryz.prog.plainKey 3=true:=by kernel_rfl
 rw[show(10000:Nat)=9999+1 from rfl,run_equalIn_array w 9999 _ _ Tryz.underlying200 hi,hc,show(9999:Nat)=9998+1 from rfl,L9 Tryz.underlying3 hpk hl hm _ (λi hi=>iO.1 hi),zpm hl hm]
theorem zhw(n:Int)(hn: -1000<=n∧n<=1000)(w:World):ae 137 #[.int .i64 n] w λe w'=>e= .returned (.int .i64 (zK n))∧w'=w:=by have r1:IntKind.i64.wrap (n+1000)=n+1000:=aW _ (by omega);have hd:(n+1000).tdiv 250=(n+1000)/250:=Int.tdiv_eq_ediv_of_nonneg (by omega);have r2:IntKind.i64.wrap ((n+1000)/250)=(n+1000)/250:=aW _ (by omega);have r3:IntKind.i64.wrap ((n+1000)/250-4)=(n+1000)/250-4:=aW _ (by omega);unfold zK;go_enter Tryz.func137,Tryz.ntmps137;go_wp2_with fail;go_ret;exact⟨by simp[hd,r1,r2,r3],rfl⟩
theorem XI(pb ab:Nat)(l m:List Int)(sv:Value)(w:World)(hl:l.length=8)(hm:m.length=8)(hp:w.heap[pb]? =some (.cells (tu l++ [sv]).toArray 204 (0,0)))(ha:w.heap[ab]? =some (.cells (tu m).toArray 200 (0,0))):
  ae 139 #[.pointer (some ⟨pb,0,none⟩),.pointer (some ⟨ab,0,none⟩)] w λe w'=>e= .returned (.bool (decide (l=m)))∧∃q,w'=w.drewN q:=by
 have heq:=λw=>zn5 l m hl hm w;have hgt:Tryz.prog.eqGuardType Tryz.prog.depth 200=false:=by kernel_rfl
 obtain⟨B,hB⟩:∃B,B=decide (l=m):=⟨_,rfl⟩
 rw[<-hB]at heq⊢;obtain⟨a0,a1,a2,a3,a4,a5,a6,a7,rfl⟩:=eight l hl;obtain⟨b0,b1,b2,b3,b4,b5,b6,b7,rfl⟩:=eight m hm;have cp:∀j u,([Value.int .i64 a0,.int .i64 a1,.int .i64 a2,.int .i64 a3,.int .i64 a4,.int .i64 a5,.int .i64 a6,.int .i64 a7,sv])[j]? =some u->w.cell? ⟨pb,j,none⟩=some u:=λj u hu=>by rw[aO _ _ j _ 204 (0,0) hp,aj];exact hu
 have ca:∀j u,([Value.int .i64 b0,.int .i64 b1,.int .i64 b2,.int .i64 b3,.int .i64 b4,.int .i64 b5,.int .i64 b6,.int .i64 b7])[j]? =some u->w.cell? ⟨ab,j,none⟩=some u:=λj u hu=>by rw[aO _ _ j _ 200 (0,0) ha,aj];exact hu
 have p0:=cp 0 _ rfl;have p1:=cp 1 _ rfl;have p2:=cp 2 _ rfl;have p3:=cp 3 _ rfl;have p4:=cp 4 _ rfl;have p5:=cp 5 _ rfl;have p6:=cp 6 _ rfl;have p7:=cp 7 _ rfl;have q0:=ca 0 _ rfl;have q1:=ca 1 _ rfl;have q2:=ca 2 _ rfl;have q3:=ca 3 _ rfl;have q4:=ca 4 _ rfl;have q5:=ca 5 _ rfl;have q6:=ca 6 _ rfl;have q7:=ca 7 _ rfl;simp only[tu,bF,dB]at heq;clear hB hp ha hl hm cp ca;go_enter Tryz.func139,Tryz.ntmps139;go_wp2_with fail
 go_quiet (fail)
 go_wp2_with fail;go_ret;exact⟨rfl,_,rfl⟩
theorem zem(cb pb:Nat)(nS:Nat)(cv:Value)(at_:List Int)(c:List Int)(sv:Value)(va:Value)(w:World)(hc8:c.length=8)(hcr:∀k,-4<=c.getD k 0∧c.getD k 0<=4)(hat:yT at_)(hd:nS<=8)(hda:at_.length=nS)
  (N:Nums w va at_) (hC:w.heap[cb]? =some (.cells #[.int .i64 nS,cv] 199 (0,0))) (hp:w.heap[pb]? =some (.cells (tu c++ [sv]).toArray 204 (0,0))):
  ae 157 #[.pointer (some ⟨cb,0,none⟩),.pointer (some ⟨pb,0,none⟩),va] w λe w'=>e= .returned (.int .i64 (wQ c at_ nS))∧∃q,w'=w.drewN q:=by
 have c0:w.cell? ⟨cb,0,none⟩=some (.int .i64 nS):=by rw[aO _ _ _ _ _ (0,0) hC];rfl
 obtain⟨pa,ca,rfl⟩:=N.len;have Hda:=ag hda;rw[hda]at N⊢;clear hda;have HN:=ag N;have Hp:=ag hp;clear N hC hp;go_enter Tryz.func157,Tryz.ntmps157;go_wp2_with fail
 go_loopw [7,15] (λnv iv wr=>∃i:Nat,i<=nS∧iv= .int .i64 i∧nv= .int .i64 (wQ c at_ i)∧∃q,wr=w.drewN q) (λ_ iv _=>nS-(intOf iv).toNat)
 case atStart=>exact⟨0,by omega,rfl,rfl,0,rfl⟩
 case round=>
  obtain⟨i,hi,rfl,rfl,q,rfl⟩:=hrel;by_cases hlt:i<nS
  ·have i1:(i:Int)<nS:=by omega
   have i8:(i:Int)<8:=by omega
   obtain⟨bA,oA,rfl,-,hbA,hcA⟩:=HN.out.at (by have:=Hda.out;omega);have cA:=hcA i (by have:=Hda.out;omega);have cP:w.cell? ⟨pb,i,none⟩=some (.int .i64 (c.getD i 0)):=by rw[aO _ _ _ _ _ (0,0) Hp.out,aj,dE (by rw[tu,aI];omega),tu,bC,ax,aC (by omega)];rfl
   have hci:=hcr i;have hai:=xH hat i;have hL:=VS c at_ hcr hat i (by omega);have hnext:wQ c at_ (i+1)=wQ c at_ i+Ei (c.getD i 0*250) (at_.getD i 0)*Ei (c.getD i 0*250) (at_.getD i 0):=rfl;obtain⟨x,hx⟩:∃x,x=c.getD i 0:=⟨_,rfl⟩
   obtain⟨y,hy⟩:∃y,y=at_.getD i 0:=⟨_,rfl⟩
   obtain⟨n,hn⟩:∃n,n=wQ c at_ i:=⟨_,rfl⟩
   rw[<-hx]at cP hci hnext;rw[<-hy]at cA hai hnext;rw[<-hn]at hL hnext⊢;have r1:IntKind.i64.wrap (x*250)=x*250:=aW _ (by omega);have r2:IntKind.i64.wrap (x*250-y)=x*250-y:=aW _ (by omega);have r3:IntKind.i64.wrap (x*250+250)=x*250+250:=aW _ (by omega);have r4:IntKind.i64.wrap (x*250+250-1)=x*250+250-1:=aW _ (by omega);have r5:IntKind.i64.wrap (y-(x*250+250-1))=y-(x*250+250-1):=aW _ (by omega);have zo5:max (max (x*250-y) (y-(x*250+250-1))) 0=Ei (x*250) y:=rfl;have zfT:=ag hnext;clear hcA hx hy hn hnext;have mixed:Tryz.prog.follows .mixedOrders=true:=by kernel_rfl
   have hif:(if (if x*250-y<y-(x*250+250-1)then y-(x*250+250-1)else x*250-y)<0 then 0 else if x*250-y<y-(x*250+250-1)then y-(x*250+250-1)else x*250-y)=Ei (x*250) y:=by unfold Ei;split<;>split<;>omega
   have hg0:0<=Ei (x*250) y∧Ei (x*250) y<=4000:=by unfold Ei;omega
   have hg2:=Ri (d:=Ei (x*250) y) (B:=4000) (by omega) (by omega);obtain⟨g,hg⟩:∃g,g=Ei (x*250) y:=⟨_,rfl⟩
   rw[<-hg]at hif hg2 zfT;obtain⟨gg,hgg⟩:∃gg,gg=g*g:=⟨_,rfl⟩
   rw[<-hgg]at hg2 zfT;have r6:IntKind.i64.wrap (g*g)=gg:=by rw[<-hgg];exact aW _ (by omega)
   have r7:IntKind.i64.wrap (n+gg)=n+gg:=aW _ (by omega);have Hgg:=ag hgg;have Hif:=ag hif;clear hg hgg hif zo5 hg0 hg2;go_upto_region 6 with(fail)
   go_big_region_o
   rw[Hif.out];clear r1 r2 r3 r4 r5;go_wp2_with fail;exact⟨⟨i+1,by omega,by go_num,by rw[zfT.out],_,rfl⟩,by simp[intOf];omega⟩
  ·obtain rfl:i=nS:=by omega
   go_wp2_with fail;go_ret;exact⟨rfl,_,rfl⟩
end
section
open Go.Sort Go.Shelf
structure RightOk(l out:List oK):Prop where
 sub:∀x∈out,x∈l
 ok:∀x∈out,DU x 2=true
 nodup:(out.map (·.name)).Nodup
 len:out.length<=l.length
theorem Iz:∃i,Tryz.prog.info? 101=some i∧i.zero=some (.agg #[.string ⟨#[]⟩,.string ⟨#[]⟩,.slice none 0 0])∧i.size=3∧i.bytes=56:=by
 have h:(Tryz.prog.info? 101).map (λi=>(i.zero,i.size,i.bytes))=some (some (.agg #[.string ⟨#[]⟩,.string ⟨#[]⟩,.slice none 0 0]),3,56):=by kernel_rfl
 cases hi:Tryz.prog.info? 101 with
 | none=>rw[hi]at h;cases h
 | some i=>
  rw[hi]at h;simp only[eQ,eU,iE]at h;exact⟨i,rfl,h.1,h.2.1,h.2.2⟩
theorem Fg(nm tg:af)(pa:Option Addr)(nl ca:Nat):∀u∈ [Value.string nm,.string tg,.slice pa nl ca],u.oneCell'=true:=by intro u hu;simp only[bK,iJ,jY]at hu;rcases hu with rfl|rfl|rfl<;>rfl
theorem AY(x:oK):(pO x).length=3:=rfl
end
theorem zgz{P:Program}{w w':World}{name:String}{k:IntKind}{zs:List Int}{g:Nat}(h:Lib.TabIs P w name k zs)(hg:P.globalNamed name=some g)(hh:w'.heap[g]? =w.heap[g]?):Lib.TabIs P w' name k zs:=by unfold Lib.TabIs World.var? at*;rw[hg]at h⊢;simp only[Option.bind_some,hh]at h⊢;exact h
theorem zcM:Tryz.prog.globalNamed "internal/strconv.uint64pow10" =some 5:=by kernel_rfl
def uH(w:World):Prop:=Lib.TabIs Tryz.prog w "internal/strconv.uint64pow10" .u64 Lib.pow10Tab
theorem uH.lt{w:World}(h:uH w):5<w.heap.size:=by
 have h0:(0:Nat)<Lib.pow10Tab.length:=by decide
 have:=Lib.TabIs.cell h zcM 0 h0;exact Lib.lt_of_cell this
theorem uH.keep{w w':World}(h:uH w){S:Nat->Prop}(hk:Keep S w w')(hn:¬S 5):uH w':=zgz h zcM (hk.block _ h.lt hn)
theorem uS(n:Int)(h0: -9223372036854775808<=n)(h1:n<=9223372036854775807)(w:World)(T:uH w):ae 19 #[.int .i64 n] w λe w'=>e= .returned (.string ⟨(Lib.itoa n).toArray⟩)∧Keep nM w w':=by refine(Tryz.strconv_Itoa n h0 h1 w T).mono ?_;rintro e w' ⟨he,k,os,hw⟩;exact⟨he,Gr.keep ⟨k,os,hw⟩⟩
theorem Su:∀(l:List pR) (x:pR),uw (l++ [x])=(uw l&&(match l.getLast? with|none=>true|some y=>decide (y.1.data.toList<x.1.data.toList)))
 | [],x=>rfl
 | [y],x=>by
  show uw [y,x]=(uw [y]&&decide (y.1.data.toList<x.1.data.toList))
  simp[uw]
 | y::z::l,x=>by
  have ih:=Su (z::l) x;show uw (y::z::(l++ [x]))=_;have e1:uw (y::z::(l++ [x]))=(decide (y.1.data.toList<z.1.data.toList)&&uw (z::(l++ [x]))):=rfl;have e2:uw (y::z::l)=(decide (y.1.data.toList<z.1.data.toList)&&uw (z::l)):=rfl;have e3:(y::z::l).getLast? =(z::l).getLast? :=by simp[List.getLast?_cons_cons]
  rw[e1,e2,e3,Bool.and_assoc,<-ih];rfl
theorem Iw{s:af}(h:nameB s=true):s.data.toList.length<=10:=by unfold nameB at h;have h1:=(mg.1 h).1;have h2:=(mg.1 h1).1;have h3:=(mg.1 h2).2;exact gy h3
theorem Y7:∀ns:List Int,(∀n∈ns,-10000<n∧n<10000)->((ns.map Lib.itoa).flatMap (λq=>(32:UInt8)::q)).length<=6*ns.length:=by
 intro ns
 induction ns with
 | nil=>intro _;simp
 | cons n ns ih=>
  intro h;have:=xE n (h n aY);have:=ih (λm hm=>h m (aQ _ hm));rw[bF,df,ay,aK,aK];omega
theorem Jw{x:pR}{nS:Int}(h:qM x nS=true):x.1.data.toList.length<=10∧x.2.1.data.toList.length<=10∧x.2.2.length<=8:=by
 simp only[qM,aZ,dP,aS,eY]at h;obtain⟨⟨⟨⟨⟨h1,h2⟩,h3⟩,h4⟩,h5⟩,h6⟩:=h;refine⟨Iw h1,?_,by omega⟩;rcases h2 with h2|h2
 ·rw[h2];simp
 ·exact Iw h2
theorem zg8{x:pR}{nS:Int}(h:qM x nS=true):(Dc x).length<=100:=by
 have hk:=D6 h;simp only[qM,aZ,dP,aS,eY]at h;obtain⟨⟨⟨⟨⟨h1,h2⟩,h3⟩,h4⟩,h5⟩,h6⟩:=h;have n1:=Iw h1;have n2:x.2.1.data.toList.length<=10:=by
  rcases h2 with h2|h2
  ·rw[h2];simp
  ·exact Iw h2
 have key:∀ns:List Int,(∀n∈ns,-10000<n∧n<10000)->((ns.map Lib.itoa).flatMap (λq=>(32:UInt8)::q)).length<=6*ns.length:=by
  intro ns
  induction ns with
  | nil=>intro _;simp
  | cons n ns ih=>
   intro h;have:=xE n (h n aY);have:=ih (λm hm=>h m (aQ _ hm));rw[bF,df,ay,aK,aK];omega
 have:=key x.2.2 hk.ns;rw[Dc,bodyT,ay,ay,df,ay,aK,gu];omega
def QL(nS:Int):List UInt8:=BF++Lib.itoa nS++ [10]
theorem zgP{l:List pR}{nS:Int}(h:l.all (qM · nS)=true):(l.flatMap Dc).length<=100*l.length:=by
 induction l with
 | nil=>simp
 | cons x l ih=>
  rw[List.all_cons,aZ]at h;have:=zg8 h.1;have:=ih h.2;rw[df,ay,aK];omega
def Qy(nS:Int)(l:List oK)(j:Nat):Prop:=((l.take j).map nZ).all (qM · nS)=true∧uw ((l.take j).map nZ)=true
theorem zea{nS:Int}{l:List oK}{j:Nat}{x:oK}(hx:l[j]? =some x):Qy nS l (j+1)↔Qy nS l j∧DU x nS=true∧(∀y,0<j->l[j-1]? =some y->y.name.data.toList<x.name.data.toList):=by
 have hj:=(aN.1 hx)
 have hjl:j<l.length:=hj.1;have e:(l.take (j+1)).map nZ=(l.take j).map nZ++ [nZ x]:=by rw[aT hj.1,hj.2,di];rfl
 have hl:((l.take j).map nZ).getLast? =if 0<j then(l[j-1]?).map nZ else none:=by
  rw[List.getLast?_eq_getElem?,aI,bG,bC,fG];split
  ·rename_i h;rw[aP (by omega),show min j l.length-1=j-1 by omega]
  ·rename_i h
   have:j=0:=by omega
   subst this;simp
 unfold Qy;rw[e,List.all_append,Su,hl,aZ,aZ];have hp: [nZ x].all (qM · nS)=DU x nS:=by simp[<-zd7]
 rw[hp];by_cases h0:0<j
 ·rw[aP h0];obtain⟨y,hy⟩:∃y,l[j-1]? =some y:=⟨_,aC (by omega)⟩
  rw[hy];simp only[eQ,aS];constructor
  ·rintro⟨⟨h1,h2⟩,h3,h4⟩;exact⟨⟨h1,h3⟩,h2,λy' _ e=>by obtain rfl:=aH e;exact h4⟩
  ·rintro⟨⟨h1,h3⟩,h2,h4⟩;exact⟨⟨h1,h2⟩,h3,h4 y h0 rfl⟩
 ·rw[aB h0];simp only[and_true];constructor
  ·rintro⟨⟨h1,h2⟩,h3⟩;exact⟨⟨h1,h3⟩,h2,λy h=>absurd h h0⟩
  ·rintro⟨⟨h1,h3⟩,h2,_⟩;exact⟨⟨h1,h2⟩,h3⟩
theorem zd9(nS:Int)(l:List oK):Qy nS l 0:=⟨rfl,rfl⟩
theorem zeb{nS:Int}{l:List oK}{j n:Nat}(h:Qy nS l n)(hj:j<=n):Qy nS l j:=by
 have e:(l.take j).map nZ=((l.take n).map nZ).take j:=by rw[<-List.map_take,List.take_take,ji hj]
 refine⟨?_,by rw[e];exact OL _ _ h.2⟩;rw[e];exact gQ.2 λx hx=>gQ.1 h.1 x (dH hx)
theorem Sz{nS:Int}{l:List oK} :qJ nS (l.map nZ)=true↔1<=nS∧nS<=8∧l.length<=60∧Qy nS l l.length:=by
 unfold Qy;rw[lX];simp only[qJ,aZ,aS,aI];constructor
 ·rintro⟨⟨⟨⟨h1,h2⟩,h3⟩,h4⟩,h5⟩;exact⟨h1,h2,h3,h4,h5⟩
 ·rintro⟨h1,h2,h3,h4,h5⟩;exact⟨⟨⟨⟨h1,h2⟩,h3⟩,h4⟩,h5⟩
theorem EN{w:World}{g:Nat}{c c':Array Value}{t t':TypeId}{f f':Nat×Nat}(h:w.heap[g]? =some (.cells c t f))(h':w.heap[g]? =some (.cells c' t' f')):t=t':=by rw[h]at h';have:=aH h';simp only[lu]at this;exact this.2.1
def Dw(nS:Int)(l:List oK):af:=if qJ nS (l.map nZ)then⟨(uT nS (l.map nZ)).toArray⟩else⟨#[]⟩
def Cb(nS:Int)(l:List oK):Value:=if qJ nS (l.map nZ)then .nilIface else errVal 1
theorem print_any(nS:Int)(v:Value)(l:List oK)(w:World)(I:Items w v l)(hl:l.length<=maxLen)(hns:∀x∈l,x.ns.length<=1000000)(T:uH w):
  ae 98 #[.int .i64 nS,v] w λe w'=>e= .returned (.tuple #[.string (Dw nS l),Cb nS l])∧Keep nM w w':=by
 obtain⟨p,c,rfl⟩:=I.rows.len;obtain⟨n,hn⟩:∃n,n=l.length:=⟨_,rfl⟩
 rw[<-hn]at I hl⊢;have hmax:(n:Int)<=9223372036854775807:=by unfold maxLen at hl;omega
 have HNo:Hid (qJ nS (l.map nZ)=false->Ending.returned (.tuple #[.string (Dw nS l),Cb nS l])= .returned (.tuple #[.string ⟨#[]⟩,.iface 51 (.int .i64 1)])):=ag (λh=>by rw[Dw,Cb,h];rfl);have Hn:=ag hn;have HI:=ag I;have HT:=ag T;have Hns:=ag hns;have zgf:¬(1<=nS∧nS<=8∧n<=60∧Qy nS l n)->qJ nS (l.map nZ)=false:=λh=>by
  cases hp:qJ nS (l.map nZ)with
  | false=>rfl
  | true=>exact absurd (by rw[hn];exact Sz.1 hp) h
 have HF:=ag zgf;obtain⟨RV,hRV⟩:∃R,R=Ending.returned (.tuple #[.string (Dw nS l),Cb nS l]):=⟨_,rfl⟩
 rw[<-hRV]at HNo⊢;have HRV:=ag hRV;clear hn I T hns zgf hRV hl;by_cases hd:1<=nS∧nS<=8
 case neg=>
  have hno:=HNo.out (HF.out (λh=>hd ⟨h.1,h.2.1⟩));rw[hno];by_cases h1:nS<1
  ·go_enter Tryz.func98,Tryz.ntmps98;go_wp2_with fail
   go_ret2
   exact⟨rfl,ah _ _⟩
  ·have h2:8<nS:=by omega
   go_enter Tryz.func98,Tryz.ntmps98;go_wp2_with fail
   go_ret2
   exact⟨rfl,ah _ _⟩
 have h1:¬nS<1:=by omega
 have h8:¬8<nS:=by omega
 by_cases h60:n<=60
 case neg=>
  have hno:=HNo.out (HF.out (λh=>h60 h.2.2.1));rw[hno];have h2:(60:Int)<n:=by omega
  go_enter Tryz.func98,Tryz.ntmps98;go_wp2_with fail
  go_ret2
  exact⟨rfl,ah _ _⟩
 have h61:¬((60:Int)<n):=by omega
 have hB0:=zc0 w;have K0:Keep nM w (w.alloc (.cells #[.pointer none,.slice none 0 0] 35)):=(ah _ _).alloc _;have hblt:w.heap.size<(w.alloc (.cells #[.pointer none,.slice none 0 0] 35)).heap.size:=by show w.heap.size<(w.heap.push _).size;rw[dY];omega
 obtain⟨wb,hwb⟩:∃wb,wb=w.alloc (.cells #[.pointer none,.slice none 0 0] 35):=⟨_,rfl⟩
 obtain⟨b,hb⟩:∃b,b=w.heap.size:=⟨_,rfl⟩
 rw[<-hwb,<-hb]at hB0 hblt;rw[<-hwb]at K0;have Hwb:=ag hwb;have Hb:=ag hb;have zjS:=xE nS (by omega);have zj3:=ag zjS;have xZ:=λw1 (K:Keep nM w w1)=>uS nS (by omega) (by omega) w1 (HT.out.keep K (λx=>x));obtain⟨dt,hdt⟩:∃dt:af,dt=⟨(Lib.itoa nS).toArray⟩:=⟨_,rfl⟩
 rw[<-hdt]at xZ;have Ej:=ag (xZ wb K0);have Hdt:=ag hdt;have HB0:=ag hB0;clear hwb hb zjS xZ hdt hB0;go_enter Tryz.func98,Tryz.ntmps98;go_wp2_with fail;rw[<-Hwb.out,<-Hb.out];refine Ej.out.mono ?_;rintro e w1 ⟨rfl,K1⟩;have hdts:dt.size<=5:=by rw[Hdt.out];have:=zj3.out;simpa [ByteArray.size]using this
 have hs1:((⟨#[100,105,109,32]⟩:af)++dt++(⟨#[10]⟩:af)).size=dt.size+5:=by rw[aX,aX];show 4+dt.size+1=_;omega
 have HB1:=ag (HB0.out.oz K1);obtain⟨S0,hS0⟩:∃S0:af,S0=⟨#[100,105,109,32]⟩++dt++⟨#[10]⟩:=⟨_,rfl⟩
 have zmQ:S0.data.toList=QL nS:=by rw[hS0,Hdt.out,dQ,dQ];simp[QL,BF]
 have zpf:S0.size<=10:=by rw[hS0,hs1];omega
 have hwr:=write_any b b [] S0 w1 HB1.out (by simp;omega) (by have:=K1.size;omega);rw[fK,zmQ]at hwr;have Yg:=ag hwr;have HS0:=ag hS0;clear hwr hS0 zmQ zpf hs1;go_wp2_with fail;rw[<-HS0.out];refine Yg.out.mono ?_;rintro e w2 ⟨rfl,B2,K2⟩;have KW:∀x,x<w.heap.size->∀w',¬Wr b b w' x:=λx hx w' hw=>by have:=Hb.out;rcases hw with h|⟨h,_⟩<;>omega
 have MN:=ag KW;have KA:Keep nM w w2:=(K0.nK K1).trans K2 (λi hi hs=>absurd hs (KW i hi _));have HB2:=ag B2;have hbw2:b<w2.heap.size:=dA hblt (bH K1.size K2.size);clear KW B2 Ej HB1 HB0 Yg;go_wp2_with fail
 go_loopw [30] (λiv wr=>∃j:Nat,j<=n∧iv= .int .i64 j∧Hid (Qy nS l j)∧Hid (IsB b b (QL nS++((l.take j).map nZ).flatMap Dc) wr)∧b<wr.heap.size∧Keep nM w wr) (λiv _=>n-(intOf iv).toNat)
 case atStart=>exact⟨0,by omega,rfl,ag (zd9 nS l),ag (by rw[bZ,dB,iY,dJ];exact HB2.out),hbw2,KA⟩
 case round=>
  clear HB2 KA K1 K2 hbw2;obtain⟨j,hj,rfl,hok,hB,hbw,K⟩:=hrel;obtain⟨wo,rfl⟩:∃wo,wo=wr:=⟨_,rfl⟩
  by_cases hlt:j<n
  ·have j1:(j:Int)<n:=by omega
   have Ir:=HI.out.rows.keep K (λ_ _ x=>x);obtain⟨pb,off,rfl,-,hpb,hcell⟩:=Ir.at (by have:=Hn.out;omega);obtain⟨x,hx⟩:∃x,l[j]? =some x:=⟨_,aC (by have:=Hn.out;omega)⟩
   have hra:=hcell j x hx;have hxm:x∈l:=bg hx;have Nx:=(HI.out.nums x hxm).keep K (λ_ _ x=>x);have hsu:=zea (nS:=nS) hx;have c0:wo.cell? ⟨pb,off+j*3,none⟩=some (.string x.name):=hra 0 _ rfl;have c1:wo.cell? ⟨pb,off+j*3+1,none⟩=some (.string x.tag):=hra 1 _ rfl;have c2:wo.cell? ⟨pb,off+j*3+2,none⟩=some x.av:=hra 2 _ rfl;obtain⟨px,cx,hav⟩:=Nx.len;have Ue:=λw' (Kx:Keep nM wo w')=>I9 x nS w' (Nx.keep Kx (λ_ _ x=>x)) (Hns.out x hxm);have henc:(pO x).toArray= #[.string x.name,.string x.tag,.slice px x.ns.length cx]:=by rw[pO,hav]
   rw[henc]at Ue;rw[hav]at c2;obtain⟨R,hR⟩:∃R,R=DU x nS:=⟨_,rfl⟩
   rw[<-hR]at Ue hsu;obtain⟨nx,hnx⟩:∃nx,nx=x.ns.length:=⟨_,rfl⟩
   rw[<-hnx]at Ue c2;obtain⟨nm,hnm⟩:∃nm,nm=x.name:=⟨_,rfl⟩
   obtain⟨tg,FC⟩:∃tg,tg=x.tag:=⟨_,rfl⟩
   rw[<-hnm,<-FC]at Ue;rw[<-hnm]at c0;rw[<-FC]at c1;have zjE:∀w',Keep nM wo w'->0<j->∃y,l[j-1]? =some y∧w'.cell? ⟨pb,off+(j-1)*3,none⟩=some (.string y.name):=λw' Kx h0=>by
    obtain⟨y,hy⟩:∃y,l[j-1]? =some y:=⟨_,aC (by have:=Hn.out;omega)⟩
    exact⟨y,hy,(Kx.cell (p:=⟨pb,off+(j-1)*3,none⟩) hpb (λx=>x)).trans (hcell (j-1) y hy 0 _ rfl)⟩
   have hbody:Dc (nZ x)=nm.data.toList++ [32]++tg.data.toList++(x.ns.map Lib.itoa).flatMap (λq=>(32:UInt8)::q)++ [10]:=by rw[hnm,FC,Dc,bodyT,nZ];simp
   have MM:=ag hsu;have Hri:=ag Ue;have zog:=ag zjE;have zor:=ag hbody;have HNx:=ag Nx;have HR:=ag hR;have MO:=ag hnx;have Hx:=ag hx;have HxM:=ag hxm;have Hav:=ag hav;have hjn1:(j:Int)-1<n:=by omega
   have Hnm:=ag hnm;have Htg:=ag FC;clear hsu Ue zjE hbody Nx hR hnx hx hav henc hra hcell hxm hnm FC Ir;go_wp2_with fail;obtain⟨wX,Yc⟩:∃wX,wX=wo.alloc (.cells #[.string nm,.string tg,.slice px nx cx] 101):=⟨_,rfl⟩
   obtain⟨X,hXe⟩:∃X,X=wo.heap.size:=⟨_,rfl⟩
   have hX:wX.heap[X]? =some (.cells #[.string nm,.string tg,.slice px nx cx] 101 (0,0)):=by rw[Yc,hXe];exact aG wo _
   have KX:Keep nM wo wX:=by rw[Yc];exact(ah _ _).alloc _
   rw[<-Yc,<-hXe];have hXlt:=lt_of_heap hX;have x0:wX.cell? ⟨X,0,none⟩=some (.string nm):=by rw[aO _ _ _ _ _ (0,0) hX];rfl
   have x1:wX.cell? ⟨X,1,none⟩=some (.string tg):=by rw[aO _ _ _ _ _ (0,0) hX];rfl
   have x2:wX.cell? ⟨X,2,none⟩=some (.slice px nx cx):=by rw[aO _ _ _ _ _ (0,0) hX];rfl
   have HX:=ag hX;have HXe:=ag hXe;have HKX:=ag KX;have zim:=ag (λY:Ext wX=>Hri.out (wX.ext Y) (KX.nK (qA wX Y)));have hpbX:pb<wX.heap.size:=dA hpb KX.size;clear Yc hXe hX KX Hri c0 c1 c2
   go_cut [53] (λbv wx=>∃G:Bool,bv= .bool (!G)∧Hid (G=true↔Qy nS l (j+1))∧Keep nM wX wx)
   case first=>
    cases R with
    | false=>
     refine qP (by kernel_rfl) (by kernel_rfl) ?_
     repeat((with_reducible refine kM (λK hK=> ?_));go_simp;first|(refine hK _ ?_;clear hK K)|(apply Exists.intro;refine⟨λ_=> ?_,hK _ ?_⟩;(go_at_call 122;exact uJ _ (zim.out _));clear hK K))
     refine dF ?_;intro Y;go_wp2_with fail;go_meet
     case rel=>exact⟨false,rfl,ag ⟨λh=>(by cases h),λh=>(by have:=(MM.out.1 h).2.1;cases this)⟩,qA wX Y⟩
    | true=>
     by_cases hj0:j=0
     ·have hj1:¬(0<j):=by omega
      have Hj0:=ag hj0;clear hj0;refine qP (by kernel_rfl) (by kernel_rfl) ?_
      repeat((with_reducible refine kM (λK hK=> ?_));go_simp;first|(refine hK _ ?_;clear hK K)|(apply Exists.intro;refine⟨λ_=> ?_,hK _ ?_⟩;(go_at_call 122;exact uJ _ (zim.out _));clear hK K))
      refine dF ?_;intro Y;go_wp2_with fail;go_meet
      case rel=>exact⟨true,rfl,ag ⟨λ_=>MM.out.2 ⟨hok.out,(by first|rfl|trivial),λy h=>by have:=Hj0.out;omega⟩,λ_=>rfl⟩,qA wX Y⟩
     ·have hj1:0<j:=by omega
      have hji:(0:Int)<j:=by omega
      obtain⟨y,hy,hyc⟩:=zog.out wX HKX.out (by omega);have hw1:IntKind.i64.wrap ((j:Int)-1)=((j-1:Nat):Int):=by rw[aW _ (by omega)];omega
      have hjm:j-1<n:=by omega
      obtain⟨S,hS⟩:∃S,S=Op.bytesLess y.name.toList nm.toList:=⟨_,rfl⟩
      have hS':=hS.symm;have Hy:=ag hy;have HSS:=ag hS;obtain⟨yn,hyn⟩:∃yn,yn=y.name:=⟨_,rfl⟩
      rw[<-hyn]at hyc hS';have Hyn:=ag hyn;clear hy hS hyn;cases S with
      | true=>
       refine qP (by kernel_rfl) (by kernel_rfl) ?_
       repeat((with_reducible refine kM (λK hK=> ?_));go_simp;first|(refine hK _ ?_;clear hK K)|(apply Exists.intro;refine⟨λ_=> ?_,hK _ ?_⟩;(go_at_call 122;exact uJ _ (zim.out _));clear hK K))
       refine dF ?_;intro Y;go_wp2_with fail;go_meet
       case rel=>
        refine⟨true,rfl,ag ⟨λ_=>MM.out.2 ⟨hok.out,(by first|rfl|trivial),λy2 _ e=> ?_⟩,λ_=>rfl⟩,qA wX Y⟩;rw[Hy.out]at e;obtain rfl:=aH e;have h2:=HSS.out;rw[Qn]at h2;have h3:=gy h2.symm;rw[bQ,bQ,Hnm.out]at h3;exact h3
      | false=>
       refine qP (by kernel_rfl) (by kernel_rfl) ?_
       repeat((with_reducible refine kM (λK hK=> ?_));go_simp;first|(refine hK _ ?_;clear hK K)|(apply Exists.intro;refine⟨λ_=> ?_,hK _ ?_⟩;(go_at_call 122;exact uJ _ (zim.out _));clear hK K))
       refine dF ?_;intro Y;go_wp2_with fail;go_meet
       case rel=>
        refine⟨false,rfl,ag ⟨λh=>(by cases h),λh=> ?_⟩,qA wX Y⟩;have h1:=(MM.out.1 h).2.2 y (by omega) Hy.out;have h2:=HSS.out;rw[Qn]at h2;have h3:=mZ h2.symm;rw[bQ,bQ,Hnm.out]at h3;exact absurd h1 h3
   case rest=>
    obtain⟨G,rfl,HG,K3⟩:=hcut;obtain⟨w3,rfl⟩:∃w3,w3=wc:=⟨_,rfl⟩
    have Kw3:Keep nM w w3:=(K.nK HKX.out).nK K3;cases G with
    | false=>
     have hno:=HNo.out (HF.out (λh=>by have h2:=HG.out.2 (zeb h.2.2.2 (by omega));cases h2))
     have Hno:=ag hno;clear hno;go_wp2_with fail
     go_ret2
     exact⟨by rw[Hno.out];rfl,Kw3⟩
    | true=>
     have hok1:=HG.out.1 (by first|rfl|trivial);have hx3:=K3.heap HX.out (λx=>x);have y0:w3.cell? ⟨X,0,none⟩=some (.string nm):=by rw[aO _ _ _ _ _ (0,0) hx3];rfl
     have y1:w3.cell? ⟨X,1,none⟩=some (.string tg):=by rw[aO _ _ _ _ _ (0,0) hx3];rfl
     have hit:qM (nZ x) nS=true:=HR.out.symm.trans (MM.out.1 hok1).2.1;have hsz:=Jw hit;have hib:=(D6 hit).ns;have zoV:nx<=8:=by have h3:x.ns.length<=8:=hsz.2.2;have:=MO.out;omega
     have zmc:nm.size<=10:=by rw[Hnm.out];exact hsz.1
     have zmb:tg.size<=10:=by rw[Htg.out];exact hsz.2.1
     obtain⟨cur,zib⟩:∃cur,cur=QL nS++((l.take j).map nZ).flatMap Dc:=⟨_,rfl⟩
     have hcl:cur.length<=7000:=by
      have h1:=zgP hok.out.1;have h2:(QL nS).length<=10:=by have:=zj3.out;rw[QL,ay,ay];show 4+_+1<=10;omega
      have h3:((l.take j).map nZ).length<=60:=by rw[aI,bG];have:=Hn.out;omega
      rw[zib,ay];omega
     have hB3:IsB b b cur w3:=by rw[zib];exact hB.out.oz (HKX.out.nK K3)
     obtain⟨S1,hS1⟩:∃S1:af,S1=nm++⟨#[32]⟩++tg:=⟨_,rfl⟩
     have hS1s:S1.size<=21:=by rw[hS1,aX,aX];show nm.size+1+tg.size<=21;omega
     have zmP:S1.data.toList=nm.data.toList++ [32]++tg.data.toList:=by rw[hS1,dQ,dQ];simp
     have hbw3:b<w3.heap.size:=dA hbw (bH HKX.out.size K3.size);have zl8:=write_any b b cur S1 w3 hB3 (by omega) (by omega);have FM:nm.size+1+tg.size<=1000:=by omega
     have hns1:((nm++⟨#[32]⟩:af)).size=nm.size+1:=aX;have zm9:=ag zl8;have HS1:=ag hS1;have zp2:=ag zmP;have zpX:=ag zib;have Hx3:=ag hx3;have Hib:=ag hib;have Hsz:=ag hsz;have zpE:=ag hok1;clear zl8 hS1 zmP zib hx3 hit hib hsz hB3 hok1;go_wp2_with fail;rw[<-HS1.out];refine zm9.out.mono ?_;rintro e w4 ⟨rfl,B4,K4⟩;have Kw4:Keep nM w w4:=Kw3.trans K4 (λi hi hs=>absurd hs (MN.out i hi _));have hx4:=K4.heap Hx3.out (λhs=>by
      rcases hs with h|⟨_,cs,fz,h⟩
      ·have:=HXe.out;omega
      ·exact absurd (EN Hx3.out h) (by decide))
     have z2:w4.cell? ⟨X,2,none⟩=some (.slice px nx cx):=by rw[aO _ _ _ _ _ (0,0) hx4];rfl
     have HB4:=ag B4;have zmI:b<w4.heap.size:=dA hbw3 K4.size;clear B4 hx4 zm9;go_wp2_with fail
     go_loopw [65] (λiv wr=>∃k:Nat,k<=nx∧iv= .int .i64 k∧Hid (IsB b b (cur++S1.data.toList++((x.ns.take k).map Lib.itoa).flatMap (λq=>(32:UInt8)::q)) wr)∧b<wr.heap.size∧Keep nM w wr) (λiv _=>nx-(intOf iv).toNat)
     case atStart=>exact⟨0,by omega,rfl,ag (by rw[bZ,dB,iY,dJ];exact HB4.out),zmI,Kw4⟩
     case round=>
      clear HB4 Kw4 K4 Kw3 z2 zmI;obtain⟨k,hk,rfl,hBk,hbk,Kk⟩:=hrel;obtain⟨w5,rfl⟩:∃w5,w5=wr:=⟨_,rfl⟩
      by_cases hkn:k<nx
      ·have k1:(k:Int)<nx:=by omega
       have Nk:=(HI.out.nums x HxM.out).keep Kk (λ_ _ x=>x);rw[Hav.out,<-MO.out]at Nk;obtain⟨bn,on,rfl,-,hbn,hcn⟩:=Nk.at (by have:=MO.out;omega);have cn:=hcn k (by have:=MO.out;omega);obtain⟨y,hy⟩:∃y,x.ns[k]? =some y:=⟨_,aC (by have:=MO.out;omega)⟩
       rw[ax,hy]at cn;have cn':w5.cell? ⟨bn,on+k,none⟩=some (.int .i64 y):=cn;have hyb:=Hib.out y (bg hy);have xZ:=uS y (by omega) (by omega) w5 (HT.out.keep Kk (λx=>x));obtain⟨it,hit⟩:∃it:af,it=⟨(Lib.itoa y).toArray⟩:=⟨_,rfl⟩
       rw[<-hit]at xZ;have Du:it.data.toList=Lib.itoa y:=by rw[hit]
       have hits:it.size<=5:=by have:=xE y hyb;rw[<-Du]at this;exact this
       have htk:((x.ns.take (k+1)).map Lib.itoa).flatMap (λq=>(32:UInt8)::q)=((x.ns.take k).map Lib.itoa).flatMap (λq=>(32:UInt8)::q)++32::it.data.toList:=by
        have hkl:=(aN.1 hy)
        rw[aT hkl.1,hkl.2,di,cZ,Du];simp
       have hlk:(((x.ns.take k).map Lib.itoa).flatMap (λq=>(32:UInt8)::q)).length<=48:=by
        have h1:=Y7 (x.ns.take k) (λn hn=>Hib.out n (dH hn));have h2:(x.ns.take k).length<=8:=by rw[bG];have:=Hsz.out.2.2;show min k x.ns.length<=8;have h3:x.ns.length<=8:=this;omega
        omega
       have Ej:=ag xZ;have Htk:=ag htk;have Hlk:=ag hlk;have Yz:((⟨#[32]⟩:af)++it).size=it.size+1:=by rw[aX];show 1+it.size=_;omega
       clear cn hcn hy xZ hit Du htk hlk Nk;go_wp2_with fail;refine Ej.out.mono ?_;rintro e w6 ⟨rfl,K6⟩;obtain⟨S2,hS2⟩:∃S2:af,S2=⟨#[32]⟩++it:=⟨_,rfl⟩
       have zmO:S2.data.toList=32::it.data.toList:=by rw[hS2,dQ];simp
       have hw2:=write_any b b _ S2 w6 (hBk.out.oz K6) (by
        rw[ay,ay];have h1:S1.data.toList.length=S1.size:=rfl;have h2:S2.size=it.size+1:=by rw[hS2];exact Yz
        have:=Hlk.out;omega) (by have:=K6.size;omega)
       rw[bu,zmO,<-Htk.out]at hw2;have Hw2:=ag hw2;have HS2:=ag hS2;clear hw2 hS2 zmO;go_wp2_with fail;rw[<-HS2.out];refine Hw2.out.mono ?_;rintro e w7 ⟨rfl,B7,K7⟩;have HB7:=ag B7;clear B7;go_wp2_with fail;exact⟨⟨k+1,by omega,by go_num,HB7,dA hbk (bH K6.size K7.size),(Kk.nK K6).trans K7 (λi hi hs=>absurd hs (MN.out i hi _))⟩,by simp[intOf];omega⟩
      ·obtain rfl:k=nx:=by omega
       have hfull:cur++S1.data.toList++((x.ns.take k).map Lib.itoa).flatMap (λq=>(32:UInt8)::q)++(⟨#[10]⟩:af).data.toList=QL nS++((l.take (j+1)).map nZ).flatMap Dc:=by
        have hj2:=(aN.1 Hx.out)
        rw[aV (by have:=MO.out;omega),aT hj2.1,hj2.2,di,cZ,zpX.out,zp2.out];have h1:(List.map nZ [x]).flatMap Dc=Dc (nZ x):=by simp
        rw[h1,zor.out];simp
       have hlk:(((x.ns.take k).map Lib.itoa).flatMap (λq=>(32:UInt8)::q)).length<=48:=by
        have h1:=Y7 (x.ns.take k) (λn hn=>Hib.out n (dH hn));have h2:(x.ns.take k).length<=8:=by rw[bG];have h3:x.ns.length<=8:=Hsz.out.2.2;omega
        omega
       have hw2:=write_any b b _ ⟨#[10]⟩ w5 hBk.out (by rw[ay,ay];have h1:S1.data.toList.length=S1.size:=rfl;show _+1<=_;omega) (by omega)
       rw[hfull]at hw2;have Hw2:=ag hw2;clear hw2 hfull hlk;go_wp2_with fail;refine Hw2.out.mono ?_;rintro e w7 ⟨rfl,B7,K7⟩;have HB7:=ag B7;clear B7;go_wp2_with fail;exact⟨⟨j+1,by omega,by go_num,zpE,HB7,dA hbk K7.size,Kk.trans K7 (λi hi hs=>absurd hs (MN.out i hi _))⟩,by simp[intOf];omega⟩
  ·obtain rfl:j=n:=by omega
   have hall:qJ nS (l.map nZ)=true:=Sz.2 ⟨hd.1,hd.2,by rw[<-Hn.out];exact h60,by rw[<-Hn.out];exact hok.out⟩;have zmS:RV=Ending.returned (.tuple #[.string ⟨(uT nS (l.map nZ)).toArray⟩,.nilIface]):=by rw[HRV.out,Dw,Cb,aP hall,aP hall]
   have hBn:=hB.out;rw[aV (by have:=Hn.out;omega)]at hBn;have hstr:=Tryz.Builder_String_any_k b b _ wo hBn (by omega);have zk7:=ag hstr;have zp3:=ag zmS;have hbw':=hbw;clear hall zmS hBn hstr;go_wp2_with fail;refine zk7.out.mono ?_;rintro e w9 ⟨rfl,-,hBl,-⟩;go_wp2_with fail
   go_ret2
   refine⟨by rw[zp3.out];rfl,⟨hBl.os.trans K.os,hBl.tape.trans K.tape,hBl.output.trans K.output,bH K.size hBl.size,λi hi hn=> ?_⟩⟩;rw[hBl.block i (by have:=Hb.out;omega)];exact K.block i hi hn
def zdg(v:Value):Prop:=v= .nilIface∨∃te pe,v= .iface te pe
structure EJ(w:World):Prop where
 range:∃ev,w.cell? ⟨9,0,none⟩=some ev∧zdg ev
 form:∃ev,w.cell? ⟨8,0,none⟩=some ev∧zdg ev
theorem EJ.keep{w w':World}(h:EJ w){S:Nat->Prop}(hk:Keep S w w')(h1:¬S 9)(h2:¬S 8):EJ w':=by obtain⟨⟨a,ha,ha'⟩,⟨b,hb,hb'⟩⟩:=h;exact⟨⟨a,(hk.cell (p:=⟨9,0,none⟩) (Lib.lt_of_cell ha) h1).trans ha,ha'⟩,⟨b,(hk.cell (p:=⟨8,0,none⟩) (Lib.lt_of_cell hb) h2).trans hb,hb'⟩⟩
theorem Ju(w:World)(e:TypeId)(s:af):Keep nM w (Lib.bytesWorld w e s):=Keep.vg (Lib.bytesWorld_below w e s)
def NumSaid(s:af)(e:Ending):Prop:=∃(n:Int) (b:Bool),e= .returned (.tuple #[.int .i64 n,.bool b])∧(match yU s.data.toList with|some v=>n=v∧b=true|none=>b=false)
theorem SS(s:af)(w:World)(hs:s.size<=1000000)(T:uH w)(E:EJ w):
  ae 96 #[.string s] w λe w'=>NumSaid s e∧Keep nM w w':=by
 have hbad:∀(n:Int) (N:Nat),yU s.data.toList=none->ae 110 #[.string s] w (λe w'=>∃N,e= .returned (.tuple #[.int .i64 n,.iface 254 (.pointer (some ⟨N,0,none⟩))])∧Keep nM w w')->
   ae 96 #[.string s] w λe w'=>NumSaid s e∧Keep nM w w':=by
  intro n N hno hc;have HS:Hid (NumSaid s (.returned (.tuple #[.int .i64 n,.bool false]))):=ag ⟨n,false,rfl,by rw[hno]⟩;clear hno;go_enter Tryz.func96,Tryz.ntmps96;go_wp2_with fail;refine hc.mono ?_;rintro e w1 ⟨N1,rfl,K1⟩;go_wp2_with fail
  go_ret2
  exact⟨HS.out,K1⟩
 cases hA:Lib.atoiAll s.data.toList with
 | ok v=>
  have hc:=Tryz.strconv_Atoi_ok s (by omega) v hA w;have hvb:=Lib.atoiAll_bounds hA;obtain⟨it,hit⟩:∃it:af,it=⟨(Lib.itoa v).toArray⟩:=⟨_,rfl⟩
  have xZ:=λw1 (K:Keep nM w w1)=>uS v hvb.1 hvb.2 w1 (T.keep K (λx=>x));rw[<-hit]at xZ;have Du:it.data.toList=Lib.itoa v:=by rw[hit]
  obtain⟨B,hB⟩:∃B,B=(it.toList==s.toList):=⟨_,rfl⟩
  have hS:NumSaid s (.returned (.tuple #[.int .i64 v,.bool B])):=by
   refine⟨v,B,rfl,?_⟩;rw[yU,hA];show(match (if Lib.itoa v=s.data.toList then some v else none)with|some v_1=>v=v_1∧B=true|none=>B=false);rw[bQ,bQ,Du]at hB;by_cases e:Lib.itoa v=s.data.toList
   ·rw[aP e];exact⟨rfl,by rw[hB,e];exact fV _⟩
   ·rw[aB e];rw[hB];exact dS.2 e
  have HS:=ag hS;have Ej:=ag xZ;have hB':=hB.symm;clear hS xZ hit Du hB hbad hA;go_enter Tryz.func96,Tryz.ntmps96;go_wp2_with fail;refine hc.mono ?_;rintro e w1 ⟨rfl,hw1⟩;have K1:Keep nM w w1:=by
   rcases hw1 with rfl|⟨t,rfl⟩
   ·exact ah _ _
   ·exact Ju _ _ _
  clear hw1;go_wp2_with fail;refine(Ej.out _ K1).mono ?_;rintro e w2 ⟨rfl,K2⟩;go_wp2_with fail
  go_ret2
  exact⟨HS.out,K1.nK K2⟩
 | range=>
  obtain⟨ev,hv,hev⟩:=E.range;refine hbad (Lib.atoiSat s.data.toList) 0 (by rw[yU,hA]) ?_;refine(Tryz.strconv_Atoi_range s (by omega) hA ev w hv hev).mono ?_;rintro e w' ⟨N,rfl,_,_,hb⟩;exact⟨N,rfl,Keep.vg hb⟩
 | _=>
  obtain⟨ev,hv,hev⟩:=E.form;refine hbad 0 0 (by rw[yU,hA]) ?_;refine(Any.strconv_Atoi_syntax Tryz.laysC172 s (by omega) hA ev w hv hev).mono ?_;rintro e w' ⟨N,rfl,_,_,hb⟩;exact⟨N,rfl,Keep.vg hb⟩
structure wK(w:World):Prop where
 pow:uH w
 errs:EJ w
 max:∃m,w.cell? ⟨3,0,none⟩=some (.int .i64 m)
theorem wK.keep{w w':World}(h:wK w)(hk:Keep nM w w'):wK w':=by obtain⟨m,hm⟩:=h.max;exact⟨h.pow.keep hk (λx=>x),h.errs.keep hk (λx=>x) (λx=>x),m,(hk.cell (p:=⟨3,0,none⟩) (Lib.lt_of_cell hm) (λx=>x)).trans hm⟩
theorem Ny(s:af)(c:UInt8)(w:World)(hs:s.size<=1000000)(V:wK w):
  ae 94 #[.string s,.string ⟨#[c]⟩] w λe w'=>∃P:List af,P.map (·.data.toList)=pieces c s.data.toList∧e= .returned (.slice (some ⟨w.heap.size,0,none⟩) P.length P.length)∧w'.heap[w.heap.size]? =some (.cells (P.map Value.string).toArray 9 (0,0))∧Keep nM w w':=by
 obtain⟨m,hm⟩:=V.max;refine(Tryz.strings_Split s ⟨#[c]⟩ m w (by omega) hm (aF 1)).mono ?_;rintro e w' ⟨rfl,rfl⟩;have hP:=UJ c s;have hl:(Lib.splitB ⟨#[c]⟩ 0 (Lib.countB s ⟨#[c]⟩) s).length=Lib.countB s ⟨#[c]⟩+1:=Lib.splitB_all ⟨#[c]⟩ (aF 1) 0 _ s rfl;exact⟨_,hP,by rw[hl],aG w _,(ah _ _).alloc _⟩
theorem wP{w:World}{b i:Nat}{cur:Array Value}{E:TypeId}{fz:Nat×Nat}{u:Value}(h:w.heap[b]? =some (.cells cur E fz))(hu:cur[i]? =some u):w.setCell ⟨b,i,none⟩ u=w:=by
 have hlt:=lt_of_heap h;have e:(w.heap.modify b λo=>match o with| .cells c e fr=> .cells (c.setIfInBounds i u) e fr|o=>o)=w.heap:=by
  apply lF;intro k;rw[gq];split
  ·rename_i hk;subst hk;rw[h]
   have:cur.setIfInBounds i u=cur:=by
    apply lF;intro j;rw[jZ];split
    ·rename_i hj;subst hj;split
     ·exact hu.symm
     ·rename_i hn;rw[dU (by omega)]
    ·rfl
   simp[this]
  ·rfl
 show { w with heap:=_ } =w;have e2:(w.setCell ⟨b,i,none⟩ u).heap=w.heap:=e;exact dK (λhp=> { w with heap:=hp }) e2
theorem DC{fn:Func}{t u:Tmp}{ty:TypeId}(h:fn.results= #[.cell t ty,.tmp u]){tmps:Array Value}{P:Program}{w:World}{a:Addr}{x:Value}(ha:tmps.getD t undef= .pointer (some a))(hl:(loadVar ty a).run P w= .ok x w):
  (results fn tmps).run P w= .ok (.tuple #[x,tmps.getD u undef]) w:=by
 rw[Array.getD_eq_getD_getElem?]at ha;simp[results,h,ha,asAddr,hl]
theorem ziV(s:af)(w:World)(hs:s.size<=1000000)(V:wK w)(hf:(pieces 32 s.data.toList).length<3):
  ae 97 #[.string s] w λe w'=>e= .returned (.tuple #[.agg #[.string ⟨#[]⟩,.string ⟨#[]⟩,.slice none 0 0],.bool false])∧Keep nM w w':=by
 have hsp:=λw1 (K:Keep nM w w1)=>Ny s 32 w1 hs (V.keep K);have Hsp:=ag hsp;clear hsp;go_enter Tryz.func97,Tryz.ntmps97;go_wp2_with fail;refine(Hsp.out _ ((ah _ _).alloc _)).mono ?_;rintro e w1 ⟨P,hP,rfl,hrow,K1⟩;have hPl:P.length<3:=by have:=dK List.length hP;rw[aI]at this;omega
 have h3:(P.length:Int)<3:=by omega
 have hz:w1.heap[w.heap.size]? =some (.cells #[.string ⟨#[]⟩,.string ⟨#[]⟩,.slice none 0 0] 101 (0,0)):=K1.heap (aG w _) (λx=>x);have z0:w1.cell? ⟨w.heap.size,0,none⟩=some (.string ⟨#[]⟩):=by rw[aO _ _ _ _ _ (0,0) hz];rfl
 have z1:w1.cell? ⟨w.heap.size,1,none⟩=some (.string ⟨#[]⟩):=by rw[aO _ _ _ _ _ (0,0) hz];rfl
 have z2:w1.cell? ⟨w.heap.size,2,none⟩=some (.slice none 0 0):=by rw[aO _ _ _ _ _ (0,0) hz];rfl
 have f0:∀i,w1.frozen? ⟨w.heap.size,i,none⟩=false:=λi=>dZ hz i;clear hP hrow hf Hsp;go_wp2_with fail;have hzz:(((w1.setCell ⟨w.heap.size,0,none⟩ (.string ⟨#[]⟩)).setCell ⟨w.heap.size,1,none⟩ (.string ⟨#[]⟩)).setCell ⟨w.heap.size,2,none⟩ (.slice none 0 0))=w1:=by have h1:w1.setCell ⟨w.heap.size,0,none⟩ (.string ⟨#[]⟩)=w1:=wP hz rfl;rw[h1,wP hz rfl,wP hz rfl]
 rw[hzz];refine dW (DC (x:= .agg #[.string ⟨#[]⟩,.string ⟨#[]⟩,.slice none 0 0]) rfl rfl ?_) rfl ⟨rfl,((ah _ _).alloc _).nK K1⟩;go_simp
def Gn(w:World)(v:Value):Prop:=∀g,v.ownBlock=some g->∃cs fz,w.heap[g]? =some (.cells cs 3 fz)
def OneSaid(s:af)(w':World)(e:Ending):Prop:=∃(nm tg:af) (pa:Option Addr) (na ca:Nat) (b:Bool),e= .returned (.tuple #[.agg #[.string nm,.string tg,.slice pa na ca],.bool b])∧(match DL s.data.toList with|some x=>b=true∧nm=x.1∧tg=x.2.1∧Nums w' (.slice pa na ca) x.2.2∧Gn w' (.slice pa na ca)|none=>b=false)
def zij(N:Nat)(a b:af)(W:World):Prop:=W.cell? ⟨N,0,none⟩=some (.string a)∧W.cell? ⟨N,1,none⟩=some (.string b)
def intCells(l:List Int):List Value:=l.map (Value.int .i64)
theorem NH(c:UInt8):∀(l:List UInt8),∀p∈pieces c l,p.length<=l.length
 | [],p,hp=>by rw[pieces,bD]at hp;rw[hp];exact aF _
 | b::l,p,hp=>by
  have ih:=NH c l;rw[pieces]at hp;split at hp
  ·rcases bK.1 hp with rfl|hp
   ·exact dL _
   ·have:=ih p hp;rw[aK];omega
  ·split at hp
   ·rw[bD.1 hp];simp
   ·rename_i q r e;rcases bK.1 hp with rfl|hp
    ·have:=ih q (by rw[e];exact aY);simpa using this
    ·have:=ih p (by rw[e];exact aQ _ hp);rw[aK];omega
theorem MI:∀(l:List (List UInt8)) (k:Nat) (t:List UInt8),l[k]? =some t->yU t=none->rY l=none
 | [],k,t,h,_=>by simp at h
 | x::l,0,t,h,hn=>by
  obtain rfl:x=t:=by simpa using h
  rw[rY,hn]
 | x::l,k+1,t,h,hn=>by
  rw[rY];cases yU x with
  | none=>rfl
  | some n=>
   have:=MI l k t (by simpa using h) hn;simp[this]
theorem MH:∀(l:List (List UInt8)) (t:List UInt8) (ns:List Int) (n:Int),rY l=some ns->yU t=some n->rY (l++ [t])=some (ns++ [n])
 | [],t,ns,n,h,hn=>by
  obtain rfl: []=ns:=by simpa [rY]using h
  simp[rY,hn]
 | x::l,t,ns,n,h,hn=>by
  rw[rY]at h;rw[dI,rY];cases hx:yU x with
  | none=>rw[hx]at h;cases h
  | some v=>
   rw[hx]at h;cases hl:rY l with
   | none=>rw[hl]at h;cases h
   | some ms=>
    rw[hl]at h;obtain rfl:v::ms=ns:=by simpa using h
    rw[MH l t ms n hl hn];rfl
theorem yu{w:World}{base:Nat}{v:Value}{ns:List Int}(h:nV w base 3 1 v ns.length (intCells ns)):Nums w v ns:=by
 have h0:=h;rcases h.2 with⟨hv,hn⟩|⟨g,cap,cur,fz,hv,_,hg,_⟩
 ·exact .inl ⟨aU hn,none,0,hv⟩
 ·refine .inr ⟨g,0,cap,hv,lt_of_heap hg,λi hi=> ?_⟩;have:=h0.cells (by rw[hv];rfl) i (.int .i64 (ns.getD i 0)) (by rw[intCells,bC,ax,aC hi];rfl)
  rwa [show(⟨g,0,none⟩:Addr).add i=⟨g,0+i,none⟩by unfold Addr.add;split<;>simp_all]at this
theorem uD{w:World}{base:Nat}{e:TypeId}{size:Nat}{v:Value}{n:Nat}{xs:List Value}(h:nV w base e size v n xs):∃p c,v= .slice p n c:=by
 rcases h.2 with⟨h,hn⟩|⟨_,_,_,_,h,_⟩
 ·exact⟨none,0,by rw[h,hn]⟩
 ·exact⟨_,_,h⟩
theorem Zg:∃i,Tryz.prog.info? 3=some i∧i.zero=some (.int .i64 0)∧i.size=1∧i.bytes=8:=by
 have h:(Tryz.prog.info? 3).map (λi=>(i.zero,i.size,i.bytes))=some (some (.int .i64 0),1,8):=by kernel_rfl
 cases hi:Tryz.prog.info? 3 with
 | none=>rw[hi]at h;cases h
 | some i=>
  rw[hi]at h;simp only[eQ,eU,iE]at h;exact⟨i,rfl,h.1,h.2.1,h.2.2⟩
theorem zg0(s:af)(w:World)(hs:s.size<=1000000)(V:wK w)(hf:3<=(pieces 32 s.data.toList).length):
  ae 97 #[.string s] w λe w'=>OneSaid s w' e∧Keep nM w w':=by
 have hsp:=λw1 (K:Keep nM w w1)=>Ny s 32 w1 hs (V.keep K);have Hsp:=ag hsp;have HV:=ag V;clear hsp V;go_enter Tryz.func97,Tryz.ntmps97;go_wp2_with fail;refine(Hsp.out _ ((ah _ _).alloc _)).mono ?_;rintro e w1 ⟨P,hP,rfl,hrow,K1⟩;have hPl:3<=P.length:=by have:=dK List.length hP;rw[aI]at this;omega
 obtain⟨a,b,c,R,rfl⟩:∃a b c R,P=a::b::c::R:=by
  match P,hPl with
  | a::b::c::R,_=>exact⟨a,b,c,R,rfl⟩
 have hsz:(w.alloc (.cells #[.string ⟨#[]⟩,.string ⟨#[]⟩,.slice none 0 0] 101)).heap.size=w.heap.size+1:=by show(w.heap.push _).size=_;rw[dY]
 rw[hsz]at hrow;obtain⟨m,hm⟩:∃m,m=(a::b::c::R).length:=⟨_,rfl⟩
 have hm3:3<=m:=by rw[hm];exact hPl
 have h3:¬((m:Int)<3):=by omega
 have h0n:0<m:=by omega
 have h1n:1<m:=by omega
 have h0m:(0:Int)<m:=by omega
 have h1m:(1:Int)<m:=by omega
 have K0:Keep nM w w1:=((ah _ _).alloc _).nK K1;have hz:w1.heap[w.heap.size]? =some (.cells #[.string ⟨#[]⟩,.string ⟨#[]⟩,.slice none 0 0] 101 (0,0)):=K1.heap (aG w _) (λx=>x);obtain⟨N,hN⟩:∃N,N=w.heap.size+1:=⟨_,rfl⟩
 obtain⟨Z,hZ⟩:∃Z,Z=w.heap.size:=⟨_,rfl⟩
 rw[<-hm];rw[<-hN]at hrow;rw[<-hZ]at hz;have cP:∀j t,(a::b::c::R)[j]? =some t->w1.cell? ⟨N,j,none⟩=some (.string t):=λj t ht=>by rw[aO _ _ _ _ _ (0,0) hrow,aj,bC,ht];rfl
 have hNlt:=lt_of_heap hrow;have L0:zij N a b w1:=⟨cP 0 a rfl,cP 1 b rfl⟩
 have l0:∀x:rE (zij N a b),x.w.cell? ⟨N,0,none⟩=some (.string a):=λx=>x.h.1;have l1:∀x:rE (zij N a b),x.w.cell? ⟨N,1,none⟩=some (.string b):=λx=>x.h.2;have HP:=ag hP;have HcP:=ag cP;have zds:=ag hrow;have Hm:=ag hm;have HN:=ag hN;have HZ:=ag hZ;have HL0:=ag L0;rw[hsz,<-hN];clear hP cP hm hrow hN hZ L0 hsz hf hPl Hsp K1;go_wp2_with fail;refine xJ (zij N a b) [0,1,2,3,4,5,6] [7,8] (by kernel_rfl) (by kernel_rfl) (λc a d v w h=>by cases d<;>exact h) ?_;simp only[nR,aj,ak,au]
 repeat(refine nJ (λK hK=> ?_);go_simp;first|(refine⟨_,λ_=>rfl,hK _ ?_⟩;clear hK K)|(refine hK _ ?_;clear hK K))
 refine nH ?_;clear l0 l1;simp only[Em,nR,aj,ak,au];refine⟨HL0.out,?_⟩;go_wp2_with fail;have KA:Keep nM w1 (w1.alloc (.cells #[.string ⟨#[]⟩,.string ⟨#[]⟩,.slice none 0 0] 101)).drew:=((ah _ _).alloc _).drew;refine⟨⟨(KA.cell (p:=⟨N,0,none⟩) hNlt (λx=>x)).trans HL0.out.1,(KA.cell (p:=⟨N,1,none⟩) hNlt (λx=>x)).trans HL0.out.2⟩,?_⟩;clear KA;go_wp2_with fail;have hX0:(w1.alloc (.cells #[.string a,.string b,.slice none 0 0] 101)).drew.heap[w1.heap.size]? =some (.cells #[.string a,.string b,.slice none 0 0] 101 (0,0)):=aG w1 _;have KX0:Keep nM w1 (w1.alloc (.cells #[.string a,.string b,.slice none 0 0] 101)).drew:=((ah _ _).alloc _).drew;obtain⟨w2,hw2⟩:∃w2,w2=(w1.alloc (.cells #[.string a,.string b,.slice none 0 0] 101)).drew:=⟨_,rfl⟩
 obtain⟨X,hX⟩:∃X,X=w1.heap.size:=⟨_,rfl⟩
 rw[<-hw2]at hX0 KX0⊢;rw[<-hX]at hX0⊢;have HX:=ag hX;have HX0:=ag hX0;clear hw2 hX hX0;obtain⟨ws,hws⟩:∃ws:List (List UInt8),ws=(c::R).map (·.data.toList):=⟨_,rfl⟩
 have Hws:=ag hws;have hm2:m-2+2=m:=by omega
 clear hws
 go_loopw [26] (λiv wr=>∃(k:Nat) (ns:List Int) (av:Value),iv= .int .i64 k∧k<=m-2∧Hid (rY (ws.take k)=some ns∧ns.length=k)∧Hid (wr.heap[X]? =some (.cells #[.string a,.string b,av] 101 (0,0)))∧Hid (nV wr w1.heap.size 3 1 av k (intCells ns))∧Keep nM w1 wr) (λiv _=>m-2-(intOf iv).toNat)
 case atStart=>exact⟨0,[],_,rfl,by omega,ag ⟨by rw[bZ];rfl,rfl⟩,HX0,ag (nV.nil _ _ _ _),KX0⟩
 case round=>
  clear KX0 HX0;obtain⟨k,ns,av,rfl,hk,hns,hXr,hO,K⟩:=hrel;obtain⟨wo,rfl⟩:∃wo,wo=wr:=⟨_,rfl⟩
  have hwl:ws.length=m-2:=by rw[Hws.out,aI,Hm.out];simp
  have Hwl:=ag hwl;clear hwl;by_cases hlt:k<m-2
  ·have k1:(k:Int)<((m-2:Nat):Int):=by omega
   obtain⟨t,ht⟩:∃t,(c::R)[k]? =some t:=⟨_,aC (by have h:=Hm.out;simp at h⊢;omega)⟩
   have ct:wo.cell? ⟨N,2+k,none⟩=some (.string t):=(K.cell (p:=⟨N,2+k,none⟩) hNlt (λx=>x)).trans (HcP.out (2+k) t (by rw[show 2+k=k+1+1 by omega];simpa using ht));have hwt:ws[k]? =some t.data.toList:=by rw[Hws.out,bC,ht];rfl
   have htl:t.size<=1000000:=by have h1:=NH 32 s.data.toList t.data.toList (by rw[<-HP.out];exact bf.2 ⟨t,aQ _ (aQ _ (bg ht)),rfl⟩);have h2:s.data.toList.length=s.size:=rfl;have h3:t.data.toList.length=t.size:=rfl;omega
   have hnum:=SS t wo htl (HV.out.keep (K0.nK K)).pow (HV.out.keep (K0.nK K)).errs;have tq:=ag hnum;have Hwt:=ag hwt;clear hnum hwt ht;go_wp2_with fail;refine tq.out.mono ?_;rintro e w3 ⟨⟨n,B,rfl,hnb⟩,K3⟩;have MP:=ag hnb;clear hnb;cases B with
   | false=>
    have hz3:w3.heap[w.heap.size]? =some (.cells #[.string ⟨#[]⟩,.string ⟨#[]⟩,.slice none 0 0] 101 (0,0)):=by rw[<-HZ.out];exact(K.nK K3).heap hz (λx=>x)
    have z0:w3.cell? ⟨w.heap.size,0,none⟩=some (.string ⟨#[]⟩):=by rw[aO _ _ _ _ _ (0,0) hz3];rfl
    have z1:w3.cell? ⟨w.heap.size,1,none⟩=some (.string ⟨#[]⟩):=by rw[aO _ _ _ _ _ (0,0) hz3];rfl
    have z2:w3.cell? ⟨w.heap.size,2,none⟩=some (.slice none 0 0):=by rw[aO _ _ _ _ _ (0,0) hz3];rfl
    have f0:∀i,w3.frozen? ⟨w.heap.size,i,none⟩=false:=λi=>dZ hz3 i;have hnone:yU t.data.toList=none:=by
     have h:=MP.out;cases hn:yU t.data.toList with
     | none=>rfl
     | some v=>rw[hn]at h;cases h.2
    have hone:DL s.data.toList=none:=by have hp:=HP.out;have h2:=MI ws k _ Hwt.out hnone;rw[Hws.out]at h2;rw[DL,<-hp];show Option.map _ (rY ((c::R).map (·.data.toList)))=none;rw[h2];rfl
    have hS:∀W,OneSaid s W (.returned (.tuple #[.agg #[.string ⟨#[]⟩,.string ⟨#[]⟩,.slice none 0 0],.bool false])):=λW=>⟨_,_,_,_,_,false,rfl,by rw[hone]⟩
    have HS:=ag hS;clear hnone hone hS;go_wp2_with fail;have hzz:(((w3.setCell ⟨w.heap.size,0,none⟩ (.string ⟨#[]⟩)).setCell ⟨w.heap.size,1,none⟩ (.string ⟨#[]⟩)).setCell ⟨w.heap.size,2,none⟩ (.slice none 0 0))=w3:=by have h1:w3.setCell ⟨w.heap.size,0,none⟩ (.string ⟨#[]⟩)=w3:=wP hz3 rfl;rw[h1,wP hz3 rfl,wP hz3 rfl]
    rw[hzz];refine dW (DC (x:= .agg #[.string ⟨#[]⟩,.string ⟨#[]⟩,.slice none 0 0]) rfl rfl ?_) rfl ⟨HS.out _,K0.nK (K.nK K3)⟩;go_simp
   | true=>
    have hsome:yU t.data.toList=some n:=by
     have h:=MP.out;cases hn:yU t.data.toList with
     | none=>rw[hn]at h;cases h
     | some v=>rw[hn]at h;rw[h.1]
    have hX3:=K3.heap hXr.out (λx=>x);obtain⟨pv,cv,hav⟩:=uD hO.out;subst hav;have x2:w3.cell? ⟨X,2,none⟩=some (.slice pv k cv):=by rw[aO _ _ _ _ _ (0,0) hX3];rfl
    have hO3:=hO.out.keep K3 (λ_ _ x=>x);have hs3:w1.heap.size<=w3.heap.size:=(K.nK K3).size;obtain⟨ii,hii,hzi,hsi,hbi⟩:=Zg;have hkm:k<=1000001:=by
     have h1:=pieces_len 32 s.data.toList;have h2:m=(pieces 32 s.data.toList).length:=by rw[<-HP.out,aI];exact Hm.out
     have h3:s.data.toList.count 32<=s.data.toList.length:=mi;have h4:s.data.toList.length=s.size:=rfl;omega
    have hfX:∀w4,(w3.alloc (.cells #[.int .i64 n] 3)).grownBy w4 (Value.slice pv k cv).ownBlock->w4.heap[X]? =some (.cells #[.string a,.string b,.slice pv k cv] 101 (0,0)):=by
     intro w4 hg4;rw[hg4.block X (by show X<(w3.heap.push _).size;rw[dY];have:=lt_of_heap hX3;omega) (λe=> ?_)]
     ·rw[kK _ _ _ (lt_of_heap hX3)];exact hX3
     ·rcases hO3.2 with⟨hv,_⟩|⟨g,cap,cur,fz,hv,_,hgg,_⟩
      ·rw[hv]at e;cases e
      ·rw[hv]at e;have e2:X=g:=aH e;subst e2;exact absurd (EN hX3 hgg) (by decide)
    have HfX:=ag hfX;have U5:=ag hX3;clear hfX;have zod:=ag hsome;clear hX3 hsome;go_wp2_with (at_builtin;refine qc _ rfl _ _ 99 rfl w1.heap.size 3 ii _ 1 8 Tryz.underlying99 hii hzi hsi hbi rfl (by decide) (.slice pv k cv) k _ rfl (hO3.alloc _) ⟨w3.heap.size,0,none⟩ 1 1 [.int .i64 n] rfl rfl (qj _ _ _) (by intro u hu;rw[bD.1 hu];rfl) (by unfold maxLen;omega) (by omega) (by show w1.heap.size<=(w3.heap.push _).size;rw[dY];omega) ?_;intro v4 w4 own4 hg4;have hX4:=HfX.out _ hg4;have y2:w4.cell? ⟨X,2,none⟩=some (.slice pv k cv):=(aO _ _ _ _ _ (0,0) hX4).trans rfl;have fX:w4.frozen? ⟨X,2,none⟩=false:=dZ hX4 2;obtain⟨p4,c4,hv4⟩:=uD own4;subst hv4);have KS:Keep (nY X) w4 (w4.setCell ⟨X,2,none⟩ (.slice p4 (k+1) c4)):=(ah (nY X) w4).set1 2 _;have hX5:(w4.setCell ⟨X,2,none⟩ (.slice p4 (k+1) c4)).heap[X]? =some (.cells #[.string a,.string b,.slice p4 (k+1) c4] 101 (0,0)):=by
     have hlt:=lt_of_heap hX4;have h':w4.heap[X]= .cells #[.string a,.string b,.slice pv k cv] 101 (0,0):=by simpa [bW hlt]using hX4
     show(w4.heap.modify X _)[X]? =_;rw[bW (by simpa using hlt),eu,h'];rfl
    have Ai:=own4.keep KS (λg hg hs=>by
     have h1:g=X:=hs;subst h1;rcases own4.2 with⟨hv,_⟩|⟨g',cap,cur,fz,hv,_,hgg,_⟩
     ·rw[hv]at hg;cases hg
     ·rw[hv]at hg;obtain rfl:g'=g:=aH hg;exact absurd (EN hX4 hgg) (by decide))
    have K5:Keep nM w1 (w4.setCell ⟨X,2,none⟩ (.slice p4 (k+1) c4)):=(((K.nK K3).alloc _).grown hg4 (λq hq=> .inr (hO3.lt q hq).1)).trans KS (λi hi hs=>by have h:i=X:=hs;have:=HX.out;omega);refine⟨⟨k+1,ns++ [n],_,by go_num,by omega,ag ⟨?_,by rw[ay,hns.out.2];rfl⟩,ag hX5,ag ?_,K5⟩,by simp[intOf];omega⟩
    ·have hk2:=(aN.1 Hwt.out)
     rw[aT hk2.1,hk2.2];exact MH _ _ _ _ hns.out.1 zod.out
    ·rw[show intCells (ns++ [n])=intCells ns++ [.int .i64 n]by simp[intCells]];exact Ai
  ·obtain⟨pv,cv,hav⟩:=uD hO.out;subst hav;have x0:wo.cell? ⟨X,0,none⟩=some (.string a):=by rw[aO _ _ _ _ _ (0,0) hXr.out];rfl
   have x1:wo.cell? ⟨X,1,none⟩=some (.string b):=by rw[aO _ _ _ _ _ (0,0) hXr.out];rfl
   have x2:wo.cell? ⟨X,2,none⟩=some (.slice pv k cv):=by rw[aO _ _ _ _ _ (0,0) hXr.out];rfl
   have hz3:wo.heap[w.heap.size]? =some (.cells #[.string ⟨#[]⟩,.string ⟨#[]⟩,.slice none 0 0] 101 (0,0)):=by rw[<-HZ.out];exact K.heap hz (λx=>x)
   have z0:wo.cell? ⟨w.heap.size,0,none⟩=some (.string ⟨#[]⟩):=by rw[aO _ _ _ _ _ (0,0) hz3];rfl
   have z1:wo.cell? ⟨w.heap.size,1,none⟩=some (.string ⟨#[]⟩):=by rw[aO _ _ _ _ _ (0,0) hz3];rfl
   have z2:wo.cell? ⟨w.heap.size,2,none⟩=some (.slice none 0 0):=by rw[aO _ _ _ _ _ (0,0) hz3];rfl
   have f0:∀i,wo.frozen? ⟨w.heap.size,i,none⟩=false:=λi=>dZ hz3 i;have j1:¬((k:Int)<((m-2:Nat):Int)):=by omega
   go_wp2_with fail;have hZX:w.heap.size<w1.heap.size:=by have:=lt_of_heap hz;have:=HZ.out;omega
   have KZ:Keep (nY w.heap.size) wo (((wo.setCell ⟨w.heap.size,0,none⟩ (.string a)).setCell ⟨w.heap.size,1,none⟩ (.string b)).setCell ⟨w.heap.size,2,none⟩ (.slice pv k cv)):=(((ah (nY w.heap.size) wo).set1 0 _).set1 1 _).set1 2 _;have hNm:Nums wo (.slice pv k cv) ns:=yu (by rw[hns.out.2];exact hO.out);have zpg:=hNm.keep KZ (λg hg hs=>by have h1:=(hO.out.lt g hg).1;have h2:g=w.heap.size:=hs;omega)
   have hIR:Gn (((wo.setCell ⟨w.heap.size,0,none⟩ (.string a)).setCell ⟨w.heap.size,1,none⟩ (.string b)).setCell ⟨w.heap.size,2,none⟩ (.slice pv k cv)) (.slice pv k cv):=by
    intro g hg;rcases hO.out.2 with⟨hv,_⟩|⟨g',cap,cur,fz,hv,hbg,hgg,_⟩
    ·rw[hv]at hg;cases hg
    ·rw[hv]at hg;obtain rfl:g'=g:=aH hg;exact⟨_,_,KZ.heap hgg (λhs=>by have h2:g'=w.heap.size:=hs;omega)⟩
   have hone:DL s.data.toList=some (a,b,ns):=by have h2:=hns.out.1;rw[aV (by rw[Hwl.out];exact Nat.le_of_eq (by omega)),Hws.out]at h2;rw[DL,<-HP.out];show Option.map _ (rY ((c::R).map (·.data.toList)))=_;rw[h2];rfl
   refine dW (DC (x:= .agg #[.string a,.string b,.slice pv k cv]) rfl rfl ?_) rfl ⟨⟨a,b,_,_,_,true,rfl,by rw[hone];exact⟨rfl,rfl,rfl,zpg,hIR⟩⟩,(K0.nK K).trans KZ (λi hi hs=>by have h:i=w.heap.size:=hs;omega)⟩;go_simp
section
open Go.Lib
theorem PR:∀(l:List (List UInt8)) (ns:List Int),rY l=some ns->ns.length=l.length
 | [],ns,h=>by
  obtain rfl: []=ns:=by simpa [rY]using h
  rfl
 | t::l,ns,h=>by
  rw[rY]at h;cases ht:yU t with
  | none=>rw[ht]at h;cases h
  | some n=>
   rw[ht]at h;cases hl:rY l with
   | none=>rw[hl]at h;cases h
   | some ms=>
    rw[hl]at h;obtain rfl:n::ms=ns:=by simpa using h
    rw[aK,aK,PR l ms hl]
theorem zg2{t:List UInt8}{x:pR}(h:DL t=some x):x.2.2.length<=t.length:=by
 have hl:=pieces_len 32 t;have hc:t.count 32<=t.length:=mi;rw[DL]at h;split at h
 ·rename_i a b c r hp;cases hn:rY (c::r)with
  | none=>rw[hn]at h;cases h
  | some ns=>
   rw[hn]at h;have h2:=PR _ _ hn;have h3:x.2.2=ns:=by rw[<-aH h]
   rw[hp]at hl;simp only[aK]at hl h2;rw[h3,h2];omega
 ·cases h
theorem MG:∀(l:List (List UInt8)) (k:Nat) (t:List UInt8),l[k]? =some t->DL t=none->allOnes l=none
 | [],k,t,h,_=>by simp at h
 | x::l,0,t,h,hn=>by
  obtain rfl:x=t:=by simpa using h
  rw[allOnes,hn]
 | x::l,k+1,t,h,hn=>by
  rw[allOnes];cases DL x with
  | none=>rfl
  | some n=>
   have:=MG l k t (by simpa using h) hn;simp[this]
theorem MF:∀(l:List (List UInt8)) (t:List UInt8) (ns:List pR) (n:pR),allOnes l=some ns->DL t=some n->allOnes (l++ [t])=some (ns++ [n])
 | [],t,ns,n,h,hn=>by
  obtain rfl: []=ns:=by simpa [allOnes]using h
  simp[allOnes,hn]
 | x::l,t,ns,n,h,hn=>by
  rw[allOnes]at h;rw[dI,allOnes];cases hx:DL x with
  | none=>rw[hx]at h;cases h
  | some v=>
   rw[hx]at h;cases hl:allOnes l with
   | none=>rw[hl]at h;cases h
   | some ms=>
    rw[hl]at h;obtain rfl:v::ms=ns:=by simpa using h
    rw[MF l t ms n hl hn];rfl
end
theorem one_any(s:af)(w:World)(hs:s.size<=1000000)(V:wK w):
  ae 97 #[.string s] w λe w'=>OneSaid s w' e∧Keep nM w w':=by
 by_cases hf:(pieces 32 s.data.toList).length<3
 ·refine(ziV s w hs V hf).mono ?_;rintro e w' ⟨rfl,K⟩;have hone:DL s.data.toList=none:=by
   rw[DL]
   match hp:pieces 32 s.data.toList,hf with
   | [],_=>rfl
   | [_],_=>rfl
   | [_,_],_=>rfl
   | _::_::_::_,h=>simp at h;omega
  exact⟨⟨_,_,_,_,_,false,rfl,by rw[hone]⟩,K⟩
 ·exact zg0 s w hs V (by omega)
section
open Go.Sort Go.Shelf
theorem zm2(a b:af):(@BEq.beq (List UInt8) (@List.instBEq UInt8 instBEqOfDecidableEq) a.toList b.toList)=decide (a=b):=by
 by_cases h:a=b
 ·rw[bJ h,h];exact fV _
 ·rw[bV h];exact dS.2 λe=>h (toList_inj e)
end
def xW(s:af)(w':World)(e:Ending):Prop:=match x8 s.data.toList with
 | some (d,l)=>∃(v:Value) (L:List oK),e= .returned (.tuple #[.int .i64 d,v,.nilIface])∧L.map nZ=l∧Items w' v L∧∀x∈L,Gn w' x.av
 | none=>e= .returned (.tuple #[.int .i64 0,.slice none 0 0,errVal 3])
theorem parse_any(s:af)(w:World)(hs:s.size<=1000000)(V:wK w):
  ae 59 #[.string s] w λe w'=>xW s w' e∧Keep nM w w':=by
 have hsp:=Ny s 10 w hs V;have Hsp:=ag hsp;have HV:=ag V;clear hsp V;go_enter Tryz.func59,Tryz.ntmps59;go_wp2_with fail;refine Hsp.out.mono ?_;rintro e w1 ⟨P,hP,rfl,hrow,K1⟩;have zmT:P≠ []:=λe=>by rw[e]at hP;exact VG 10 _ hP.symm
 obtain⟨hd,R,rfl⟩:∃hd R,P=hd::R:=by
  cases P with
  | nil=>exact absurd rfl zmT
  | cons a R=>exact⟨a,R,rfl⟩
 obtain⟨m,hm⟩:∃m,m=(hd::R).length:=⟨_,rfl⟩
 have hm1:0<m:=by rw[hm];simp
 obtain⟨N,hN⟩:∃N,N=w.heap.size:=⟨_,rfl⟩
 rw[<-hm];rw[<-hN]at hrow⊢;have cP:∀j t,(hd::R)[j]? =some t->w1.cell? ⟨N,j,none⟩=some (.string t):=λj t ht=>by rw[aO _ _ _ _ _ (0,0) hrow,aj,bC,ht];rfl
 have c0:=cP 0 hd rfl;have hhead:Nl s.data.toList=hd.data.toList:=by rw[Nl,<-hP];rfl
 have zgd:EH s.data.toList=(R.map (·.data.toList)).dropLast:=by rw[EH,<-hP];rfl
 have zkD:∀t∈hd::R,t.size<=1000000:=λt ht=>by have h1:=NH 10 s.data.toList t.data.toList (by rw[<-hP];exact bf.2 ⟨t,ht,rfl⟩);have h2:s.data.toList.length=s.size:=rfl;have h3:t.data.toList.length=t.size:=rfl;omega
 have hm6:m<=1000001:=by
  have h1:=pieces_len 10 s.data.toList;have h2:m=(pieces 10 s.data.toList).length:=by rw[<-hP,aI];exact hm
  have h3:s.data.toList.count 10<=s.data.toList.length:=mi;have h4:s.data.toList.length=s.size:=rfl;omega
 have hcut:∀w,ae 95 #[.string hd,.string ⟨#[100,105,109,32]⟩] w λe w'=>e= .returned (.tuple #[.string ⟨(Lib.trimPrefix hd.data.toList BF).toArray⟩,.bool (Lib.hasPrefix hd.data.toList BF)])∧w'=w:=λw=>Tryz.strings_CutPrefix hd ⟨#[100,105,109,32]⟩ w;obtain⟨tp,htp⟩:∃tp:af,tp=⟨(Lib.trimPrefix hd.data.toList BF).toArray⟩:=⟨_,rfl⟩
 have zky:tp.data.toList=Lib.trimPrefix hd.data.toList BF:=by rw[htp]
 have zoO:tp.size<=1000000:=by
  have h1:tp.size=(Lib.trimPrefix hd.data.toList BF).length:=by rw[<-zky];rfl
  have h2:(Lib.trimPrefix hd.data.toList BF).length<=hd.data.toList.length:=by
   unfold Lib.trimPrefix;split
   ·rw[gV];omega
   ·exact aF _
  have h3:=zkD hd aY;have h4:hd.data.toList.length=hd.size:=rfl;omega
 obtain⟨B,hB⟩:∃B,B=Lib.hasPrefix hd.data.toList BF:=⟨_,rfl⟩
 rw[<-htp,<-hB]at hcut;have hnum:=SS tp w1 zoO (HV.out.keep K1).pow (HV.out.keep K1).errs;have zpW:=ag hcut;have tq:=ag hnum;have zfV:=ag hhead;have zgj:=ag zgd;have zpB:=ag zkD;have zk6:=ag zky;have HB:=ag hB;have HcP:=ag cP;have Hm:=ag hm;have zds:=ag hrow;have HN:=ag hN;clear hcut hnum hhead zgd zkD zky hB cP hm hrow hP zmT htp Hsp hN;go_wp2_with fail;refine(zpW.out _).mono ?_;rintro e w2 ⟨rfl,hw2⟩;subst w2;go_wp2_with fail;refine tq.out.mono ?_;rintro e w3 ⟨⟨n,G,rfl,hnb⟩,K3⟩;have MP:=ag hnb;clear hnb;have hno:∀W,(B=false∨G=false)->xW s W (.returned (.tuple #[.int .i64 0,.slice none 0 0,.iface 51 (.int .i64 3)])):=by
  intro W h;have hp:x8 s.data.toList=none:=by
   rw[x8,zfV.out,<-HB.out,<-zk6.out];rcases h with h|h
   ·rw[h];rfl
   ·cases B with
    | false=>rfl
    | true=>
     have h2:=MP.out;cases hx:yU tp.data.toList with
     | none=>rfl
     | some v=>rw[hx]at h2;rw[h2.2]at h;cases h
  rw[xW,hp];rfl
 have Hno:=ag hno;clear hno;cases B with
 | false=>
  go_wp2_with fail
  go_ret3
  exact⟨Hno.out _ (.inl (by first|rfl|trivial)),K1.nK K3⟩
 | true=>
  cases G with
  | false=>
   go_wp2_with fail
   go_ret3
   exact⟨Hno.out _ (.inr (by first|rfl|trivial)),K1.nK K3⟩
  | true=>
   obtain⟨M,hM⟩:∃M,M=max (m-1) 1:=⟨_,rfl⟩
   have hM1:(max ((m:Int)-1) 1)=(M:Int):=by omega
   have hMw:IntKind.i64.wrap ((m:Int)-1)=(m:Int)-1:=aW _ (by omega);have hMl:M<=m:=by omega
   have hMg:1<=M:=by omega
   have HM:=ag hM;clear hM;go_upto_region 7 with(fail)
   go_cut [43,44,45] (λlv nv iv wx=>∃(pp:Addr),lv= .slice (some pp) (M-1) (m-1)∧Hid (1<m->pp=⟨N,1,none⟩)∧nv= .int .i64 ((M-1:Nat):Int)∧iv= .int .i64 0∧wx=w3)
   case first=>
    by_cases zoZ:m=1
    ·have zlb:=ag zoZ;go_wp2_with fail;go_meet
     case rel=>
      have hM0:M=1:=by have:=HM.out;have:=zlb.out;omega
      exact⟨⟨N,0,none⟩,by rw[hM0,show m-1=0 by have:=zlb.out;omega];rfl,ag (λh=>by have:=zlb.out;omega),by rw[hM0];rfl,rfl,rfl⟩
    ·go_wp2_with fail;go_meet
     case rel=>exact⟨_,rfl,ag (λh=>rfl),rfl,rfl,rfl⟩
   case rest=>
    obtain⟨pp,rfl,hpp,rfl,rfl,hwx⟩:=hcut;have zoM:=hwx.symm;clear hwx;subst zoM;obtain⟨Q,hQ⟩:∃Q,Q=M-1:=⟨_,rfl⟩
    rw[<-hQ];obtain⟨ws,hws⟩:∃ws:List (List UInt8),ws=R.map (·.data.toList):=⟨_,rfl⟩
    have Hws:=ag hws;have HQ:=ag hQ;have hQ6:Q<=1000001:=by have:=HM.out;omega
    have BU:=ag K1;have Uk:=ag K3;clear hws hQ K1 K3 hMl hMg hM1 hMw zds;go_wp2_with fail
    go_loopw [10,45] (λlv iv wr=>∃(k:Nat) (L:List oK) (v:Value),iv= .int .i64 k∧v=lv∧k<=Q∧Hid (allOnes (ws.take k)=some (L.map nZ)∧L.length=k)∧Hid (nV wr w3.heap.size 101 3 v k (L.flatMap pO))∧Hid (∀x∈L,Nums wr x.av x.ns∧Gn wr x.av∧x.ns.length<=1000000)∧Keep nM w3 wr) (λ_ iv _=>Q-(intOf iv).toNat)
    case atStart=>exact⟨0,[],_,rfl,rfl,by omega,ag ⟨by rw[bZ];rfl,rfl⟩,ag (nV.nil _ _ _ _),ag (λx hx=>by cases hx),ah _ _⟩
    case round=>
     obtain⟨k,L,v,rfl,rfl,hk,hL,hO,hN,K⟩:=hrel;obtain⟨wo,rfl⟩:∃wo,wo=wr:=⟨_,rfl⟩
     by_cases hlt:k<Q
     ·have k1:(k:Int)<(Q:Int):=by omega
      have h1m:1<m:=by have:=HM.out;have:=HQ.out;omega
      obtain rfl:=hpp.out h1m;have hRl:R.length=m-1:=by have:=Hm.out;simp at this;omega
      obtain⟨t,ht⟩:∃t,R[k]? =some t:=⟨_,aC (by have:=HM.out;have:=HQ.out;omega)⟩
      have ct:wo.cell? ⟨N,1+k,none⟩=some (.string t):=by have h0:=HcP.out (1+k) t (by rw[show 1+k=k+1 by omega];simpa using ht);have h1:=Lib.lt_of_cell h0;exact((Uk.out.nK K).cell (p:=⟨N,1+k,none⟩) h1 (λx=>x)).trans h0
      have hwt:ws[k]? =some t.data.toList:=by rw[Hws.out,bC,ht];rfl
      have htl:t.size<=1000000:=zpB.out t (aQ _ (bg ht));have hone:=λW (KW:Keep nM wo W)=>one_any t W htl (HV.out.keep (((BU.out.nK Uk.out).nK K).nK KW));have zdu:=ag hone;have Hwt:=ag hwt;have Htl:=ag htl;clear hone hwt ht hRl htl h1m;go_wp2_with fail;refine(zdu.out _ (ah _ _)).mono ?_;rintro e w4 ⟨⟨nm,tg,pa,na,ca,B,rfl,hob⟩,K4⟩;have Hob:=ag hob;clear hob;cases B with
      | false=>
       have hp:x8 s.data.toList=none:=by
        have h1:DL t.data.toList=none:=by
         have h:=Hob.out;cases hx:DL t.data.toList with
         | none=>rfl
         | some v=>rw[hx]at h;cases h.1
        have h2:allOnes (EH s.data.toList)=none:=by
         refine MG _ k t.data.toList ?_ h1;rw[zgj.out,List.getElem?_dropLast,aP ?_]
         ·have:=Hwt.out;rw[Hws.out]at this;exact this
         ·have:=HM.out;have:=HQ.out;have:=Hm.out;rw[aI];simp at this;omega
        rw[x8,zfV.out,<-HB.out,<-zk6.out];have h3:=MP.out;cases hx:yU tp.data.toList with
        | none=>simp
        | some v=>simp[h2]
       have hsaid:∀W,xW s W (.returned (.tuple #[.int .i64 0,.slice none 0 0,.iface 51 (.int .i64 3)])):=λW=>by rw[xW,hp];rfl
       have zof:=ag hsaid;clear hp hsaid;go_wp2_with fail
       go_ret3
       exact⟨zof.out _,(((BU.out.nK Uk.out).nK K).nK K4).alloc _⟩
      | true=>
       obtain⟨x,hx⟩:∃x,DL t.data.toList=some x:=by
        have h:=Hob.out;cases hx:DL t.data.toList with
        | none=>rw[hx]at h;cases h
        | some x=>exact⟨x,rfl⟩
       have hob:=Hob.out;rw[hx]at hob;obtain⟨-,rfl,rfl,hnx,hix⟩:=hob;obtain⟨xn,xt,ns⟩:=x;simp only at hnx;have hxl:ns.length<=1000000:=by have h1:=zg2 hx;have h2:=Htl.out;have h3:t.data.toList.length=t.size:=rfl;simp only at h1;omega
       obtain⟨pv,cv,hav⟩:=uD hO.out;subst hav;obtain⟨ii,hii,hzi,hsi,hbi⟩:=Iz;have hO4:=((hO.out.keep K4 (λ_ _ x=>x)).alloc (.cells #[.string xn,.string xt,.slice pa na ca] 101)).alloc (.cells #[.string xn,.string xt,.slice pa na ca] 101);have hs4:w3.heap.size<=w4.heap.size:=(K.nK K4).size;have Hx:=ag hx;have MO:=ag hnx;have Hix:=ag hix;have Hxl:=ag hxl;have hcn:=qj (w4.alloc (.cells #[.string xn,.string xt,.slice pa na ca] 101)) [.string xn,.string xt,.slice pa na ca] 101;have hsz:(w4.alloc (.cells #[.string xn,.string xt,.slice pa na ca] 101)).heap.size=w4.heap.size+1:=dY _;rw[hsz]at hcn;have Hcn:=ag hcn;clear hx hnx hix hxl zdu Hob hcn hsz;go_wp2_with (at_builtin;refine qc _ rfl _ _ 96 rfl w3.heap.size 101 ii _ 3 56 Tryz.underlying96 hii hzi hsi hbi rfl (by decide) (.slice pv k cv) k _ rfl hO4 ⟨w4.heap.size+1,0,none⟩ 1 1 [.string xn,.string xt,.slice pa na ca] rfl rfl Hcn.out (Fg xn xt pa na ca) (by unfold maxLen;omega) (by omega) (by simp<;>omega) ?_;intro v5 w5 Ai hg5);have KV:Keep (λb=>(Value.slice pv k cv).ownBlock=some b) ((w4.alloc (.cells #[.string xn,.string xt,.slice pa na ca] 101)).alloc (.cells #[.string xn,.string xt,.slice pa na ca] 101)) w5:=(ah _ _).grown hg5 (λq hq=> .inl hq);have K45:Keep nM w4 ((w4.alloc (.cells #[.string xn,.string xt,.slice pa na ca] 101)).alloc (.cells #[.string xn,.string xt,.slice pa na ca] 101)):=((ah _ _).alloc _).alloc _;have K35:Keep nM w3 w5:=((K.nK K4).nK K45).grown hg5 (λq hq=> .inr (hO.out.lt q hq).1);have hkeep:∀(u:Value) (l:List Int),Nums w4 u l->Gn w4 u->Nums w5 u l∧Gn w5 u:=by
        intro u l hn hi;have hne:∀b,u.ownBlock=some b->¬(Value.slice pv k cv).ownBlock=some b:=by
         intro b hb hv;obtain⟨cs,fz,hc⟩:=hi b hb;have hc2:=K45.heap hc (λx=>x);rcases hO4.2 with⟨hv0,_⟩|⟨g,cap,cur,fz2,hv0,_,hgg,_⟩
         ·rw[hv0]at hv;cases hv
         ·rw[hv0]at hv;obtain rfl:g=b:=aH hv;exact absurd (EN hc2 hgg) (by decide)
        refine⟨(hn.keep K45 (λ_ _ x=>x)).keep KV hne,λb hb=> ?_⟩;obtain⟨cs,fz,hc⟩:=hi b hb;exact⟨cs,fz,KV.heap (K45.heap hc (λx=>x)) (hne b hb)⟩
       refine⟨⟨k+1,L++ [⟨xn,xt,.slice pa na ca,ns⟩],_,by go_num,rfl,by omega,ag ⟨?_,by rw[ay,hL.out.2];rfl⟩,ag ?_,ag ?_,K35⟩,by simp[intOf];omega⟩
       ·have hk2:=(aN.1 Hwt.out)
        rw[aT hk2.1,hk2.2,di];exact MF _ _ _ _ hL.out.1 Hx.out
       ·rw[cZ];exact Ai
       ·intro y hy;rcases dG.1 hy with hy|hy
        ·obtain⟨h1,h2,h3⟩:=hN.out y hy;have h4:=hkeep y.av y.ns (h1.keep K4 (λ_ _ x=>x)) (λb hb=>by obtain⟨cs,fz,hc⟩:=h2 b hb;exact⟨cs,fz,K4.heap hc (λx=>x)⟩);exact⟨h4.1,h4.2,h3⟩
        ·rw[bD.1 hy];have h4:=hkeep (.slice pa na ca) ns MO.out Hix.out;exact⟨h4.1,h4.2,Hxl.out⟩
     ·obtain rfl:k=Q:=by omega
      have k1:¬((k:Int)<(k:Int)):=by omega
      obtain⟨pv,cv,hav⟩:=uD hO.out;subst hav;have hlk:=hL.out.2;have hall:allOnes (EH s.data.toList)=some (L.map nZ):=by
       have h:=hL.out.1;rw[zgj.out];have e:ws.take k=(R.map (·.data.toList)).dropLast:=by
        rw[Hws.out,List.dropLast_eq_take,aI];have h1:=HM.out;have h2:=HQ.out;have h3:=Hm.out;simp only[aK]at h3;by_cases h4:R.length=0
        ·have:R= []:=aU h4
         subst this;simp
        ·congr 1
         omega
       rw[<-e];exact h
      have hit:Items wo (.slice pv L.length cv) L:=⟨sQ.vN AY (by rw[hlk];exact hO.out),λx hx=>(hN.out x hx).1⟩
      have hpr:=print_any n (.slice pv L.length cv) L wo hit (by unfold maxLen;omega) (λx hx=>(hN.out x hx).2.2) (HV.out.keep ((BU.out.nK Uk.out).nK K)).pow;rw[hlk]at hpr;obtain⟨PS,hPS⟩:∃p,p=Dw n L:=⟨_,rfl⟩
      rw[<-hPS]at hpr;have zgc:∀d,yU tp.data.toList=some d->x8 s.data.toList=if qJ d (L.map nZ)=true∧uT d (L.map nZ)=s.data.toList then some (d,L.map nZ)else none:=by intro d hd;rw[x8,zfV.out,<-HB.out,<-zk6.out,hd,hall];simp
      have hd:yU tp.data.toList=some n:=by
       have h3:=MP.out;cases hx:yU tp.data.toList with
       | none=>rw[hx]at h3;cases h3
       | some v=>rw[hx]at h3;rw[h3.1]
      have zfq:=zgc n hd;have zdt:=ag zfq;have HPS:=ag hPS;have Hpr:=ag hpr;have Hlk:=ag hlk;have Hit:=ag hit;clear zfq hPS hpr zgc hd hall hlk hit;by_cases hok:qJ n (L.map nZ)=true
      ·have hE:Cb n L= .nilIface:=by rw[Cb,aP hok]
       have hpr:=Hpr.out;rw[hE]at hpr;have zio:=ag hpr;have Hok:=ag hok;clear hpr Hpr hE hok;by_cases hsame:PS=s
       ·have hb:(@BEq.beq (List UInt8) (@List.instBEq UInt8 instBEqOfDecidableEq) PS.toList s.toList)=true:=by rw[zm2,bJ hsame]
        have zoe:=ag hsame;clear hsame;go_wp2_with fail;refine zio.out.mono ?_;rintro e w6 ⟨rfl,K6⟩;go_wp2_with fail
        go_ret3
        refine⟨?_,(((BU.out.nK Uk.out).nK K).nK K6)⟩;have hpp:uT n (L.map nZ)=s.data.toList:=by have h1:=HPS.out;rw[Dw,aP Hok.out,zoe.out]at h1;rw[h1]
        rw[xW,zdt.out,aP ⟨Hok.out,hpp⟩];refine⟨_,L,rfl,rfl,?_⟩;rw[<-Hlk.out];exact⟨⟨Hit.out.rows.keep K6 (λ_ _ x=>x),λx hx=>(Hit.out.nums x hx).keep K6 (λ_ _ x=>x)⟩,λx hx b hb=>by obtain⟨cs,fz,hc⟩:=(hN.out x hx).2.1 b hb;exact⟨cs,fz,K6.heap hc (λx=>x)⟩⟩
       ·have hb:(@BEq.beq (List UInt8) (@List.instBEq UInt8 instBEqOfDecidableEq) PS.toList s.toList)=false:=by rw[zm2,bV hsame]
        have hnp:x8 s.data.toList=none:=by rw[zdt.out,aB];rintro⟨_,h⟩;have h1:=HPS.out;rw[Dw,aP Hok.out,h]at h1;exact hsame h1
        have Hnp:=ag hnp;clear hsame hnp;go_wp2_with fail;refine zio.out.mono ?_;rintro e w6 ⟨rfl,K6⟩;go_wp2_with fail
        go_ret3
        exact⟨by rw[xW,Hnp.out];rfl,(((BU.out.nK Uk.out).nK K).nK K6)⟩
      ·have hE:Cb n L= .iface 51 (.int .i64 1):=by rw[Cb,aB hok];rfl
       have hnp:x8 s.data.toList=none:=by rw[zdt.out,aB];rintro⟨h,_⟩;exact hok h
       have Hnp:=ag hnp;have hpr:=Hpr.out;rw[hE]at hpr;have zio:=ag hpr;clear hpr Hpr hE hok hnp;go_wp2_with fail;refine zio.out.mono ?_;rintro e w6 ⟨rfl,K6⟩;go_wp2_with fail
       go_ret3
       exact⟨by rw[xW,Hnp.out];rfl,(((BU.out.nK Uk.out).nK K).nK K6)⟩
section
open Go.Sort Go.Shelf
structure zfY where
 what:Int
 name:af
 tag:af
 av:Value
 ns:List Int
instance:Inhabited zfY:=⟨⟨0,⟨#[]⟩,⟨#[]⟩,.slice none 0 0,[]⟩⟩
def zi9(x:zfY):List Value:= [.int .i64 x.what,.string x.name,.string x.tag,x.av]
structure Deeds(w:World)(v:Value)(l:List zfY):Prop where
 rows:sQ w v 4 zi9 l
 nums:∀x∈l,Nums w x.av x.ns
end
section
open Go.Sort Go.Shelf
end
end Go.Proofs.YtopbkdebihcmcaaGreatDoor
