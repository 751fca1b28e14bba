import Derived.Test.YtbcmmbeadgiiiaaGreatDoorYAS
import Derived.Test.YtbcmmbeadgiiiaaGreatDoorRows
import Derived.ProofKit
import Derived.OpenShut
set_option linter.all false
namespace Go.Proofs.YtbcmmbeadgiiiaaGreatDoor
open Go.RowKit Proofs.Tryz
set_option maxRecDepth 100000
set_option maxHeartbeats 16000000
variable{p:List MemPlace}{cs:List ay}{cap:Nat}{a:Option Addr}{W:ax}
section
open Go.ChangeShapes Go.WideShapes Go.ChangeAt
def zax:prog.cellsOf 3=1:=by kernel_rfl
def zhf:prog.cellsOf 9=1:=by kernel_rfl
def zmV:prog.cellsOf 23=1:=by kernel_rfl
def zdP:prog.cellsOf 45=3:=by kernel_rfl
def zhh(b off i:Nat):(⟨b,off,none⟩:Addr).add i=⟨b,off+i,none⟩:=by unfold Addr.add;split<;>simp_all
def za5{H:Type}{enc:aB×ay->H}{fuel:Nat}{d:DataW H}(hf:DataW.trod enc prog W 0 (λ_=>true) true fuel 23 cs=some (d,p))(rE:∀x∈p,x.block<W.heap.size):
  ∃v l,cs= [v]∧vM W v l:=by
 rcases DataW.trod_slice jE hf with⟨rfl,hx⟩|⟨a,len,cap,elems,rest,n,_,rfl,hx,hb,hl,hm,hlen,hel,-,-⟩
 ·exact⟨_,[],rfl,.inl ⟨rfl,_,_,rfl⟩⟩
 ·by_cases Va:len=0
  ·subst Va;exact⟨_,[],rfl,.inl ⟨rfl,_,_,rfl⟩⟩
  have each:∀i,i<len->∃b,W.cell? (a.add i)=some (.int .i64 b):=by
   intro i hi;have h1:=hel i hi;rw[aK (by omega),zax,mi,Option.bind_eq_some_iff]at h1;obtain⟨cs',zu,hy⟩:=h1;obtain⟨b,rfl,_⟩:=DataW.trod_int fG hy;exact⟨b,cell_of_cells?_one zu⟩
  obtain⟨b,off,spot⟩:=a;have znO:spot=none:=by
   obtain⟨b0,h0⟩:=each 0 (by omega)
   simpa [Addr.add]using World.cell?_spot h0
  subst znO;simp only[jH]at hx;obtain⟨rfl,rfl⟩:=hx;have hbW:b<W.heap.size:=rE (.cell b off) (lT _ (MemPlace.mem_row.2 ⟨0,by rw[zax];omega,by simp⟩));refine⟨_,(List.range len).map (λi=>match W.cell? ⟨b,off+i,none⟩with|some (.int _ x)=>x|_=>0),rfl,.inr ⟨b,off,cap,by simp,hbW,λi hi=> ?_⟩⟩;have hi':i<len:=by simpa using hi
  obtain⟨x,hx⟩:=each i hi';rw[zhh]at hx;rw[hx,aG,aX,kP hi'];simp[hx]
def zmx{H:Type}{enc:aB×ay->H}{fuel:Nat}{d:DataW H}(hf:DataW.trod enc prog W 0 (λ_=>true) true fuel 45 cs=some (d,p))(rE:∀x∈p,x.block<W.heap.size):
  ∃o:qP,cs= [.string o.name,.string o.tag,o.av]∧vM W o.av o.ns:=by
 obtain⟨xs,n,-,hx,hl,hxl,hfs⟩:=DataW.trod_struct oO hf;have f0:DataW.trod enc prog W 0 (λ_=>true) true n 9 ((cs.drop 0).take (prog.cellsOf 9))=xs[0]? :=hfs 0 _ rfl;have f1:DataW.trod enc prog W 0 (λ_=>true) true n 9 ((cs.drop 1).take (prog.cellsOf 9))=xs[1]? :=hfs 1 _ rfl;have f2:DataW.trod enc prog W 0 (λ_=>true) true n 23 ((cs.drop 2).take (prog.cellsOf 23))=xs[2]? :=hfs 2 _ rfl;rw[zdP]at hl;obtain⟨c0,c1,c2,rfl⟩:∃c0 c1 c2,cs= [c0,c1,c2]:=by
  match cs,hl with
  | [c0,c1,c2],_=>exact⟨c0,c1,c2,rfl⟩
 obtain⟨x0,x1,x2,rfl⟩:∃x0 x1 x2,xs= [x0,x1,x2]:=by
  match xs,hxl with
  | [x0,x1,x2],_=>exact⟨x0,x1,x2,rfl⟩
 rw[zhf]at f0 f1;rw[zmV]at f2;obtain⟨s0,e0,_,_⟩:=DataW.trod_string bK f0;obtain⟨s1,e1,_,_⟩:=DataW.trod_string bK f1;simp only[jH]at hx;obtain⟨rfl,rfl⟩:=hx;obtain⟨v,l,e2,B⟩:=za5 f2 (λy hy=>rE y (by simp[hy]));have g0:c0= .string s0:=by simpa using e0
 have g1:c1= .string s1:=by simpa using e1
 have g2:c2=v:=by simpa using e2
 subst g0 g1 g2;exact⟨⟨s0,s1,c2,l⟩,rfl,B⟩
def zfe{H:Type}{enc:aB×ay->H}{len fuel:Nat}{d:DataW H}(hf:DataW.trod enc prog W 0 (λ_=>true) true fuel 23 (Value.slice a len cap).cells.toList=some (d,p))(rE:∀x∈p,x.block<W.heap.size):
  ∃l,vM W (.slice a len cap) l∧l.length<=maxLen:=by
 obtain⟨v,l,hv,N⟩:=za5 hf rE;have hv':v= .slice a len cap:=by simpa [Value.cells]using hv.s
 subst hv';refine⟨l,N,?_⟩;obtain⟨p',c',h⟩:=N.len;cases h;rcases DataW.trod_slice jE hf with⟨zu,hx⟩|⟨a,zzf,TG,elems,rest,n,_,zu,hx,hb,hl,hm,hlen,hel,-,-⟩
 ·simp[Value.cells]at zu
  first|(rw[zu.2.1];exact fP _)|(simp[zu])
 ·simp[Value.cells]at zu;omega
def Ti:prog.cellsOf 47=5:=by kernel_rfl
def zkx(W:ax)(x:TZ):Prop:=vM W x.av x.ns∧x.name.size<=maxLen
def zvl{base:Nat}{a:Addr}{x0 x1 x2 x3 x4:ay}(h:W.cells? base a 5=some [x0,x1,x2,x3,x4]):W.cell? (a.add 0)=some x0∧W.cell? (a.add 1)=some x1∧W.cell? (a.add 2)=some x2∧W.cell? (a.add 3)=some x3∧W.cell? (a.add 4)=some x4:=by have h1:=(World.cells?_some h).2.2;exact⟨h1 0 (by omega),h1 1 (by omega),h1 2 (by omega),h1 3 (by omega),h1 4 (by omega)⟩
def zjJ{H:Type}{enc:aB×ay->H}{fuel:Nat}{d:DataW H}(hf:DataW.trod enc prog W 0 (λ_=>true) true fuel 45 cs=some (d,p))(rE:∀x∈p,x.block<W.heap.size):
  ∃o:qP,cs= [.string o.name,.string o.tag,o.av]∧vM W o.av o.ns∧o.name.size<=maxLen:=by
 obtain⟨o,rfl,N⟩:=zmx hf rE;obtain⟨xs,n,-,hx,hl,hxl,hfs⟩:=DataW.trod_struct oO hf;have f0:DataW.trod enc prog W 0 (λ_=>true) true n 9 (([Value.string o.name,.string o.tag,o.av].drop 0).take (prog.cellsOf 9))=xs[0]? :=hfs 0 _ rfl;obtain⟨x0,x1,x2,rfl⟩:∃x0 x1 x2,xs= [x0,x1,x2]:=by
  match xs,hxl with
  | [x0,x1,x2],_=>exact⟨x0,x1,x2,rfl⟩
 rw[zhf]at f0;obtain⟨s0,e0,_,Vg⟩:=DataW.trod_string bK f0;have g0:o.name=s0:=by simpa using e0
 refine⟨o,rfl,N,?_⟩;rw[g0];exact Vg
def zmy{H:Type}{enc:aB×ay->H}{fuel:Nat}{d:DataW H}(hf:DataW.trod enc prog W 0 (λ_=>true) true fuel 47 cs=some (d,p))(rE:∀x∈p,x.block<W.heap.size):
  ∃o:TZ,cs= [.int .i64 o.zti,.int .i64 o.num,.string o.name,.string o.tag,o.av]∧zkx W o:=by
 obtain⟨xs,n,-,hx,hl,hxl,hfs⟩:=DataW.trod_struct underlying47 hf;have f0:DataW.trod enc prog W 0 (λ_=>true) true n 3 ((cs.drop 0).take (prog.cellsOf 3))=xs[0]? :=hfs 0 _ rfl;have f1:DataW.trod enc prog W 0 (λ_=>true) true n 3 ((cs.drop 1).take (prog.cellsOf 3))=xs[1]? :=hfs 1 _ rfl;have f2:DataW.trod enc prog W 0 (λ_=>true) true n 45 ((cs.drop 2).take (prog.cellsOf 45))=xs[2]? :=hfs 2 _ rfl;rw[Ti]at hl;obtain⟨c0,c1,c2,c3,c4,rfl⟩:∃c0 c1 c2 c3 c4,cs= [c0,c1,c2,c3,c4]:=by
  match cs,hl with
  | [c0,c1,c2,c3,c4],_=>exact⟨c0,c1,c2,c3,c4,rfl⟩
 obtain⟨x0,x1,x2,rfl⟩:∃x0 x1 x2,xs= [x0,x1,x2]:=by
  match xs,hxl with
  | [x0,x1,x2],_=>exact⟨x0,x1,x2,rfl⟩
 rw[zax]at f0 f1;rw[zdP]at f2;obtain⟨s0,e0,_,_⟩:=DataW.trod_int fG f0;obtain⟨s1,e1,_,_⟩:=DataW.trod_int fG f1;simp only[jH]at hx;obtain⟨rfl,rfl⟩:=hx;have f2':DataW.trod enc prog W 0 (λ_=>true) true n 45 [c2,c3,c4]=some (x2.1,x2.2):=f2;obtain⟨o,ho,B,hb⟩:=zjJ f2' (λy hy=>rE y (by simp[hy]));simp only[List.cons.injEq,and_true]at ho;obtain⟨rfl,rfl,rfl⟩:=ho;have g0:c0= .int .i64 s0:=by simpa using e0
 have g1:c1= .int .i64 s1:=by simpa using e1
 subst g0;subst g1;exact⟨⟨s0,s1,o.name,o.tag,o.av,o.ns⟩,rfl,B,hb⟩
def zjK{H:Type}{enc:aB×ay->H}{len fuel:Nat}{d:DataW H}(hf:DataW.trod enc prog W 0 (λ_=>true) true fuel 22 (Value.slice a len cap).cells.toList=some (d,p))(rE:∀x∈p,x.block<W.heap.size):
  ∃l,zoI W (.slice a len cap) l∧l.length<=maxLen∧∀x∈l,x.name.size<=maxLen:=by
 by_cases Va:len=0
 ·subst Va;exact⟨[],⟨.inl ⟨rfl,_,_,rfl⟩,λ_ h=>by cases h⟩,fP _,λ_ h=>by cases h⟩
 ·rcases DataW.trod_slice underlying22 hf with⟨zu,hx⟩|⟨a,zzf,TG,elems,rest,n,_,zu,hx,hb,hl,hm,hlen,hel,-,-⟩
  ·simp[Value.cells]at zu;omega
  simp[Value.cells]at zu;obtain⟨rfl,rfl,rfl⟩:=zu;simp only[jH]at hx;obtain⟨rfl,rfl⟩:=hx;have each:∀i,i<len->∃o:TZ,(W.cell? (a.add (i*5+0))=some (.int .i64 o.zti)∧W.cell? (a.add (i*5+1))=some (.int .i64 o.num)∧W.cell? (a.add (i*5+2))=some (.string o.name)∧W.cell? (a.add (i*5+3))=some (.string o.tag)∧W.cell? (a.add (i*5+4))=some o.av)∧zkx W o:=by
   intro i hi;have h1:=hel i hi;have hei:elems[i]? =some (elems[i]'(by omega)):=aK (by omega);rw[hei,Ti,Option.bind_eq_some_iff]at h1;obtain⟨cs',zu,hy⟩:=h1;obtain⟨o,rfl,B⟩:=zmy hy (λy hy=>rE y (List.mem_append_right _ (mf.2 ⟨_,lT _ (fO (by omega)),hy⟩)));have h3:=zvl zu;simp only[Addr.add_add]at h3;exact⟨o,h3,B⟩
  obtain⟨b,off,spot⟩:=a;have znO:spot=none:=by
   obtain⟨o,⟨h0,_⟩,_⟩:=each 0 (by omega)
   simpa [Addr.add]using World.cell?_spot h0
  subst znO;have hbW:b<W.heap.size:=rE (.cell b off) (lT _ (MemPlace.mem_row.2 ⟨0,by rw[Ti];omega,by simp⟩));have key:∃l:List TZ,l.length=len∧∀i o,l[i]? =some o->W.rangeAt b (off+i*5) (Ux o)∧zkx W o:=by
   have hch:∀i:Fin len,∃o:TZ,W.rangeAt b (off+i.1*5) (Ux o)∧zkx W o:=λi=>by
    obtain⟨o,⟨h0,h1,h2,h3,h4⟩,B⟩:=each i.1 i.2;rw[zhh]at h0 h1 h2 h3 h4;refine⟨o,?_,B⟩;intro j u hu
    match j,hu with
    | 0,hu=>cases hu;simpa using h0
    | 1,hu=>cases hu;rw[kT];exact h1
    | 2,hu=>cases hu;rw[kT];exact h2
    | 3,hu=>cases hu;rw[kT];exact h3
    | 4,hu=>cases hu;rw[kT];exact h4
    | j+5,hu=>simp[Ux]at hu
   refine⟨List.ofFn λi=>(hch i).choose,by simp,λi o hio=> ?_⟩;rw[List.getElem?_ofFn]at hio;split at hio
   ·rename_i hi;cases hio;exact(hch ⟨i,hi⟩).choose_spec
   cases hio
  obtain⟨l,rfl,vz⟩:=key;refine⟨l,⟨.inr ⟨b,off,cap,rfl,hbW,λi x hi=>(vz i x hi).1⟩,λx hx=> ?_⟩,by omega,λx hx=> ?_⟩
  ·obtain⟨i,hi,rfl⟩:=iG hx;exact(vz i _ (aK hi)).2.1
  obtain⟨i,hi,rfl⟩:=iG hx;exact(vz i _ (aK hi)).2.2
end
