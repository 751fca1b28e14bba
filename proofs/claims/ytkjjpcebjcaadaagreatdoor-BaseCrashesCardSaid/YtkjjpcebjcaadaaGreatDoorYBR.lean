import Derived.Test.YtkjjpcebjcaadaaGreatDoorYBG
import Derived.Test.YtkjjpcebjcaadaaGreatDoorYBQ
set_option linter.unusedSimpArgs false
set_option linter.unusedVariables false
namespace Go.Proofs.YtkjjpcebjcaadaaGreatDoor
open Go.ChangeShapes Go.WideShapes Go.ChangeAt Go.RowKit Go.Cof
theorem cellsDeed:Tryz.prog.cellsOf 47=4:=by kernel_rfl
def DeedW(W:World)(x:DeedV):Prop:=Nums W x.av x.ns∧x.ns.length<=maxLen∧x.name.size<=maxLen
theorem cells4{W:World}{base:Nat}{a:Addr}{x0 x1 x2 x3:Value}(h:W.cells? base a 4=some [x0,x1,x2,x3]):W.cell? (a.add 0)=some x0∧W.cell? (a.add 1)=some x1∧W.cell? (a.add 2)=some x2∧W.cell? (a.add 3)=some x3:=by
 have h1:=(World.cells?_some h).2.2
 exact⟨h1 0 (by omega),h1 1 (by omega),h1 2 (by omega),h1 3 (by omega)⟩
set_option maxRecDepth 100000 in
theorem open_ints2{W:World}{H:Type}{enc:TypeId×Value->H}{v:Value}{l:List Int}{fuel:Nat}{d:DataW H}{p:List MemPlace}(hf:DataW.trod enc Tryz.prog W 0 (λ_=>true) true fuel 24 [v]=some (d,p))(N:Nums W v l):l.length<=maxLen:=by
 obtain⟨p',c',rfl⟩:=N.len
 rcases DataW.trod_slice Tryz.underlying24 hf with⟨hcs,hx⟩|⟨a,len',cap',elems,rest,n,_,hcs,hx,hb,hl,hm,hlen,hel,-,-⟩
 ·simp at hcs
  first|(rw[hcs.2.1];exact Nat.zero_le _)|(simp[hcs])
 ·simp at hcs
  omega
set_option maxRecDepth 100000 in
theorem open_item2{W:World}{H:Type}{enc:TypeId×Value->H}{cs:List Value}{fuel:Nat}{d:DataW H}{p:List MemPlace}(hf:DataW.trod enc Tryz.prog W 0 (λ_=>true) true fuel 45 cs=some (d,p))(hlt:∀x∈p,x.block<W.heap.size):
  ∃o:ItemV,cs= [.string o.name,.string o.tag,o.av]∧Nums W o.av o.ns∧o.ns.length<=maxLen∧o.name.size<=maxLen:=by
 obtain⟨o,rfl,N⟩:=open_item hf hlt
 obtain⟨xs,n,-,hx,hl,hxl,hfs⟩:=DataW.trod_struct Tryz.underlying45 hf
 have f0:DataW.trod enc Tryz.prog W 0 (λ_=>true) true n 9 (([Value.string o.name,.string o.tag,o.av].drop 0).take (Tryz.prog.cellsOf 9))=xs[0]? :=hfs 0 _ rfl
 have f2:DataW.trod enc Tryz.prog W 0 (λ_=>true) true n 24 (([Value.string o.name,.string o.tag,o.av].drop 2).take (Tryz.prog.cellsOf 24))=xs[2]? :=hfs 2 _ rfl
 obtain⟨x0,x1,x2,rfl⟩:∃x0 x1 x2,xs= [x0,x1,x2]:=by
  match xs,hxl with
  | [x0,x1,x2],_=>exact⟨x0,x1,x2,rfl⟩
 rw[cellsStr]at f0
 rw[cellsInts]at f2
 obtain⟨s0,e0,_,hs0⟩:=DataW.trod_string Tryz.underlying9 f0
 have g0:o.name=s0:=by simpa using e0
 refine⟨o,rfl,N,open_ints2 (d:=x2.1) (p:=x2.2) f2 N,?_⟩
 rw[g0]
 exact hs0
set_option maxRecDepth 100000 in
theorem open_deed{W:World}{H:Type}{enc:TypeId×Value->H}{cs:List Value}{fuel:Nat}{d:DataW H}{p:List MemPlace}(hf:DataW.trod enc Tryz.prog W 0 (λ_=>true) true fuel 47 cs=some (d,p))(hlt:∀x∈p,x.block<W.heap.size):
  ∃o:DeedV,cs= [.int .i64 o.what,.string o.name,.string o.tag,o.av]∧DeedW W o:=by
 obtain⟨xs,n,-,hx,hl,hxl,hfs⟩:=DataW.trod_struct Tryz.underlying47 hf
 have f0:DataW.trod enc Tryz.prog W 0 (λ_=>true) true n 3 ((cs.drop 0).take (Tryz.prog.cellsOf 3))=xs[0]? :=hfs 0 _ rfl
 have f1:DataW.trod enc Tryz.prog W 0 (λ_=>true) true n 45 ((cs.drop 1).take (Tryz.prog.cellsOf 45))=xs[1]? :=hfs 1 _ rfl
 rw[cellsDeed]at hl
 obtain⟨c0,c1,c2,c3,rfl⟩:∃c0 c1 c2 c3,cs= [c0,c1,c2,c3]:=by
  match cs,hl with
  | [c0,c1,c2,c3],_=>exact⟨c0,c1,c2,c3,rfl⟩
 obtain⟨x0,x1,rfl⟩:∃x0 x1,xs= [x0,x1]:=by
  match xs,hxl with
  | [x0,x1],_=>exact⟨x0,x1,rfl⟩
 rw[cellsInt]at f0
 rw[cellsItem]at f1
 obtain⟨s0,e0,_,_⟩:=DataW.trod_int Tryz.underlying3 f0
 simp only[Prod.mk.injEq]at hx
 obtain⟨rfl,rfl⟩:=hx
 have f1':DataW.trod enc Tryz.prog W 0 (λ_=>true) true n 45 [c1,c2,c3]=some (x1.1,x1.2):=f1
 obtain⟨o,ho,B,hb1,hb2⟩:=open_item2 f1' (λy hy=>hlt y (by simp[hy]))
 simp only[List.cons.injEq,and_true]at ho
 obtain⟨rfl,rfl,rfl⟩:=ho
 have g0:c0= .int .i64 s0:=by simpa using e0
 subst g0
 exact⟨⟨s0,o.name,o.tag,o.av,o.ns⟩,rfl,B,hb1,hb2⟩
set_option maxRecDepth 100000 in
theorem open_deeds{W:World}{H:Type}{enc:TypeId×Value->H}{a:Option Addr}{len cap fuel:Nat}{d:DataW H}{p:List MemPlace}(hf:DataW.trod enc Tryz.prog W 0 (λ_=>true) true fuel 22 (Value.slice a len cap).cells.toList=some (d,p))(hlt:∀x∈p,x.block<W.heap.size):
  ∃l,Deeds W (.slice a len cap) l∧l.length<=maxLen∧∀x∈l,x.ns.length<=maxLen∧x.name.size<=maxLen:=by
 by_cases hl0:len=0
 ·subst hl0
  exact⟨[],⟨.inl ⟨rfl,_,_,rfl⟩,λ_ h=>by cases h⟩,Nat.zero_le _,λ_ h=>by cases h⟩
 ·rcases DataW.trod_slice Tryz.underlying22 hf with⟨hcs,hx⟩|⟨a,len',cap',elems,rest,n,_,hcs,hx,hb,hl,hm,hlen,hel,-,-⟩
  ·simp[Value.cells]at hcs
   omega
  ·simp[Value.cells]at hcs
   obtain⟨rfl,rfl,rfl⟩:=hcs
   simp only[Prod.mk.injEq]at hx
   obtain⟨rfl,rfl⟩:=hx
   have each:∀i,i<len->∃o:DeedV,(W.cell? (a.add (i*4+0))=some (.int .i64 o.what)∧W.cell? (a.add (i*4+1))=some (.string o.name)∧W.cell? (a.add (i*4+2))=some (.string o.tag)∧W.cell? (a.add (i*4+3))=some o.av)∧DeedW W o:=by
    intro i hi
    have h1:=hel i hi
    have hei:elems[i]? =some (elems[i]'(by omega)):=List.getElem?_eq_getElem (by omega)
    rw[hei,cellsDeed,Option.bind_eq_some_iff]at h1
    obtain⟨cs',hcs,hy⟩:=h1
    obtain⟨o,rfl,B⟩:=open_deed hy (λy hy=>hlt y (List.mem_append_right _ (List.mem_flatMap.2 ⟨_,List.mem_append_left _ (List.getElem_mem (by omega)),hy⟩)))
    have h3:=cells4 hcs
    simp only[Addr.add_add]at h3
    exact⟨o,h3,B⟩
   obtain⟨b,off,spot⟩:=a
   have hspot:spot=none:=by
    obtain⟨o,⟨h0,_⟩,_⟩:=each 0 (by omega)
    simpa [Addr.add]using World.cell?_spot h0
   subst hspot
   have hbW:b<W.heap.size:=hlt (.cell b off) (List.mem_append_left _ (MemPlace.mem_row.2 ⟨0,by rw[cellsDeed];omega,by simp⟩))
   have key:∃l:List DeedV,l.length=len∧∀i o,l[i]? =some o->W.rangeAt b (off+i*4) (encDeed o)∧DeedW W o:=by
    have hch:∀i:Fin len,∃o:DeedV,W.rangeAt b (off+i.1*4) (encDeed o)∧DeedW W o:=λi=>by
     obtain⟨o,⟨h0,h1,h2,h3⟩,B⟩:=each i.1 i.2
     rw[add_none]at h0 h1 h2 h3
     refine⟨o,?_,B⟩
     intro j u hu
     match j,hu with
     | 0,hu=>cases hu;simpa using h0
     | 1,hu=>cases hu;rw[Nat.add_assoc];exact h1
     | 2,hu=>cases hu;rw[Nat.add_assoc];exact h2
     | 3,hu=>cases hu;rw[Nat.add_assoc];exact h3
     | j+4,hu=>simp[encDeed]at hu
    refine⟨List.ofFn λi=>(hch i).choose,by simp,λi o hio=> ?_⟩
    rw[List.getElem?_ofFn]at hio
    split at hio
    ·rename_i hi
     cases hio
     exact(hch ⟨i,hi⟩).choose_spec
    ·cases hio
   obtain⟨l,rfl,hall⟩:=key
   refine⟨l,⟨.inr ⟨b,off,cap,rfl,hbW,λi x hi=>(hall i x hi).1⟩,λx hx=> ?_⟩,by omega,λx hx=> ?_⟩
   ·obtain⟨i,hi,rfl⟩:=List.getElem_of_mem hx
    exact(hall i _ (List.getElem?_eq_getElem hi)).2.1
   ·obtain⟨i,hi,rfl⟩:=List.getElem_of_mem hx
    exact(hall i _ (List.getElem?_eq_getElem hi)).2.2
end Go.Proofs.YtkjjpcebjcaadaaGreatDoor
