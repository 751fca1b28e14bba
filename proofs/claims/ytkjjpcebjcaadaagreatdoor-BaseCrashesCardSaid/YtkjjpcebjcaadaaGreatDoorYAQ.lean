import Derived.Test.YtkjjpcebjcaadaaGreatDoorYAD
import Derived.Test.YtkjjpcebjcaadaaGreatDoorYAJ
import Derived.Test.YtkjjpcebjcaadaaGreatDoorYAN
import Derived.Test.YtkjjpcebjcaadaaGreatDoorRows
import Derived.WalkKit
import Derived.ProofKit
import Derived.OpenShut
import Derived.ChangeSlices
import Derived.ChangeArms
import Derived.SliceStrings
set_option linter.unusedSimpArgs false
set_option linter.unusedVariables false
namespace Go.Proofs.YtkjjpcebjcaadaaGreatDoor
open Go.ChangeShapes Go.WideShapes Go.ChangeAt Go.RowKit Go.Cof
theorem cellsBool:Tryz.prog.cellsOf 4=1:=by kernel_rfl
theorem add_none(b off i:Nat):(⟨b,off,none⟩:Addr).add i=⟨b,off+i,none⟩:=by unfold Addr.add;split<;>simp_all
end Go.Proofs.YtkjjpcebjcaadaaGreatDoor
namespace Go.Proofs.YtkjjpcebjcaadaaGreatDoor
open Go.ChangeShapes Go.WideShapes Go.ChangeAt Go.RowKit Go.Cof
set_option maxRecDepth 100000 in
theorem open_flags1{W:World}{H:Type}{enc:TypeId×Value->H}{cs:List Value}{fuel:Nat}{d:DataW H}{p:List MemPlace}(hf:DataW.trod enc Tryz.prog W 0 (λ_=>true) true fuel 23 cs=some (d,p))(hlt:∀x∈p,x.block<W.heap.size):
  ∃v l,cs= [v]∧Bools W v l∧l.length<=maxLen:=by
 rcases DataW.trod_slice Tryz.underlying23 hf with⟨rfl,hx⟩|⟨a,len,cap,elems,rest,n,_,rfl,hx,hb,hl,hm,hlen,hel,-,-⟩
 ·exact⟨_,[],rfl,.inl ⟨rfl,_,_,rfl⟩,Nat.zero_le _⟩
 ·by_cases hl0:len=0
  ·subst hl0
   exact⟨_,[],rfl,.inl ⟨rfl,_,_,rfl⟩,Nat.zero_le _⟩
  ·have each:∀i,i<len->∃b,W.cell? (a.add i)=some (.bool b):=by
    intro i hi
    have h1:=hel i hi
    rw[List.getElem?_eq_getElem (by omega),cellsBool,Nat.mul_one,Option.bind_eq_some_iff]at h1
    obtain⟨cs',hcs,hy⟩:=h1
    obtain⟨b,rfl,_⟩:=DataW.trod_bool Tryz.underlying4 hy
    exact⟨b,cell_of_cells?_one hcs⟩
   obtain⟨b,off,spot⟩:=a
   have hspot:spot=none:=by
    obtain⟨b0,h0⟩:=each 0 (by omega)
    simpa [Addr.add]using World.cell?_spot h0
   subst hspot
   simp only[Prod.mk.injEq]at hx
   obtain⟨rfl,rfl⟩:=hx
   have hbW:b<W.heap.size:=hlt (.cell b off) (List.mem_append_left _ (MemPlace.mem_row.2 ⟨0,by rw[cellsBool];omega,by simp⟩))
   refine⟨_,(List.range len).map (λi=>match W.cell? ⟨b,off+i,none⟩with|some (.bool x)=>x|_=>false),rfl,.inr ⟨b,off,cap,by simp,hbW,λi hi=> ?_⟩,by simp;omega⟩
   have hi':i<len:=by simpa using hi
   obtain⟨x,hx⟩:=each i hi'
   rw[add_none]at hx
   rw[hx,List.getD_eq_getElem?_getD,List.getElem?_map,List.getElem?_range hi']
   simp[hx]
theorem open_flags{W:World}{H:Type}{enc:TypeId×Value->H}{a:Option Addr}{len cap fuel:Nat}{d:DataW H}{p:List MemPlace}(hf:DataW.trod enc Tryz.prog W 0 (λ_=>true) true fuel 23 (Value.slice a len cap).cells.toList=some (d,p))(hlt:∀x∈p,x.block<W.heap.size):
  ∃l,Bools W (.slice a len cap) l∧l.length<=maxLen:=by
 obtain⟨v,l,hv,N,hl⟩:=open_flags1 hf hlt
 have hv':v= .slice a len cap:=by simpa [Value.cells]using hv.symm
 subst hv'
 exact⟨l,N,hl⟩
end Go.Proofs.YtkjjpcebjcaadaaGreatDoor
