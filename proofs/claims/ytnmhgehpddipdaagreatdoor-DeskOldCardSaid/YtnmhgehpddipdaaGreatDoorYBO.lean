import Derived.Test.YtnmhgehpddipdaaGreatDoorYAD
import Derived.Test.YtnmhgehpddipdaaGreatDoorYAH
import Derived.Test.YtnmhgehpddipdaaGreatDoorYAW
import Derived.Test.YtnmhgehpddipdaaGreatDoorYBH
set_option linter.unusedSimpArgs false
set_option linter.unusedVariables false
namespace Go.Cof
open Go.RowKit Go.Proofs.YtnmhgehpddipdaaGreatDoor Go.Lib
structure BaseV where
 dim:Nat
 now:List (ByteArray×PItem)
 wait:List (ByteArray×Option PItem)
def itemsG(L:List (ByteArray×PItem)):List PItem:=L.map (·.2)
def BaseV.next(b:BaseV):List (ByteArray×PItem):=nextG b.now b.wait
structure OkB(b:BaseV):Prop where
 rn:RisesG b.now
 rw:RisesG b.wait
 now:∀p∈b.now,p.1=p.2.1∧pitemB p.2 b.dim=true
 wait:∀p∈b.wait,∀x,p.2=some x->p.1=x.1∧pitemB x b.dim=true
 len:b.now.length<=60
 len2:b.next.length<=60
 zero:b.dim=0->b.now= []∧b.wait= []
 eight:b.dim<=8
theorem OkB.next_ok{b:BaseV}(h:OkB b):∀p∈b.next,p.1=p.2.1∧pitemB p.2 b.dim=true:=
 mem_nextG (λ(k:ByteArray) (x:PItem)=>k=x.1∧pitemB x b.dim=true) b.wait h.now (λp hp x hx=>h.wait p hp x hx)
theorem OkB.next_rises{b:BaseV}(h:OkB b):RisesG b.next:=nextG_rising b.wait h.rn
theorem rises_items:∀ {L:List (ByteArray×PItem)},RisesG L->(∀p∈L,p.1=p.2.1)->risesB (itemsG L)=true
 | [],_,_=>rfl
 | [p],_,_=>rfl
 | p::q::L,h,hn=>by
  have h1:=List.pairwise_cons.1 h
  show(decide (p.2.1.data.toList<q.2.1.data.toList)&&risesB (itemsG (q::L)))=true
  rw[Bool.and_eq_true]
  refine⟨?_,rises_items h1.2 λr hr=>hn r (List.mem_cons_of_mem _ hr)⟩
  have h2:=h1.1 q (List.mem_cons_self ..)
  rw[hn p (List.mem_cons_self ..),hn q (List.mem_cons_of_mem _ (List.mem_cons_self ..))]at h2
  exact decide_eq_true (lt_of_bytes _ _ h2)
theorem printB_ok{L:List (ByteArray×PItem)}{dim:Nat}(h1:1<=dim)(h8:dim<=8)(hr:RisesG L)(hl:L.length<=60)(hn:∀p∈L,p.1=p.2.1∧pitemB p.2 dim=true):printOk dim (itemsG L)=true:=by
 simp only[printOk,Bool.and_eq_true,decide_eq_true_eq]
 refine⟨⟨⟨⟨by omega,by omega⟩,by rw[itemsG,List.length_map];exact hl⟩,?_⟩,rises_items hr λp hp=>(hn p hp).1⟩
 rw[List.all_eq_true]
 intro x hx
 obtain⟨p,hp,rfl⟩:=List.mem_map.1 hx
 exact(hn p hp).2
theorem nsB_len:∀ns:List Int,(∀n∈ns,-10000<n∧n<10000)->((ns.map Lib.itoa).flatMap (λq=>(32:UInt8)::q)).length<=6*ns.length
 | [],_=>Nat.le_refl _
 | n::ns,h=>by
  rw[List.map_cons,List.flatMap_cons,List.length_append,List.length_cons,List.length_cons]
  have h1:=itoa_len n (h n List.mem_cons_self)
  have h2:=nsB_len ns λm hm=>h m (List.mem_cons_of_mem _ hm)
  omega
theorem nameB_size{s:ByteArray}(h:nameB s=true):s.size<=10:=by
 simp only[nameB,Bool.and_eq_true,decide_eq_true_eq]at h
 exact h.1.1.2
theorem lineB_len{x:PItem}{dim:Int}(h:pitemB x dim=true):(lineT x).length<=70:=by
 simp only[pitemB,Bool.and_eq_true,Bool.or_eq_true,decide_eq_true_eq,Bool.not_eq_true']at h
 obtain⟨⟨⟨⟨⟨h1,h2⟩,h3⟩,h4⟩,h5⟩,h6⟩:=h
 have hn:x.1.data.toList.length<=10:=nameB_size h1
 have ht:x.2.1.data.toList.length<=10:=by
  rcases h2 with h2|h2
  ·rw[h2];exact Nat.zero_le _
  ·exact nameB_size h2
 have hs:=nsB_len x.2.2 (far_bound h6)
 rw[lineT,bodyT,List.length_append,List.length_append,List.flatMap_cons,List.length_append,List.length_cons]
 simp only[List.length_cons,List.length_nil]
 omega
theorem linesB_len:∀(l:List PItem) (dim:Int),(∀x∈l,pitemB x dim=true)->(l.flatMap lineT).length<=70*l.length
 | [],_,_=>Nat.le_refl _
 | x::l,dim,h=>by
  rw[List.flatMap_cons,List.length_append,List.length_cons]
  have h1:=lineB_len (h x List.mem_cons_self)
  have h2:=linesB_len l dim λy hy=>h y (List.mem_cons_of_mem _ hy)
  omega
theorem printB_len{dim:Int}{l:List PItem}(h:printOk dim l=true):(printT dim l).length<=6400:=by
 simp only[printOk,Bool.and_eq_true,decide_eq_true_eq]at h
 obtain⟨⟨⟨⟨h1,h2⟩,h3⟩,h4⟩,h5⟩:=h
 have ha:=linesB_len l dim (List.all_eq_true.1 h4)
 have hb:=itoa_len dim (by omega)
 have hc:dimT.length=4:=rfl
 rw[printT,List.length_append,List.length_append,List.length_append]
 simp only[List.length_cons,List.length_nil]
 omega
def joinT(T:List ByteArray):List UInt8:=T.flatMap λt=>t.data.toList
def pagesT(s:ByteArray):List ByteArray:=(List.range 32).map (chunkB s)
theorem joinT_pages{s:ByteArray}(h:s.size<=6400):joinT (pagesT s)=s.data.toList:=chunks_joined h
theorem printB_ne(dim:Int)(l:List PItem):printT dim l≠ []:=by
 unfold printT dimT
 simp
def putB(b:BaseV)(x:PItem):Int×BaseV:=
 if b.dim=0 then(6,b)
 else if pitemB x b.dim=false then(1,b)
 else if getG b.next x.1=none∧b.next.length=60 then(12,b)
 else(0,{ b with wait:=putG b.wait x.1 (some x) })
def delB(b:BaseV)(k:ByteArray):Int×BaseV:=
 if getG b.next k=none then(7,b)else(0,{ b with wait:=putG b.wait k none })
def doneB(b:BaseV):BaseV:= { b with now:=b.next,wait:= [] }
def makeB(b:BaseV)(d:Int):Int×BaseV:=
 if b.dim≠0 then(6,b)else if d<1∨8<d then(1,b)else(0,{ b with dim:=d.toNat })
theorem next_with{b:BaseV}(h:OkB b)(k:ByteArray)(o:Option PItem):nextG b.now (putG b.wait k o)=layG b.next (k,o):=next_put h.rn h.rw k o
theorem putG_same_len{α:Type}{L:List (ByteArray×α)}(hr:RisesG L){k:ByteArray}{v u:α}(h:getG L k=some u):(putG L k v).length=L.length:=by
 rw[putG,insG_len]
 have hp:=hr.ne
 clear hr
 induction L with
 | nil=>cases h
 | cons p L ih=>
  have hp1:=List.pairwise_cons.1 hp
  unfold delG
  rw[List.filter_cons]
  by_cases e:p.1=k
  ·have hno:L.filter (λp=> !decide (p.1=k))=L:=by
    rw[List.filter_eq_self]
    intro q hq
    have:=hp1.1 q hq
    simp only[Bool.not_eq_true',decide_eq_false_iff_not]
    exact λx=>this (e.trans x.symm)
   rw[decide_eq_true e,hno]
   simp
  ·have h2:getG L k=some u:=by
    unfold getG at h⊢
    rw[List.find?_cons,decide_eq_false e]at h
    exact h
   have h3:=ih h2 hp1.2
   unfold delG at h3
   rw[decide_eq_false e]
   simp only[Bool.not_false,if_true,List.length_cons]
   omega
theorem OkB.put{b:BaseV}(h:OkB b)(x:PItem):OkB (putB b x).2:=by
 unfold putB
 split
 ·exact h
 split
 ·exact h
 split
 ·exact h
 ·rename_i h0 h1 h2
  have h1:pitemB x b.dim=true:=by simpa using h1
  refine⟨h.rn,putG_rising h.rw _ _,h.now,?_,h.len,?_,λe=>absurd e h0,h.eight⟩
  ·intro p hp y hy
   rcases mem_putG hp with rfl|hp
   ·obtain rfl:x=y:=Option.some.inj hy
    exact⟨rfl,h1⟩
   ·exact h.wait p hp.1 y hy
  ·show(nextG b.now (putG b.wait x.1 (some x))).length<=60
   rw[next_with h]
   show(putG b.next x.1 x).length<=60
   have h60:=h.len2
   cases hg:getG b.next x.1 with
   | none=>
    have h3:b.next.length≠60:=λe=>h2 ⟨hg,e⟩
    have:=putG_len b.next x.1 x
    omega
   | some u=>
    rw[putG_same_len h.next_rises hg]
    exact h60
theorem OkB.del{b:BaseV}(h:OkB b)(k:ByteArray):OkB (delB b k).2:=by
 unfold delB
 split
 ·exact h
 ·rename_i hne
  refine⟨h.rn,putG_rising h.rw _ _,h.now,?_,h.len,?_,λe=> ?_,h.eight⟩
  ·intro p hp y hy
   rcases mem_putG hp with rfl|hp
   ·cases hy
   ·exact h.wait p hp.1 y hy
  ·show(nextG b.now (putG b.wait k none)).length<=60
   rw[next_with h]
   exact Nat.le_trans (List.length_filter_le ..) h.len2
  ·exfalso
   have h0:=h.zero e
   apply hne
   unfold BaseV.next
   rw[h0.1,h0.2]
   rfl
theorem OkB.done{b:BaseV}(h:OkB b):OkB (doneB b):=
 ⟨h.next_rises,List.Pairwise.nil,h.next_ok,(λp hp=>by cases hp),h.len2,h.len2,λe=>⟨by have h0:=h.zero e;show b.next= [];unfold BaseV.next;rw[h0.1,h0.2];rfl,rfl⟩,h.eight⟩
theorem OkB.make{b:BaseV}(h:OkB b)(d:Int):OkB (makeB b d).2:=by
 unfold makeB
 split
 ·exact h
 split
 ·exact h
 ·rename_i h0 h1
  have h0:b.dim=0:=by omega
  have hz:=h.zero h0
  refine⟨h.rn,h.rw,λp hp=> ?_,λp hp=> ?_,h.len,h.len2,λe=>hz,by show d.toNat<=8;omega⟩
  ·rw[show({ b with dim:=d.toNat } :BaseV).now=b.now from rfl,hz.1]at hp;cases hp
  ·rw[show({ b with dim:=d.toNat } :BaseV).wait=b.wait from rfl,hz.2]at hp;cases hp
def textB(b:BaseV):ByteArray:=⟨(printT b.dim (itemsG b.next)).toArray⟩
theorem OkB.print{b:BaseV}(h:OkB b)(h1:1<=b.dim):printOk b.dim (itemsG b.next)=true:=printB_ok h1 h.eight h.next_rises h.len2 h.next_ok
theorem OkB.text{b:BaseV}(h:OkB b)(h1:1<=b.dim):(textB b).size<=6400:=printB_len (h.print h1)
def Said(T:List ByteArray)(b:BaseV):Prop:=(joinT T= []∧b.now= [])∨(1<=b.dim∧joinT T=printT b.dim (itemsG b.now))
def openBase(b:BaseV)(T:List ByteArray):BaseV:=if joinT T= []then⟨0,[],[]⟩else⟨b.dim,b.now,[]⟩
theorem said_done{b:BaseV}(h:OkB b)(h1:1<=b.dim):Said (pagesT (textB b)) (doneB b):=by
 refine .inr ⟨h1,?_⟩
 rw[joinT_pages (h.text h1)]
 simp[textB,doneB,BaseV.next]
end Go.Cof
