import Derived.Test.YtkjjpcebjcaadaaGreatDoorYAC
import Derived.Test.YtkjjpcebjcaadaaGreatDoorYBD
import Derived.Test.YtkjjpcebjcaadaaGreatDoorYBE
import Derived.Test.YtkjjpcebjcaadaaGreatDoorYBG
import Derived.Laws.StructEq
import Derived.ChangeKeysEq
import Derived.BigRegion
import Derived.Deep.CutBlock
import Derived.Deep.DeepCutAuto
import Derived.RegionTactic
import Derived.Deep.RegionWith
set_option linter.unusedSimpArgs false
set_option linter.unusedVariables false
namespace Go.Cof
open Go.RowKit Go.Sort Go.Shelf
def ints8(l:List Int):List Value:=l.map (Value.int .i64)
theorem eqItems_ints{P:Program}{d:Nat}{e:TypeId}{k:IntKind}{l m:List Int}{w:World}(he:P.underlying e=some (.int k))(hpk:P.plainKey e=true)(hl:l.length=8)(hm:m.length=8):
  ∀is:List Nat,(∀i∈is,i<8)->(Op.eqItems (d+1) e 1 (ints8 l).toArray (ints8 m).toArray is).run P w= .ok (is.all λi=>decide (l.getD i 0=m.getD i 0)) w
 | [],_=>by simp[Op.eqItems]
 | i::is,h=>by
  have hi:=h i List.mem_cons_self
  have ih:=eqItems_ints (d:=d) (w:=w) he hpk hl hm is (λj hj=>h j (List.mem_cons_of_mem _ hj))
  have ha:(part e (ints8 l).toArray (i*1)).run P w= .ok (.int .i64 (l.getD i 0)) w:=run_part_plain w hpk (by
   rw[Nat.mul_one,List.getElem?_toArray,ints8,List.getElem?_map,List.getD_eq_getElem?_getD,List.getElem?_eq_getElem (by omega)];rfl)
  have hb:(part e (ints8 m).toArray (i*1)).run P w= .ok (.int .i64 (m.getD i 0)) w:=run_part_plain w hpk (by
   rw[Nat.mul_one,List.getElem?_toArray,ints8,List.getElem?_map,List.getD_eq_getElem?_getD,List.getElem?_eq_getElem (by omega)];rfl)
  simp only[Op.eqItems,Sem.run_bind,ha,hb,Result.andThen_ok,run_equalIn_int w d e .i64 k _ _ he,ih,List.all_cons]
  by_cases h:l.getD i 0=m.getD i 0
  ·have hb:(l.getD i 0==m.getD i 0)=true:=by simpa using h
   rw[hb,decide_eq_true h,Bool.true_and]
   simp[ih]
  ·have hb:(l.getD i 0==m.getD i 0)=false:=by simpa using h
   rw[hb,decide_eq_false h,Bool.false_and]
   simp
set_option maxRecDepth 100000 in
theorem eight(l:List Int)(h:l.length=8):∃a0 a1 a2 a3 a4 a5 a6 a7,l= [a0,a1,a2,a3,a4,a5,a6,a7]:=by
 match l,h with
 | [a0,a1,a2,a3,a4,a5,a6,a7],_=>exact⟨a0,a1,a2,a3,a4,a5,a6,a7,rfl⟩
theorem all8{l m:List Int}(hl:l.length=8)(hm:m.length=8):((List.range 8).all λi=>decide (l.getD i 0=m.getD i 0))=decide (l=m):=by
 rw[Bool.eq_iff_iff,List.all_eq_true,decide_eq_true_eq]
 constructor
 ·intro h
  apply List.ext_getElem (by omega)
  intro i h1 h2
  have:=h i (List.mem_range.2 (by omega))
  rw[decide_eq_true_eq,List.getD_eq_getElem?_getD,List.getD_eq_getElem?_getD,List.getElem?_eq_getElem h1,List.getElem?_eq_getElem h2]at this
  exact this
 ·rintro rfl i _
  simp
end Go.Cof
namespace Go.Proofs.YtkjjpcebjcaadaaGreatDoor
open Go.RowKit Go.Cof Go.Sort Go.Shelf
set_option maxRecDepth 100000 in
theorem eq_at(l m:List Int)(hl:l.length=8)(hm:m.length=8)(w:World):(Op.equalIn 10000 224 (.agg (ints8 l).toArray) (.agg (ints8 m).toArray)).run Tryz.prog w= .ok (decide (l=m)) w:=by
 have hib:∃i,Tryz.prog.info? 3=some i:=⟨_,rfl⟩
 obtain⟨i,hi⟩:=hib
 have hc:Tryz.prog.cellsOf 3=1:=by kernel_rfl
 have hpk:Tryz.prog.plainKey 3=true:=by kernel_rfl
 rw[show(10000:Nat)=9999+1 from rfl,run_equalIn_array w 9999 _ _ Tryz.underlying224 hi,hc,show(9999:Nat)=9998+1 from rfl,eqItems_ints Tryz.underlying3 hpk hl hm _ (λi hi=>List.mem_range.1 hi),all8 hl hm]
theorem down_any(n:Int)(hn: -1000<=n∧n<=1000)(w:World):Calls Tryz.prog 180 #[.int .i64 n] w λe w'=>e= .returned (.int .i64 (downI n))∧w'=w:=by
 have r1:IntKind.i64.wrap (n+1000)=n+1000:=IntWalk.i64_in _ (by omega)
 have hd:(n+1000).tdiv 250=(n+1000)/250:=Int.tdiv_eq_ediv_of_nonneg (by omega)
 have r2:IntKind.i64.wrap ((n+1000)/250)=(n+1000)/250:=IntWalk.i64_in _ (by omega)
 have r3:IntKind.i64.wrap ((n+1000)/250-4)=(n+1000)/250-4:=IntWalk.i64_in _ (by omega)
 unfold downI
 go_enter Tryz.func180,Tryz.ntmps180
 go_wp2_with fail
 go_ret
 exact⟨by simp[hd,r1,r2,r3],rfl⟩
theorem sameCell_any(pb ab:Nat)(l m:List Int)(sv:Value)(w:World)(hl:l.length=8)(hm:m.length=8)(hp:w.heap[pb]? =some (.cells (ints8 l++ [sv]).toArray 226 (0,0)))(ha:w.heap[ab]? =some (.cells (ints8 m).toArray 224 (0,0))):
  Calls Tryz.prog 182 #[.pointer (some ⟨pb,0,none⟩),.pointer (some ⟨ab,0,none⟩)] w λe w'=>e= .returned (.bool (decide (l=m)))∧∃q,w'=w.drewN q:=by
 have heq:=λw=>eq_at l m hl hm w
 have hgt:Tryz.prog.eqGuardType Tryz.prog.depth 224=false:=by kernel_rfl
 obtain⟨B,hB⟩:∃B,B=decide (l=m):=⟨_,rfl⟩
 rw[<-hB]at heq⊢
 obtain⟨a0,a1,a2,a3,a4,a5,a6,a7,rfl⟩:=eight l hl
 obtain⟨b0,b1,b2,b3,b4,b5,b6,b7,rfl⟩:=eight m hm
 have cp:∀j u,([Value.int .i64 a0,.int .i64 a1,.int .i64 a2,.int .i64 a3,.int .i64 a4,.int .i64 a5,.int .i64 a6,.int .i64 a7,sv])[j]? =some u->w.cell? ⟨pb,j,none⟩=some u:=λj u hu=>by
  rw[cell_of_row _ _ j _ 226 (0,0) hp,List.getElem?_toArray];exact hu
 have ca:∀j u,([Value.int .i64 b0,.int .i64 b1,.int .i64 b2,.int .i64 b3,.int .i64 b4,.int .i64 b5,.int .i64 b6,.int .i64 b7])[j]? =some u->w.cell? ⟨ab,j,none⟩=some u:=λj u hu=>by
  rw[cell_of_row _ _ j _ 224 (0,0) ha,List.getElem?_toArray];exact hu
 have p0:=cp 0 _ rfl
 have p1:=cp 1 _ rfl
 have p2:=cp 2 _ rfl
 have p3:=cp 3 _ rfl
 have p4:=cp 4 _ rfl
 have p5:=cp 5 _ rfl
 have p6:=cp 6 _ rfl
 have p7:=cp 7 _ rfl
 have q0:=ca 0 _ rfl
 have q1:=ca 1 _ rfl
 have q2:=ca 2 _ rfl
 have q3:=ca 3 _ rfl
 have q4:=ca 4 _ rfl
 have q5:=ca 5 _ rfl
 have q6:=ca 6 _ rfl
 have q7:=ca 7 _ rfl
 simp only[ints8,List.map_cons,List.map_nil]at heq
 clear hB hp ha hl hm cp ca
 go_enter Tryz.func182,Tryz.ntmps182
 go_wp2_with fail
 go_quiet (fail)
 go_wp2_with fail
 go_ret
 exact⟨rfl,_,rfl⟩
set_option maxRecDepth 100000 in
set_option maxHeartbeats 4000000 in
theorem least_any(cb pb:Nat)(dim:Nat)(cv:Value)(at_:List Int)(c:List Int)(sv:Value)(va:Value)(w:World)(hc8:c.length=8)(hcr:∀k,-4<=c.getD k 0∧c.getD k 0<=4)(hat:numOk at_)(hd:dim<=8)(hda:at_.length=dim)
  (N:Nums w va at_) (hC:w.heap[cb]? =some (.cells #[.int .i64 dim,cv] 216 (0,0))) (hp:w.heap[pb]? =some (.cells (ints8 c++ [sv]).toArray 226 (0,0))):
  Calls Tryz.prog 131 #[.pointer (some ⟨cb,0,none⟩),.pointer (some ⟨pb,0,none⟩),va] w λe w'=>e= .returned (.int .i64 (leastK c at_ dim))∧∃q,w'=w.drewN q:=by
 have c0:w.cell? ⟨cb,0,none⟩=some (.int .i64 dim):=by rw[cell_of_row _ _ _ _ _ (0,0) hC];rfl
 obtain⟨pa,ca,rfl⟩:=N.len
 have Hda:=Lib.hid hda
 rw[hda]at N⊢
 clear hda
 have HN:=Lib.hid N
 have Hp:=Lib.hid hp
 clear N hC hp
 go_enter Tryz.func131,Tryz.ntmps131
 go_wp2_with fail
 go_loopw [7,15] (λnv iv wr=>∃i:Nat,i<=dim∧iv= .int .i64 i∧nv= .int .i64 (leastK c at_ i)∧∃q,wr=w.drewN q) (λ_ iv _=>dim-(intOf iv).toNat)
 case atStart=>exact⟨0,by omega,rfl,rfl,0,rfl⟩
 case round=>
  obtain⟨i,hi,rfl,rfl,q,rfl⟩:=hrel
  by_cases hlt:i<dim
  ·have i1:(i:Int)<dim:=by omega
   have i8:(i:Int)<8:=by omega
   obtain⟨bA,oA,rfl,-,hbA,hcA⟩:=HN.out.at (by have:=Hda.out;omega)
   have cA:=hcA i (by have:=Hda.out;omega)
   have cP:w.cell? ⟨pb,i,none⟩=some (.int .i64 (c.getD i 0)):=by
    rw[cell_of_row _ _ _ _ _ (0,0) Hp.out,List.getElem?_toArray,List.getElem?_append_left (by rw[ints8,List.length_map];omega),ints8,List.getElem?_map,List.getD_eq_getElem?_getD,List.getElem?_eq_getElem (by omega)]
    rfl
   have hci:=hcr i
   have hai:=numOk_getD hat i
   have hL:=leastK_ok c at_ hcr hat i (by omega)
   have hnext:leastK c at_ (i+1)=leastK c at_ i+gapI (c.getD i 0*250) (at_.getD i 0)*gapI (c.getD i 0*250) (at_.getD i 0):=rfl
   obtain⟨x,hx⟩:∃x,x=c.getD i 0:=⟨_,rfl⟩
   obtain⟨y,hy⟩:∃y,y=at_.getD i 0:=⟨_,rfl⟩
   obtain⟨n,hn⟩:∃n,n=leastK c at_ i:=⟨_,rfl⟩
   rw[<-hx]at cP hci hnext
   rw[<-hy]at cA hai hnext
   rw[<-hn]at hL hnext⊢
   have r1:IntKind.i64.wrap (x*250)=x*250:=IntWalk.i64_in _ (by omega)
   have r2:IntKind.i64.wrap (x*250-y)=x*250-y:=IntWalk.i64_in _ (by omega)
   have r3:IntKind.i64.wrap (x*250+250)=x*250+250:=IntWalk.i64_in _ (by omega)
   have r4:IntKind.i64.wrap (x*250+250-1)=x*250+250-1:=IntWalk.i64_in _ (by omega)
   have r5:IntKind.i64.wrap (y-(x*250+250-1))=y-(x*250+250-1):=IntWalk.i64_in _ (by omega)
   have hgap:max (max (x*250-y) (y-(x*250+250-1))) 0=gapI (x*250) y:=rfl
   have Hnext:=Lib.hid hnext
   clear hcA hx hy hn hnext
   have mixed:Tryz.prog.follows .mixedOrders=true:=by kernel_rfl
   have hif:(if (if x*250-y<y-(x*250+250-1)then y-(x*250+250-1)else x*250-y)<0 then 0 else if x*250-y<y-(x*250+250-1)then y-(x*250+250-1)else x*250-y)=gapI (x*250) y:=by
    unfold gapI
    split<;>split<;>omega
   have hg0:0<=gapI (x*250) y∧gapI (x*250) y<=4000:=by unfold gapI;omega
   have hg2:=sq_bound (d:=gapI (x*250) y) (B:=4000) (by omega) (by omega)
   obtain⟨g,hg⟩:∃g,g=gapI (x*250) y:=⟨_,rfl⟩
   rw[<-hg]at hif hg2 Hnext
   obtain⟨gg,hgg⟩:∃gg,gg=g*g:=⟨_,rfl⟩
   rw[<-hgg]at hg2 Hnext
   have r6:IntKind.i64.wrap (g*g)=gg:=by rw[<-hgg];exact IntWalk.i64_in _ (by omega)
   have r7:IntKind.i64.wrap (n+gg)=n+gg:=IntWalk.i64_in _ (by omega)
   have Hgg:=Lib.hid hgg
   have Hif:=Lib.hid hif
   clear hg hgg hif hgap hg0 hg2
   go_upto_region 6 with(fail)
   go_big_region_o
   rw[Hif.out]
   clear r1 r2 r3 r4 r5
   go_wp2_with fail
   exact⟨⟨i+1,by omega,by go_num,by rw[Hnext.out],_,rfl⟩,by simp[intOf];omega⟩
  ·obtain rfl:i=dim:=by omega
   go_wp2_with fail
   go_ret
   exact⟨rfl,_,rfl⟩
end Go.Proofs.YtkjjpcebjcaadaaGreatDoor
namespace Go.Cof
open Go.RowKit Go.Proofs.YtkjjpcebjcaadaaGreatDoor
theorem rises_snoc:∀(l:List PItem) (x:PItem),risesB (l++ [x])=(risesB l&&(match l.getLast? with|none=>true|some y=>decide (y.1.data.toList<x.1.data.toList)))
 | [],x=>rfl
 | [y],x=>by
  show risesB [y,x]=(risesB [y]&&decide (y.1.data.toList<x.1.data.toList))
  simp[risesB]
 | y::z::l,x=>by
  have ih:=rises_snoc (z::l) x
  show risesB (y::z::(l++ [x]))=_
  have e1:risesB (y::z::(l++ [x]))=(decide (y.1.data.toList<z.1.data.toList)&&risesB (z::(l++ [x]))):=rfl
  have e2:risesB (y::z::l)=(decide (y.1.data.toList<z.1.data.toList)&&risesB (z::l)):=rfl
  have e3:(y::z::l).getLast? =(z::l).getLast? :=by simp[List.getLast?_cons_cons]
  rw[e1,e2,e3,Bool.and_assoc,<-ih]
  rfl
theorem name_size{s:ByteArray}(h:nameB s=true):s.data.toList.length<=10:=by
 unfold nameB at h
 have h1:=(Bool.and_eq_true_iff.1 h).1
 have h2:=(Bool.and_eq_true_iff.1 h1).1
 have h3:=(Bool.and_eq_true_iff.1 h2).2
 exact of_decide_eq_true h3
theorem nums_len:∀ns:List Int,(∀n∈ns,-10000<n∧n<10000)->((ns.map Lib.itoa).flatMap (λq=>(32:UInt8)::q)).length<=6*ns.length:=by
 intro ns
 induction ns with
 | nil=>intro _;simp
 | cons n ns ih=>
  intro h
  have:=itoa_len n (h n List.mem_cons_self)
  have:=ih (λm hm=>h m (List.mem_cons_of_mem _ hm))
  rw[List.map_cons,List.flatMap_cons,List.length_append,List.length_cons,List.length_cons]
  omega
theorem item_sizes{x:PItem}{dim:Int}(h:pitemB x dim=true):x.1.data.toList.length<=10∧x.2.1.data.toList.length<=10∧x.2.2.length<=8:=by
 simp only[pitemB,Bool.and_eq_true,Bool.or_eq_true,decide_eq_true_eq,Bool.not_eq_true']at h
 obtain⟨⟨⟨⟨⟨h1,h2⟩,h3⟩,h4⟩,h5⟩,h6⟩:=h
 refine⟨name_size h1,?_,by omega⟩
 rcases h2 with h2|h2
 ·rw[h2];simp
 ·exact name_size h2
theorem line_len{x:PItem}{dim:Int}(h:pitemB x dim=true):(lineT x).length<=100:=by
 have hk:=itemOk_of h
 simp only[pitemB,Bool.and_eq_true,Bool.or_eq_true,decide_eq_true_eq,Bool.not_eq_true']at h
 obtain⟨⟨⟨⟨⟨h1,h2⟩,h3⟩,h4⟩,h5⟩,h6⟩:=h
 have n1:=name_size h1
 have n2:x.2.1.data.toList.length<=10:=by
  rcases h2 with h2|h2
  ·rw[h2];simp
  ·exact name_size h2
 have key:∀ns:List Int,(∀n∈ns,-10000<n∧n<10000)->((ns.map Lib.itoa).flatMap (λq=>(32:UInt8)::q)).length<=6*ns.length:=by
  intro ns
  induction ns with
  | nil=>intro _;simp
  | cons n ns ih=>
   intro h
   have:=itoa_len n (h n List.mem_cons_self)
   have:=ih (λm hm=>h m (List.mem_cons_of_mem _ hm))
   rw[List.map_cons,List.flatMap_cons,List.length_append,List.length_cons,List.length_cons]
   omega
 have:=key x.2.2 hk.ns
 rw[lineT,bodyT,List.length_append,List.length_append,List.flatMap_cons,List.length_append,List.length_cons,List.length_singleton]
 omega
def headT(dim:Int):List UInt8:=dimT++Lib.itoa dim++ [10]
theorem rows_len{l:List PItem}{dim:Int}(h:l.all (pitemB · dim)=true):(l.flatMap lineT).length<=100*l.length:=by
 induction l with
 | nil=>simp
 | cons x l ih=>
  rw[List.all_cons,Bool.and_eq_true]at h
  have:=line_len h.1
  have:=ih h.2
  rw[List.flatMap_cons,List.length_append,List.length_cons]
  omega
def okTo(dim:Int)(l:List ItemV)(j:Nat):Prop:=((l.take j).map plainI).all (pitemB · dim)=true∧risesB ((l.take j).map plainI)=true
theorem okTo_succ{dim:Int}{l:List ItemV}{j:Nat}{x:ItemV}(hx:l[j]? =some x):okTo dim l (j+1)↔okTo dim l j∧itemB x dim=true∧(∀y,0<j->l[j-1]? =some y->y.name.data.toList<x.name.data.toList):=by
 have hj:=(List.getElem?_eq_some_iff.1 hx)
 have hjl:j<l.length:=hj.1
 have e:(l.take (j+1)).map plainI=(l.take j).map plainI++ [plainI x]:=by
  rw[List.take_succ_eq_append_getElem hj.1,hj.2,List.map_append];rfl
 have hl:((l.take j).map plainI).getLast? =if 0<j then(l[j-1]?).map plainI else none:=by
  rw[List.getLast?_eq_getElem?,List.length_map,List.length_take,List.getElem?_map,List.getElem?_take]
  split
  ·rename_i h
   rw[if_pos (by omega),show min j l.length-1=j-1 by omega]
  ·rename_i h
   have:j=0:=by omega
   subst this
   simp
 unfold okTo
 rw[e,List.all_append,rises_snoc,hl,Bool.and_eq_true,Bool.and_eq_true]
 have hp: [plainI x].all (pitemB · dim)=itemB x dim:=by simp[<-pitemB_of]
 rw[hp]
 by_cases h0:0<j
 ·rw[if_pos h0]
  obtain⟨y,hy⟩:∃y,l[j-1]? =some y:=⟨_,List.getElem?_eq_getElem (by omega)⟩
  rw[hy]
  simp only[Option.map_some,decide_eq_true_eq]
  constructor
  ·rintro⟨⟨h1,h2⟩,h3,h4⟩
   exact⟨⟨h1,h3⟩,h2,λy' _ e=>by obtain rfl:=Option.some.inj e;exact h4⟩
  ·rintro⟨⟨h1,h3⟩,h2,h4⟩
   exact⟨⟨h1,h2⟩,h3,h4 y h0 rfl⟩
 ·rw[if_neg h0]
  simp only[and_true]
  constructor
  ·rintro⟨⟨h1,h2⟩,h3⟩
   exact⟨⟨h1,h3⟩,h2,λy h=>absurd h h0⟩
  ·rintro⟨⟨h1,h3⟩,h2,_⟩
   exact⟨⟨h1,h2⟩,h3⟩
theorem okTo_zero(dim:Int)(l:List ItemV):okTo dim l 0:=⟨rfl,rfl⟩
theorem okTo_down{dim:Int}{l:List ItemV}{j n:Nat}(h:okTo dim l n)(hj:j<=n):okTo dim l j:=by
 have e:(l.take j).map plainI=((l.take n).map plainI).take j:=by rw[<-List.map_take,List.take_take,Nat.min_eq_left hj]
 refine⟨?_,by rw[e];exact risesB_take _ _ h.2⟩
 rw[e]
 exact List.all_eq_true.2 λx hx=>List.all_eq_true.1 h.1 x (List.mem_of_mem_take hx)
theorem printOk_to{dim:Int}{l:List ItemV} :printOk dim (l.map plainI)=true↔1<=dim∧dim<=8∧l.length<=60∧okTo dim l l.length:=by
 unfold okTo
 rw[List.take_length]
 simp only[printOk,Bool.and_eq_true,decide_eq_true_eq,List.length_map]
 constructor
 ·rintro⟨⟨⟨⟨h1,h2⟩,h3⟩,h4⟩,h5⟩;exact⟨h1,h2,h3,h4,h5⟩
 ·rintro⟨h1,h2,h3,h4,h5⟩;exact⟨⟨⟨⟨h1,h2⟩,h3⟩,h4⟩,h5⟩
end Go.Cof
namespace Go.Proofs.YtkjjpcebjcaadaaGreatDoor
open Go.RowKit Go.Cof
theorem two_types'{w:World}{g:Nat}{c c':Array Value}{t t':TypeId}{f f':Nat×Nat}(h:w.heap[g]? =some (.cells c t f))(h':w.heap[g]? =some (.cells c' t' f')):t=t':=by
 rw[h]at h'
 have:=Option.some.inj h'
 simp only[Obj.cells.injEq]at this
 exact this.2.1
def printS(dim:Int)(l:List ItemV):ByteArray:=if printOk dim (l.map plainI)then⟨(printT dim (l.map plainI)).toArray⟩else⟨#[]⟩
def printE(dim:Int)(l:List ItemV):Value:=if printOk dim (l.map plainI)then .nilIface else errVal 1
set_option maxRecDepth 100000 in
set_option maxHeartbeats 8000000 in
theorem print_any(dim:Int)(v:Value)(l:List ItemV)(w:World)(I:Items w v l)(hl:l.length<=maxLen)(hns:∀x∈l,x.ns.length<=1000000)(T:PowVar w):
  Calls Tryz.prog 58 #[.int .i64 dim,v] w λe w'=>e= .returned (.tuple #[.string (printS dim l),printE dim l])∧Keep NoB w w':=by
 obtain⟨p,c,rfl⟩:=I.rows.len
 obtain⟨n,hn⟩:∃n,n=l.length:=⟨_,rfl⟩
 rw[<-hn]at I hl⊢
 have hmax:(n:Int)<=9223372036854775807:=by unfold maxLen at hl;omega
 have HNo:Hid (printOk dim (l.map plainI)=false->Ending.returned (.tuple #[.string (printS dim l),printE dim l])= .returned (.tuple #[.string ⟨#[]⟩,.iface 48 (.int .i64 1)])):=Lib.hid (λh=>by rw[printS,printE,h];rfl)
 have Hn:=Lib.hid hn
 have HI:=Lib.hid I
 have HT:=Lib.hid T
 have Hns:=Lib.hid hns
 have hfalse:¬(1<=dim∧dim<=8∧n<=60∧okTo dim l n)->printOk dim (l.map plainI)=false:=λh=>by
  cases hp:printOk dim (l.map plainI)with
  | false=>rfl
  | true=>exact absurd (by rw[hn];exact printOk_to.1 hp) h
 have HF:=Lib.hid hfalse
 obtain⟨RV,hRV⟩:∃R,R=Ending.returned (.tuple #[.string (printS dim l),printE dim l]):=⟨_,rfl⟩
 rw[<-hRV]at HNo⊢
 have HRV:=Lib.hid hRV
 clear hn I T hns hfalse hRV hl
 by_cases hd:1<=dim∧dim<=8
 case neg=>
  have hno:=HNo.out (HF.out (λh=>hd ⟨h.1,h.2.1⟩))
  rw[hno]
  by_cases h1:dim<1
  ·go_enter Tryz.func58,Tryz.ntmps58
   go_wp2_with fail
   go_ret2
   exact⟨rfl,Keep.refl _ _⟩
  ·have h2:8<dim:=by omega
   go_enter Tryz.func58,Tryz.ntmps58
   go_wp2_with fail
   go_ret2
   exact⟨rfl,Keep.refl _ _⟩
 have h1:¬dim<1:=by omega
 have h8:¬8<dim:=by omega
 by_cases h60:n<=60
 case neg=>
  have hno:=HNo.out (HF.out (λh=>h60 h.2.2.1))
  rw[hno]
  have h2:(60:Int)<n:=by omega
  go_enter Tryz.func58,Tryz.ntmps58
  go_wp2_with fail
  go_ret2
  exact⟨rfl,Keep.refl _ _⟩
 have h61:¬((60:Int)<n):=by omega
 have hB0:=isB_new w
 have K0:Keep NoB w (w.alloc (.cells #[.pointer none,.slice none 0 0] 197)):=(Keep.refl _ _).alloc _
 have hblt:w.heap.size<(w.alloc (.cells #[.pointer none,.slice none 0 0] 197)).heap.size:=by show w.heap.size<(w.heap.push _).size;rw[Array.size_push];omega
 obtain⟨wb,hwb⟩:∃wb,wb=w.alloc (.cells #[.pointer none,.slice none 0 0] 197):=⟨_,rfl⟩
 obtain⟨b,hb⟩:∃b,b=w.heap.size:=⟨_,rfl⟩
 rw[<-hwb,<-hb]at hB0 hblt
 rw[<-hwb]at K0
 have Hwb:=Lib.hid hwb
 have Hb:=Lib.hid hb
 have hdimT:=itoa_len dim (by omega)
 have HdimT:=Lib.hid hdimT
 have hito:=λw1 (K:Keep NoB w w1)=>itoa_any dim (by omega) (by omega) w1 (HT.out.keep K (λx=>x))
 obtain⟨dt,hdt⟩:∃dt:ByteArray,dt=⟨(Lib.itoa dim).toArray⟩:=⟨_,rfl⟩
 rw[<-hdt]at hito
 have Hito:=Lib.hid (hito wb K0)
 have Hdt:=Lib.hid hdt
 have HB0:=Lib.hid hB0
 clear hwb hb hdimT hito hdt hB0
 go_enter Tryz.func58,Tryz.ntmps58
 go_wp2_with fail
 rw[<-Hwb.out,<-Hb.out]
 refine Hito.out.mono ?_
 rintro e w1 ⟨rfl,K1⟩
 have hdts:dt.size<=5:=by rw[Hdt.out];have:=HdimT.out;simpa [ByteArray.size]using this
 have hs1:((⟨#[100,105,109,32]⟩:ByteArray)++dt++(⟨#[10]⟩:ByteArray)).size=dt.size+5:=by rw[ByteArray.size_append,ByteArray.size_append];show 4+dt.size+1=_;omega
 have HB1:=Lib.hid (HB0.out.keepN K1)
 obtain⟨S0,hS0⟩:∃S0:ByteArray,S0=⟨#[100,105,109,32]⟩++dt++⟨#[10]⟩:=⟨_,rfl⟩
 have hS0l:S0.data.toList=headT dim:=by
  rw[hS0,Hdt.out,ByteArray.data_append,ByteArray.data_append]
  simp[headT,dimT]
 have hS0s:S0.size<=10:=by rw[hS0,hs1];omega
 have hwr:=write_any b b [] S0 w1 HB1.out (by simp;omega) (by have:=K1.size;omega)
 rw[List.nil_append,hS0l]at hwr
 have Hwr:=Lib.hid hwr
 have HS0:=Lib.hid hS0
 clear hwr hS0 hS0l hS0s hs1
 go_wp2_with fail
 rw[<-HS0.out]
 refine Hwr.out.mono ?_
 rintro e w2 ⟨rfl,B2,K2⟩
 have KW:∀x,x<w.heap.size->∀w',¬Wr b b w' x:=λx hx w' hw=>by
  have:=Hb.out
  rcases hw with h|⟨h,_⟩<;>omega
 have HKW:=Lib.hid KW
 have KA:Keep NoB w w2:=(K0.thenN K1).trans K2 (λi hi hs=>absurd hs (KW i hi _))
 have HB2:=Lib.hid B2
 have hbw2:b<w2.heap.size:=Nat.lt_of_lt_of_le hblt (Nat.le_trans K1.size K2.size)
 clear KW B2 Hito HB1 HB0 Hwr
 go_wp2_with fail
 go_loopw [30] (λiv wr=>∃j:Nat,j<=n∧iv= .int .i64 j∧Hid (okTo dim l j)∧Hid (IsB b b (headT dim++((l.take j).map plainI).flatMap lineT) wr)∧b<wr.heap.size∧Keep NoB w wr) (λiv _=>n-(intOf iv).toNat)
 case atStart=>exact⟨0,by omega,rfl,Lib.hid (okTo_zero dim l),Lib.hid (by rw[List.take_zero,List.map_nil,List.flatMap_nil,List.append_nil];exact HB2.out),hbw2,KA⟩
 case round=>
  clear HB2 KA K1 K2 hbw2
  obtain⟨j,hj,rfl,hok,hB,hbw,K⟩:=hrel
  obtain⟨wo,rfl⟩:∃wo,wo=wr:=⟨_,rfl⟩
  by_cases hlt:j<n
  ·have j1:(j:Int)<n:=by omega
   have Ir:=HI.out.rows.keep K (λ_ _ x=>x)
   obtain⟨pb,off,rfl,-,hpb,hcell⟩:=Ir.at (by have:=Hn.out;omega)
   obtain⟨x,hx⟩:∃x,l[j]? =some x:=⟨_,List.getElem?_eq_getElem (by have:=Hn.out;omega)⟩
   have hra:=hcell j x hx
   have hxm:x∈l:=List.mem_of_getElem? hx
   have Nx:=(HI.out.nums x hxm).keep K (λ_ _ x=>x)
   have hsu:=okTo_succ (dim:=dim) hx
   have c0:wo.cell? ⟨pb,off+j*3,none⟩=some (.string x.name):=hra 0 _ rfl
   have c1:wo.cell? ⟨pb,off+j*3+1,none⟩=some (.string x.tag):=hra 1 _ rfl
   have c2:wo.cell? ⟨pb,off+j*3+2,none⟩=some x.av:=hra 2 _ rfl
   obtain⟨px,cx,hav⟩:=Nx.len
   have hri:=λw' (Kx:Keep NoB wo w')=>itemRight_any x dim w' (Nx.keep Kx (λ_ _ x=>x)) (Hns.out x hxm)
   have henc:(encItem x).toArray= #[.string x.name,.string x.tag,.slice px x.ns.length cx]:=by rw[encItem,hav]
   rw[henc]at hri
   rw[hav]at c2
   obtain⟨R,hR⟩:∃R,R=itemB x dim:=⟨_,rfl⟩
   rw[<-hR]at hri hsu
   obtain⟨nx,hnx⟩:∃nx,nx=x.ns.length:=⟨_,rfl⟩
   rw[<-hnx]at hri c2
   obtain⟨nm,hnm⟩:∃nm,nm=x.name:=⟨_,rfl⟩
   obtain⟨tg,htg⟩:∃tg,tg=x.tag:=⟨_,rfl⟩
   rw[<-hnm,<-htg]at hri
   rw[<-hnm]at c0
   rw[<-htg]at c1
   have hprev:∀w',Keep NoB wo w'->0<j->∃y,l[j-1]? =some y∧w'.cell? ⟨pb,off+(j-1)*3,none⟩=some (.string y.name):=λw' Kx h0=>by
    obtain⟨y,hy⟩:∃y,l[j-1]? =some y:=⟨_,List.getElem?_eq_getElem (by have:=Hn.out;omega)⟩
    exact⟨y,hy,(Kx.cell (p:=⟨pb,off+(j-1)*3,none⟩) hpb (λx=>x)).trans (hcell (j-1) y hy 0 _ rfl)⟩
   have hbody:lineT (plainI x)=nm.data.toList++ [32]++tg.data.toList++(x.ns.map Lib.itoa).flatMap (λq=>(32:UInt8)::q)++ [10]:=by
    rw[hnm,htg,lineT,bodyT,plainI]
    simp
   have Hsu:=Lib.hid hsu
   have Hri:=Lib.hid hri
   have Hprev:=Lib.hid hprev
   have Hbody:=Lib.hid hbody
   have HNx:=Lib.hid Nx
   have HR:=Lib.hid hR
   have Hnx:=Lib.hid hnx
   have Hx:=Lib.hid hx
   have HxM:=Lib.hid hxm
   have Hav:=Lib.hid hav
   have hjn1:(j:Int)-1<n:=by omega
   have Hnm:=Lib.hid hnm
   have Htg:=Lib.hid htg
   clear hsu hri hprev hbody Nx hR hnx hx hav henc hra hcell hxm hnm htg Ir
   go_wp2_with fail
   obtain⟨wX,hwX⟩:∃wX,wX=wo.alloc (.cells #[.string nm,.string tg,.slice px nx cx] 45):=⟨_,rfl⟩
   obtain⟨X,hXe⟩:∃X,X=wo.heap.size:=⟨_,rfl⟩
   have hX:wX.heap[X]? =some (.cells #[.string nm,.string tg,.slice px nx cx] 45 (0,0)):=by rw[hwX,hXe];exact heap_alloc_new wo _
   have KX:Keep NoB wo wX:=by rw[hwX];exact(Keep.refl _ _).alloc _
   rw[<-hwX,<-hXe]
   have hXlt:=lt_of_heap hX
   have x0:wX.cell? ⟨X,0,none⟩=some (.string nm):=by rw[cell_of_row _ _ _ _ _ (0,0) hX];rfl
   have x1:wX.cell? ⟨X,1,none⟩=some (.string tg):=by rw[cell_of_row _ _ _ _ _ (0,0) hX];rfl
   have x2:wX.cell? ⟨X,2,none⟩=some (.slice px nx cx):=by rw[cell_of_row _ _ _ _ _ (0,0) hX];rfl
   have HX:=Lib.hid hX
   have HXe:=Lib.hid hXe
   have HKX:=Lib.hid KX
   have Hri2:=Lib.hid (λY:Ext wX=>Hri.out (wX.ext Y) (KX.thenN (ext_keep wX Y)))
   have hpbX:pb<wX.heap.size:=Nat.lt_of_lt_of_le hpb KX.size
   clear hwX hXe hX KX Hri c0 c1 c2
   go_cut [53] (λbv wx=>∃G:Bool,bv= .bool (!G)∧Hid (G=true↔okTo dim l (j+1))∧Keep NoB wX wx)
   case first=>
    cases R with
    | false=>
     refine wp_region_q_ext (by kernel_rfl) (by kernel_rfl) ?_
     repeat((with_reducible refine wpQuiet_step (λK hK=> ?_));go_simp;first|(refine hK _ ?_;clear hK K)|(apply Exists.intro;refine⟨λ_=> ?_,hK _ ?_⟩;(go_at_call 81;exact quiet_ext _ (Hri2.out _));clear hK K))
     refine wpQuiet_nil ?_
     intro Y
     go_wp2_with fail
     go_meet
     case rel=>exact⟨false,rfl,Lib.hid ⟨λh=>(by cases h),λh=>(by have:=(Hsu.out.1 h).2.1;cases this)⟩,ext_keep wX Y⟩
    | true=>
     by_cases hj0:j=0
     ·have hj1:¬(0<j):=by omega
      have Hj0:=Lib.hid hj0
      clear hj0
      refine wp_region_q_ext (by kernel_rfl) (by kernel_rfl) ?_
      repeat((with_reducible refine wpQuiet_step (λK hK=> ?_));go_simp;first|(refine hK _ ?_;clear hK K)|(apply Exists.intro;refine⟨λ_=> ?_,hK _ ?_⟩;(go_at_call 81;exact quiet_ext _ (Hri2.out _));clear hK K))
      refine wpQuiet_nil ?_
      intro Y
      go_wp2_with fail
      go_meet
      case rel=>exact⟨true,rfl,Lib.hid ⟨λ_=>Hsu.out.2 ⟨hok.out,(by first|rfl|trivial),λy h=>by have:=Hj0.out;omega⟩,λ_=>rfl⟩,ext_keep wX Y⟩
     ·have hj1:0<j:=by omega
      have hji:(0:Int)<j:=by omega
      obtain⟨y,hy,hyc⟩:=Hprev.out wX HKX.out (by omega)
      have hw1:IntKind.i64.wrap ((j:Int)-1)=((j-1:Nat):Int):=by rw[IntWalk.i64_in _ (by omega)];omega
      have hjm:j-1<n:=by omega
      obtain⟨S,hS⟩:∃S,S=Op.bytesLess y.name.toList nm.toList:=⟨_,rfl⟩
      have hS':=hS.symm
      have Hy:=Lib.hid hy
      have HSS:=Lib.hid hS
      obtain⟨yn,hyn⟩:∃yn,yn=y.name:=⟨_,rfl⟩
      rw[<-hyn]at hyc hS'
      have Hyn:=Lib.hid hyn
      clear hy hS hyn
      cases S with
      | true=>
       refine wp_region_q_ext (by kernel_rfl) (by kernel_rfl) ?_
       repeat((with_reducible refine wpQuiet_step (λK hK=> ?_));go_simp;first|(refine hK _ ?_;clear hK K)|(apply Exists.intro;refine⟨λ_=> ?_,hK _ ?_⟩;(go_at_call 81;exact quiet_ext _ (Hri2.out _));clear hK K))
       refine wpQuiet_nil ?_
       intro Y
       go_wp2_with fail
       go_meet
       case rel=>
        refine⟨true,rfl,Lib.hid ⟨λ_=>Hsu.out.2 ⟨hok.out,(by first|rfl|trivial),λy2 _ e=> ?_⟩,λ_=>rfl⟩,ext_keep wX Y⟩
        rw[Hy.out]at e
        obtain rfl:=Option.some.inj e
        have h2:=HSS.out
        rw[less_eq]at h2
        have h3:=of_decide_eq_true h2.symm
        rw[ByteArray.toList_eq,ByteArray.toList_eq,Hnm.out]at h3
        exact h3
      | false=>
       refine wp_region_q_ext (by kernel_rfl) (by kernel_rfl) ?_
       repeat((with_reducible refine wpQuiet_step (λK hK=> ?_));go_simp;first|(refine hK _ ?_;clear hK K)|(apply Exists.intro;refine⟨λ_=> ?_,hK _ ?_⟩;(go_at_call 81;exact quiet_ext _ (Hri2.out _));clear hK K))
       refine wpQuiet_nil ?_
       intro Y
       go_wp2_with fail
       go_meet
       case rel=>
        refine⟨false,rfl,Lib.hid ⟨λh=>(by cases h),λh=> ?_⟩,ext_keep wX Y⟩
        have h1:=(Hsu.out.1 h).2.2 y (by omega) Hy.out
        have h2:=HSS.out
        rw[less_eq]at h2
        have h3:=of_decide_eq_false h2.symm
        rw[ByteArray.toList_eq,ByteArray.toList_eq,Hnm.out]at h3
        exact absurd h1 h3
   case rest=>
    obtain⟨G,rfl,HG,K3⟩:=hcut
    obtain⟨w3,rfl⟩:∃w3,w3=wc:=⟨_,rfl⟩
    have Kw3:Keep NoB w w3:=(K.thenN HKX.out).thenN K3
    cases G with
    | false=>
     have hno:=HNo.out (HF.out (λh=>by
      have h2:=HG.out.2 (okTo_down h.2.2.2 (by omega))
      cases h2))
     have Hno:=Lib.hid hno
     clear hno
     go_wp2_with fail
     go_ret2
     exact⟨by rw[Hno.out];rfl,Kw3⟩
    | true=>
     have hok1:=HG.out.1 (by first|rfl|trivial)
     have hx3:=K3.heap HX.out (λx=>x)
     have y0:w3.cell? ⟨X,0,none⟩=some (.string nm):=by rw[cell_of_row _ _ _ _ _ (0,0) hx3];rfl
     have y1:w3.cell? ⟨X,1,none⟩=some (.string tg):=by rw[cell_of_row _ _ _ _ _ (0,0) hx3];rfl
     have hit:pitemB (plainI x) dim=true:=HR.out.symm.trans (Hsu.out.1 hok1).2.1
     have hsz:=item_sizes hit
     have hib:=(itemOk_of hit).ns
     have hnx8:nx<=8:=by have h3:x.ns.length<=8:=hsz.2.2;have:=Hnx.out;omega
     have hszn:nm.size<=10:=by rw[Hnm.out];exact hsz.1
     have hszt:tg.size<=10:=by rw[Htg.out];exact hsz.2.1
     obtain⟨cur,hcur⟩:∃cur,cur=headT dim++((l.take j).map plainI).flatMap lineT:=⟨_,rfl⟩
     have hcl:cur.length<=7000:=by
      have h1:=rows_len hok.out.1
      have h2:(headT dim).length<=10:=by
       have:=HdimT.out
       rw[headT,List.length_append,List.length_append]
       show 4+_+1<=10
       omega
      have h3:((l.take j).map plainI).length<=60:=by rw[List.length_map,List.length_take];have:=Hn.out;omega
      rw[hcur,List.length_append]
      omega
     have hB3:IsB b b cur w3:=by rw[hcur];exact hB.out.keepN (HKX.out.thenN K3)
     obtain⟨S1,hS1⟩:∃S1:ByteArray,S1=nm++⟨#[32]⟩++tg:=⟨_,rfl⟩
     have hS1s:S1.size<=21:=by rw[hS1,ByteArray.size_append,ByteArray.size_append];show nm.size+1+tg.size<=21;omega
     have hS1l:S1.data.toList=nm.data.toList++ [32]++tg.data.toList:=by rw[hS1,ByteArray.data_append,ByteArray.data_append];simp
     have hbw3:b<w3.heap.size:=Nat.lt_of_lt_of_le hbw (Nat.le_trans HKX.out.size K3.size)
     have hwr1:=write_any b b cur S1 w3 hB3 (by omega) (by omega)
     have hcat:nm.size+1+tg.size<=1000:=by omega
     have hns1:((nm++⟨#[32]⟩:ByteArray)).size=nm.size+1:=ByteArray.size_append
     have Hwr1:=Lib.hid hwr1
     have HS1:=Lib.hid hS1
     have HS1l:=Lib.hid hS1l
     have Hcur:=Lib.hid hcur
     have Hx3:=Lib.hid hx3
     have Hib:=Lib.hid hib
     have Hsz:=Lib.hid hsz
     have Hok1:=Lib.hid hok1
     clear hwr1 hS1 hS1l hcur hx3 hit hib hsz hB3 hok1
     go_wp2_with fail
     rw[<-HS1.out]
     refine Hwr1.out.mono ?_
     rintro e w4 ⟨rfl,B4,K4⟩
     have Kw4:Keep NoB w w4:=Kw3.trans K4 (λi hi hs=>absurd hs (HKW.out i hi _))
     have hx4:=K4.heap Hx3.out (λhs=>by
      rcases hs with h|⟨_,cs,fz,h⟩
      ·have:=HXe.out;omega
      ·exact absurd (two_types' Hx3.out h) (by decide))
     have z2:w4.cell? ⟨X,2,none⟩=some (.slice px nx cx):=by rw[cell_of_row _ _ _ _ _ (0,0) hx4];rfl
     have HB4:=Lib.hid B4
     have hbw4:b<w4.heap.size:=Nat.lt_of_lt_of_le hbw3 K4.size
     clear B4 hx4 Hwr1
     go_wp2_with fail
     go_loopw [65] (λiv wr=>∃k:Nat,k<=nx∧iv= .int .i64 k∧Hid (IsB b b (cur++S1.data.toList++((x.ns.take k).map Lib.itoa).flatMap (λq=>(32:UInt8)::q)) wr)∧b<wr.heap.size∧Keep NoB w wr) (λiv _=>nx-(intOf iv).toNat)
     case atStart=>exact⟨0,by omega,rfl,Lib.hid (by rw[List.take_zero,List.map_nil,List.flatMap_nil,List.append_nil];exact HB4.out),hbw4,Kw4⟩
     case round=>
      clear HB4 Kw4 K4 Kw3 z2 hbw4
      obtain⟨k,hk,rfl,hBk,hbk,Kk⟩:=hrel
      obtain⟨w5,rfl⟩:∃w5,w5=wr:=⟨_,rfl⟩
      by_cases hkn:k<nx
      ·have k1:(k:Int)<nx:=by omega
       have Nk:=(HI.out.nums x HxM.out).keep Kk (λ_ _ x=>x)
       rw[Hav.out,<-Hnx.out]at Nk
       obtain⟨bn,on,rfl,-,hbn,hcn⟩:=Nk.at (by have:=Hnx.out;omega)
       have cn:=hcn k (by have:=Hnx.out;omega)
       obtain⟨y,hy⟩:∃y,x.ns[k]? =some y:=⟨_,List.getElem?_eq_getElem (by have:=Hnx.out;omega)⟩
       rw[List.getD_eq_getElem?_getD,hy]at cn
       have cn':w5.cell? ⟨bn,on+k,none⟩=some (.int .i64 y):=cn
       have hyb:=Hib.out y (List.mem_of_getElem? hy)
       have hito:=itoa_any y (by omega) (by omega) w5 (HT.out.keep Kk (λx=>x))
       obtain⟨it,hit⟩:∃it:ByteArray,it=⟨(Lib.itoa y).toArray⟩:=⟨_,rfl⟩
       rw[<-hit]at hito
       have hitl:it.data.toList=Lib.itoa y:=by rw[hit]
       have hits:it.size<=5:=by have:=itoa_len y hyb;rw[<-hitl]at this;exact this
       have htk:((x.ns.take (k+1)).map Lib.itoa).flatMap (λq=>(32:UInt8)::q)=((x.ns.take k).map Lib.itoa).flatMap (λq=>(32:UInt8)::q)++32::it.data.toList:=by
        have hkl:=(List.getElem?_eq_some_iff.1 hy)
        rw[List.take_succ_eq_append_getElem hkl.1,hkl.2,List.map_append,List.flatMap_append,hitl]
        simp
       have hlk:(((x.ns.take k).map Lib.itoa).flatMap (λq=>(32:UInt8)::q)).length<=48:=by
        have h1:=nums_len (x.ns.take k) (λn hn=>Hib.out n (List.mem_of_mem_take hn))
        have h2:(x.ns.take k).length<=8:=by rw[List.length_take];have:=Hsz.out.2.2;show min k x.ns.length<=8;have h3:x.ns.length<=8:=this;omega
        omega
       have Hito:=Lib.hid hito
       have Htk:=Lib.hid htk
       have Hlk:=Lib.hid hlk
       have hcat2:((⟨#[32]⟩:ByteArray)++it).size=it.size+1:=by rw[ByteArray.size_append];show 1+it.size=_;omega
       clear cn hcn hy hito hit hitl htk hlk Nk
       go_wp2_with fail
       refine Hito.out.mono ?_
       rintro e w6 ⟨rfl,K6⟩
       obtain⟨S2,hS2⟩:∃S2:ByteArray,S2=⟨#[32]⟩++it:=⟨_,rfl⟩
       have hS2l:S2.data.toList=32::it.data.toList:=by rw[hS2,ByteArray.data_append];simp
       have hw2:=write_any b b _ S2 w6 (hBk.out.keepN K6) (by
        rw[List.length_append,List.length_append]
        have h1:S1.data.toList.length=S1.size:=rfl
        have h2:S2.size=it.size+1:=by rw[hS2];exact hcat2
        have:=Hlk.out
        omega) (by have:=K6.size;omega)
       rw[List.append_assoc,hS2l,<-Htk.out]at hw2
       have Hw2:=Lib.hid hw2
       have HS2:=Lib.hid hS2
       clear hw2 hS2 hS2l
       go_wp2_with fail
       rw[<-HS2.out]
       refine Hw2.out.mono ?_
       rintro e w7 ⟨rfl,B7,K7⟩
       have HB7:=Lib.hid B7
       clear B7
       go_wp2_with fail
       exact⟨⟨k+1,by omega,by go_num,HB7,Nat.lt_of_lt_of_le hbk (Nat.le_trans K6.size K7.size),(Kk.thenN K6).trans K7 (λi hi hs=>absurd hs (HKW.out i hi _))⟩,by simp[intOf];omega⟩
      ·obtain rfl:k=nx:=by omega
       have hfull:cur++S1.data.toList++((x.ns.take k).map Lib.itoa).flatMap (λq=>(32:UInt8)::q)++(⟨#[10]⟩:ByteArray).data.toList=headT dim++((l.take (j+1)).map plainI).flatMap lineT:=by
        have hj2:=(List.getElem?_eq_some_iff.1 Hx.out)
        rw[List.take_of_length_le (by have:=Hnx.out;omega),List.take_succ_eq_append_getElem hj2.1,hj2.2,List.map_append,List.flatMap_append,Hcur.out,HS1l.out]
        have h1:(List.map plainI [x]).flatMap lineT=lineT (plainI x):=by simp
        rw[h1,Hbody.out]
        simp
       have hlk:(((x.ns.take k).map Lib.itoa).flatMap (λq=>(32:UInt8)::q)).length<=48:=by
        have h1:=nums_len (x.ns.take k) (λn hn=>Hib.out n (List.mem_of_mem_take hn))
        have h2:(x.ns.take k).length<=8:=by rw[List.length_take];have h3:x.ns.length<=8:=Hsz.out.2.2;omega
        omega
       have hw2:=write_any b b _ ⟨#[10]⟩ w5 hBk.out (by
        rw[List.length_append,List.length_append]
        have h1:S1.data.toList.length=S1.size:=rfl
        show _+1<=_
        omega) (by omega)
       rw[hfull]at hw2
       have Hw2:=Lib.hid hw2
       clear hw2 hfull hlk
       go_wp2_with fail
       refine Hw2.out.mono ?_
       rintro e w7 ⟨rfl,B7,K7⟩
       have HB7:=Lib.hid B7
       clear B7
       go_wp2_with fail
       exact⟨⟨j+1,by omega,by go_num,Hok1,HB7,Nat.lt_of_lt_of_le hbk K7.size,Kk.trans K7 (λi hi hs=>absurd hs (HKW.out i hi _))⟩,by simp[intOf];omega⟩
  ·obtain rfl:j=n:=by omega
   have hall:printOk dim (l.map plainI)=true:=printOk_to.2 ⟨hd.1,hd.2,by rw[<-Hn.out];exact h60,by rw[<-Hn.out];exact hok.out⟩
   have hRV2:RV=Ending.returned (.tuple #[.string ⟨(printT dim (l.map plainI)).toArray⟩,.nilIface]):=by rw[HRV.out,printS,printE,if_pos hall,if_pos hall]
   have hBn:=hB.out
   rw[List.take_of_length_le (by have:=Hn.out;omega)]at hBn
   have hstr:=Tryz.Builder_String_any_k b b _ wo hBn (by omega)
   have Hstr:=Lib.hid hstr
   have HRV2:=Lib.hid hRV2
   have hbw':=hbw
   clear hall hRV2 hBn hstr
   go_wp2_with fail
   refine Hstr.out.mono ?_
   rintro e w9 ⟨rfl,-,hBl,-⟩
   go_wp2_with fail
   go_ret2
   refine⟨by rw[HRV2.out];rfl,⟨hBl.os.trans K.os,hBl.tape.trans K.tape,hBl.output.trans K.output,Nat.le_trans K.size hBl.size,λi hi hn=> ?_⟩⟩
   rw[hBl.block i (by have:=Hb.out;omega)]
   exact K.block i hi hn
end Go.Proofs.YtkjjpcebjcaadaaGreatDoor
namespace Go.Proofs.YtkjjpcebjcaadaaGreatDoor
open Go.RowKit Go.Cof
def ErrLike(v:Value):Prop:=v= .nilIface∨∃te pe,v= .iface te pe
structure NumErrs(w:World):Prop where
 range:∃ev,w.cell? ⟨4,0,none⟩=some ev∧ErrLike ev
 form:∃ev,w.cell? ⟨3,0,none⟩=some ev∧ErrLike ev
theorem NumErrs.keep{w w':World}(h:NumErrs w){S:Nat->Prop}(hk:Keep S w w')(h1:¬S 4)(h2:¬S 3):NumErrs w':=by
 obtain⟨⟨a,ha,ha'⟩,⟨b,hb,hb'⟩⟩:=h
 exact⟨⟨a,(hk.cell (p:=⟨4,0,none⟩) (Lib.lt_of_cell ha) h1).trans ha,ha'⟩,⟨b,(hk.cell (p:=⟨3,0,none⟩) (Lib.lt_of_cell hb) h2).trans hb,hb'⟩⟩
theorem keep_bytes(w:World)(e:TypeId)(s:ByteArray):Keep NoB w (Lib.bytesWorld w e s):=Keep.ofBelow (Lib.bytesWorld_below w e s)
def NumSaid(s:ByteArray)(e:Ending):Prop:=∃(n:Int) (b:Bool),e= .returned (.tuple #[.int .i64 n,.bool b])∧(match numT s.data.toList with|some v=>n=v∧b=true|none=>b=false)
set_option maxRecDepth 100000 in
theorem number_any(s:ByteArray)(w:World)(hs:s.size<=1000000)(T:PowVar w)(E:NumErrs w):
  Calls Tryz.prog 115 #[.string s] w λe w'=>NumSaid s e∧Keep NoB w w':=by
 have hbad:∀(n:Int) (N:Nat),numT s.data.toList=none->Calls Tryz.prog 147 #[.string s] w (λe w'=>∃N,e= .returned (.tuple #[.int .i64 n,.iface 348 (.pointer (some ⟨N,0,none⟩))])∧Keep NoB w w')->
   Calls Tryz.prog 115 #[.string s] w λe w'=>NumSaid s e∧Keep NoB w w':=by
  intro n N hno hc
  have HS:Hid (NumSaid s (.returned (.tuple #[.int .i64 n,.bool false]))):=Lib.hid ⟨n,false,rfl,by rw[hno]⟩
  clear hno
  go_enter Tryz.func115,Tryz.ntmps115
  go_wp2_with fail
  refine hc.mono ?_
  rintro e w1 ⟨N1,rfl,K1⟩
  go_wp2_with fail
  go_ret2
  exact⟨HS.out,K1⟩
 cases hA:Lib.atoiAll s.data.toList with
 | ok v=>
  have hc:=Tryz.strconv_Atoi_ok s (by omega) v hA w
  have hvb:=Lib.atoiAll_bounds hA
  obtain⟨it,hit⟩:∃it:ByteArray,it=⟨(Lib.itoa v).toArray⟩:=⟨_,rfl⟩
  have hito:=λw1 (K:Keep NoB w w1)=>itoa_any v hvb.1 hvb.2 w1 (T.keep K (λx=>x))
  rw[<-hit]at hito
  have hitl:it.data.toList=Lib.itoa v:=by rw[hit]
  obtain⟨B,hB⟩:∃B,B=(it.toList==s.toList):=⟨_,rfl⟩
  have hS:NumSaid s (.returned (.tuple #[.int .i64 v,.bool B])):=by
   refine⟨v,B,rfl,?_⟩
   rw[numT,hA]
   show(match (if Lib.itoa v=s.data.toList then some v else none)with|some v_1=>v=v_1∧B=true|none=>B=false)
   rw[ByteArray.toList_eq,ByteArray.toList_eq,hitl]at hB
   by_cases e:Lib.itoa v=s.data.toList
   ·rw[if_pos e]
    exact⟨rfl,by rw[hB,e];exact beq_self_eq_true _⟩
   ·rw[if_neg e]
    rw[hB]
    exact beq_eq_false_iff_ne.2 e
  have HS:=Lib.hid hS
  have Hito:=Lib.hid hito
  have hB':=hB.symm
  clear hS hito hit hitl hB hbad hA
  go_enter Tryz.func115,Tryz.ntmps115
  go_wp2_with fail
  refine hc.mono ?_
  rintro e w1 ⟨rfl,hw1⟩
  have K1:Keep NoB w w1:=by
   rcases hw1 with rfl|⟨t,rfl⟩
   ·exact Keep.refl _ _
   ·exact keep_bytes _ _ _
  clear hw1
  go_wp2_with fail
  refine(Hito.out _ K1).mono ?_
  rintro e w2 ⟨rfl,K2⟩
  go_wp2_with fail
  go_ret2
  exact⟨HS.out,K1.thenN K2⟩
 | range=>
  obtain⟨ev,hv,hev⟩:=E.range
  refine hbad (Lib.atoiSat s.data.toList) 0 (by rw[numT,hA]) ?_
  refine(Tryz.strconv_Atoi_range s (by omega) hA ev w hv hev).mono ?_
  rintro e w' ⟨N,rfl,_,_,hb⟩
  exact⟨N,rfl,Keep.ofBelow hb⟩
 | _=>
  obtain⟨ev,hv,hev⟩:=E.form
  refine hbad 0 0 (by rw[numT,hA]) ?_
  refine(Any.strconv_Atoi_syntax Tryz.laysC172 s (by omega) hA ev w hv hev).mono ?_
  rintro e w' ⟨N,rfl,_,_,hb⟩
  exact⟨N,rfl,Keep.ofBelow hb⟩
structure ItemVars(w:World):Prop where
 pow:PowVar w
 errs:NumErrs w
 max:∃m,w.cell? ⟨2,0,none⟩=some (.int .i64 m)
theorem ItemVars.keep{w w':World}(h:ItemVars w)(hk:Keep NoB w w'):ItemVars w':=by
 obtain⟨m,hm⟩:=h.max
 exact⟨h.pow.keep hk (λx=>x),h.errs.keep hk (λx=>x) (λx=>x),m,(hk.cell (p:=⟨2,0,none⟩) (Lib.lt_of_cell hm) (λx=>x)).trans hm⟩
theorem split_any(s:ByteArray)(c:UInt8)(w:World)(hs:s.size<=1000000)(V:ItemVars w):
  Calls Tryz.prog 113 #[.string s,.string ⟨#[c]⟩] w λe w'=>∃P:List ByteArray,P.map (·.data.toList)=pieces c s.data.toList∧e= .returned (.slice (some ⟨w.heap.size,0,none⟩) P.length P.length)∧w'.heap[w.heap.size]? =some (.cells (P.map Value.string).toArray 9 (0,0))∧Keep NoB w w':=by
 obtain⟨m,hm⟩:=V.max
 refine(Tryz.strings_Split s ⟨#[c]⟩ m w (by omega) hm (Nat.le_refl 1)).mono ?_
 rintro e w' ⟨rfl,rfl⟩
 have hP:=splitB_pieces c s
 have hl:(Lib.splitB ⟨#[c]⟩ 0 (Lib.countB s ⟨#[c]⟩) s).length=Lib.countB s ⟨#[c]⟩+1:=Lib.splitB_all ⟨#[c]⟩ (Nat.le_refl 1) 0 _ s rfl
 exact⟨_,hP,by rw[hl],heap_alloc_new w _,(Keep.refl _ _).alloc _⟩
theorem setCell_same'{w:World}{b i:Nat}{cur:Array Value}{E:TypeId}{fz:Nat×Nat}{u:Value}(h:w.heap[b]? =some (.cells cur E fz))(hu:cur[i]? =some u):w.setCell ⟨b,i,none⟩ u=w:=by
 have hlt:=lt_of_heap h
 have e:(w.heap.modify b λo=>match o with| .cells c e fr=> .cells (c.setIfInBounds i u) e fr|o=>o)=w.heap:=by
  apply Array.ext_getElem?
  intro k
  rw[Array.getElem?_modify]
  split
  ·rename_i hk
   subst hk
   rw[h]
   have:cur.setIfInBounds i u=cur:=by
    apply Array.ext_getElem?
    intro j
    rw[Array.getElem?_setIfInBounds]
    split
    ·rename_i hj;subst hj
     split
     ·exact hu.symm
     ·rename_i hn;rw[Array.getElem?_eq_none (by omega)]
    ·rfl
   simp[this]
  ·rfl
 show { w with heap:=_ } =w
 have e2:(w.setCell ⟨b,i,none⟩ u).heap=w.heap:=e
 exact congrArg (λhp=> { w with heap:=hp }) e2
theorem results_cell2{fn:Func}{t u:Tmp}{ty:TypeId}(h:fn.results= #[.cell t ty,.tmp u]){tmps:Array Value}{P:Program}{w:World}{a:Addr}{x:Value}(ha:tmps.getD t undef= .pointer (some a))(hl:(loadVar ty a).run P w= .ok x w):
  (results fn tmps).run P w= .ok (.tuple #[x,tmps.getD u undef]) w:=by
 rw[Array.getD_eq_getD_getElem?]at ha
 simp[results,h,ha,asAddr,hl]
set_option maxRecDepth 100000 in
theorem one_few(s:ByteArray)(w:World)(hs:s.size<=1000000)(V:ItemVars w)(hf:(pieces 32 s.data.toList).length<3):
  Calls Tryz.prog 116 #[.string s] w λe w'=>e= .returned (.tuple #[.agg #[.string ⟨#[]⟩,.string ⟨#[]⟩,.slice none 0 0],.bool false])∧Keep NoB w w':=by
 have hsp:=λw1 (K:Keep NoB w w1)=>split_any s 32 w1 hs (V.keep K)
 have Hsp:=Lib.hid hsp
 clear hsp
 go_enter Tryz.func116,Tryz.ntmps116
 go_wp2_with fail
 refine(Hsp.out _ ((Keep.refl _ _).alloc _)).mono ?_
 rintro e w1 ⟨P,hP,rfl,hrow,K1⟩
 have hPl:P.length<3:=by have:=congrArg List.length hP;rw[List.length_map]at this;omega
 have h3:(P.length:Int)<3:=by omega
 have hz:w1.heap[w.heap.size]? =some (.cells #[.string ⟨#[]⟩,.string ⟨#[]⟩,.slice none 0 0] 45 (0,0)):=K1.heap (heap_alloc_new w _) (λx=>x)
 have z0:w1.cell? ⟨w.heap.size,0,none⟩=some (.string ⟨#[]⟩):=by rw[cell_of_row _ _ _ _ _ (0,0) hz];rfl
 have z1:w1.cell? ⟨w.heap.size,1,none⟩=some (.string ⟨#[]⟩):=by rw[cell_of_row _ _ _ _ _ (0,0) hz];rfl
 have z2:w1.cell? ⟨w.heap.size,2,none⟩=some (.slice none 0 0):=by rw[cell_of_row _ _ _ _ _ (0,0) hz];rfl
 have f0:∀i,w1.frozen? ⟨w.heap.size,i,none⟩=false:=λi=>Lib.frozen_of_heap hz i
 clear hP hrow hf Hsp
 go_wp2_with fail
 have hzz:(((w1.setCell ⟨w.heap.size,0,none⟩ (.string ⟨#[]⟩)).setCell ⟨w.heap.size,1,none⟩ (.string ⟨#[]⟩)).setCell ⟨w.heap.size,2,none⟩ (.slice none 0 0))=w1:=by
  have h1:w1.setCell ⟨w.heap.size,0,none⟩ (.string ⟨#[]⟩)=w1:=setCell_same' hz rfl
  rw[h1,setCell_same' hz rfl,setCell_same' hz rfl]
 rw[hzz]
 refine bodyPost_ret (results_cell2 (x:= .agg #[.string ⟨#[]⟩,.string ⟨#[]⟩,.slice none 0 0]) rfl rfl ?_) rfl ⟨rfl,((Keep.refl _ _).alloc _).thenN K1⟩
 go_simp
def IntRow(w:World)(v:Value):Prop:=∀g,v.ownBlock=some g->∃cs fz,w.heap[g]? =some (.cells cs 3 fz)
def OneSaid(s:ByteArray)(w':World)(e:Ending):Prop:=∃(nm tg:ByteArray) (pa:Option Addr) (na ca:Nat) (b:Bool),e= .returned (.tuple #[.agg #[.string nm,.string tg,.slice pa na ca],.bool b])∧(match oneT s.data.toList with|some x=>b=true∧nm=x.1∧tg=x.2.1∧Nums w' (.slice pa na ca) x.2.2∧IntRow w' (.slice pa na ca)|none=>b=false)
def TwoC(N:Nat)(a b:ByteArray)(W:World):Prop:=W.cell? ⟨N,0,none⟩=some (.string a)∧W.cell? ⟨N,1,none⟩=some (.string b)
def intCells(l:List Int):List Value:=l.map (Value.int .i64)
theorem pieces_le(c:UInt8):∀(l:List UInt8),∀p∈pieces c l,p.length<=l.length
 | [],p,hp=>by rw[pieces,List.mem_singleton]at hp;rw[hp];exact Nat.le_refl _
 | b::l,p,hp=>by
  have ih:=pieces_le c l
  rw[pieces]at hp
  split at hp
  ·rcases List.mem_cons.1 hp with rfl|hp
   ·exact Nat.zero_le _
   ·have:=ih p hp;rw[List.length_cons];omega
  ·split at hp
   ·rw[List.mem_singleton.1 hp];simp
   ·rename_i q r e
    rcases List.mem_cons.1 hp with rfl|hp
    ·have:=ih q (by rw[e];exact List.mem_cons_self);simpa using this
    ·have:=ih p (by rw[e];exact List.mem_cons_of_mem _ hp);rw[List.length_cons];omega
theorem allNums_none:∀(l:List (List UInt8)) (k:Nat) (t:List UInt8),l[k]? =some t->numT t=none->allNums l=none
 | [],k,t,h,_=>by simp at h
 | x::l,0,t,h,hn=>by
  obtain rfl:x=t:=by simpa using h
  rw[allNums,hn]
 | x::l,k+1,t,h,hn=>by
  rw[allNums]
  cases numT x with
  | none=>rfl
  | some n=>
   have:=allNums_none l k t (by simpa using h) hn
   simp[this]
theorem allNums_snoc:∀(l:List (List UInt8)) (t:List UInt8) (ns:List Int) (n:Int),allNums l=some ns->numT t=some n->allNums (l++ [t])=some (ns++ [n])
 | [],t,ns,n,h,hn=>by
  obtain rfl: []=ns:=by simpa [allNums]using h
  simp[allNums,hn]
 | x::l,t,ns,n,h,hn=>by
  rw[allNums]at h
  rw[List.cons_append,allNums]
  cases hx:numT x with
  | none=>rw[hx]at h;cases h
  | some v=>
   rw[hx]at h
   cases hl:allNums l with
   | none=>rw[hl]at h;cases h
   | some ms=>
    rw[hl]at h
    obtain rfl:v::ms=ns:=by simpa using h
    rw[allNums_snoc l t ms n hl hn]
    rfl
theorem nums_ofN{w:World}{base:Nat}{v:Value}{ns:List Int}(h:OwnsN w base 3 1 v ns.length (intCells ns)):Nums w v ns:=by
 have h0:=h
 rcases h.2 with⟨hv,hn⟩|⟨g,cap,cur,fz,hv,_,hg,_⟩
 ·exact .inl ⟨List.eq_nil_of_length_eq_zero hn,none,0,hv⟩
 ·refine .inr ⟨g,0,cap,hv,lt_of_heap hg,λi hi=> ?_⟩
  have:=h0.cells (by rw[hv];rfl) i (.int .i64 (ns.getD i 0)) (by rw[intCells,List.getElem?_map,List.getD_eq_getElem?_getD,List.getElem?_eq_getElem hi];rfl)
  rwa [show(⟨g,0,none⟩:Addr).add i=⟨g,0+i,none⟩by unfold Addr.add;split<;>simp_all]at this
theorem own_sl1{w:World}{base:Nat}{e:TypeId}{size:Nat}{v:Value}{n:Nat}{xs:List Value}(h:OwnsN w base e size v n xs):∃p c,v= .slice p n c:=by
 rcases h.2 with⟨h,hn⟩|⟨_,_,_,_,h,_⟩
 ·exact⟨none,0,by rw[h,hn]⟩
 ·exact⟨_,_,h⟩
theorem int_info:∃i,Tryz.prog.info? 3=some i∧i.zero=some (.int .i64 0)∧i.size=1∧i.bytes=8:=by
 have h:(Tryz.prog.info? 3).map (λi=>(i.zero,i.size,i.bytes))=some (some (.int .i64 0),1,8):=by kernel_rfl
 cases hi:Tryz.prog.info? 3 with
 | none=>rw[hi]at h;cases h
 | some i=>
  rw[hi]at h
  simp only[Option.map_some,Option.some.injEq,Prod.mk.injEq]at h
  exact⟨i,rfl,h.1,h.2.1,h.2.2⟩
set_option maxRecDepth 100000 in
set_option maxHeartbeats 4000000 in
theorem one_more(s:ByteArray)(w:World)(hs:s.size<=1000000)(V:ItemVars w)(hf:3<=(pieces 32 s.data.toList).length):
  Calls Tryz.prog 116 #[.string s] w λe w'=>OneSaid s w' e∧Keep NoB w w':=by
 have hsp:=λw1 (K:Keep NoB w w1)=>split_any s 32 w1 hs (V.keep K)
 have Hsp:=Lib.hid hsp
 have HV:=Lib.hid V
 clear hsp V
 go_enter Tryz.func116,Tryz.ntmps116
 go_wp2_with fail
 refine(Hsp.out _ ((Keep.refl _ _).alloc _)).mono ?_
 rintro e w1 ⟨P,hP,rfl,hrow,K1⟩
 have hPl:3<=P.length:=by have:=congrArg List.length hP;rw[List.length_map]at this;omega
 obtain⟨a,b,c,R,rfl⟩:∃a b c R,P=a::b::c::R:=by
  match P,hPl with
  | a::b::c::R,_=>exact⟨a,b,c,R,rfl⟩
 have hsz:(w.alloc (.cells #[.string ⟨#[]⟩,.string ⟨#[]⟩,.slice none 0 0] 45)).heap.size=w.heap.size+1:=by show(w.heap.push _).size=_;rw[Array.size_push]
 rw[hsz]at hrow
 obtain⟨m,hm⟩:∃m,m=(a::b::c::R).length:=⟨_,rfl⟩
 have hm3:3<=m:=by rw[hm];exact hPl
 have h3:¬((m:Int)<3):=by omega
 have h0n:0<m:=by omega
 have h1n:1<m:=by omega
 have h0m:(0:Int)<m:=by omega
 have h1m:(1:Int)<m:=by omega
 have K0:Keep NoB w w1:=((Keep.refl _ _).alloc _).thenN K1
 have hz:w1.heap[w.heap.size]? =some (.cells #[.string ⟨#[]⟩,.string ⟨#[]⟩,.slice none 0 0] 45 (0,0)):=K1.heap (heap_alloc_new w _) (λx=>x)
 obtain⟨N,hN⟩:∃N,N=w.heap.size+1:=⟨_,rfl⟩
 obtain⟨Z,hZ⟩:∃Z,Z=w.heap.size:=⟨_,rfl⟩
 rw[<-hm]
 rw[<-hN]at hrow
 rw[<-hZ]at hz
 have cP:∀j t,(a::b::c::R)[j]? =some t->w1.cell? ⟨N,j,none⟩=some (.string t):=λj t ht=>by
  rw[cell_of_row _ _ _ _ _ (0,0) hrow,List.getElem?_toArray,List.getElem?_map,ht];rfl
 have hNlt:=lt_of_heap hrow
 have L0:TwoC N a b w1:=⟨cP 0 a rfl,cP 1 b rfl⟩
 have l0:∀x:InC (TwoC N a b),x.w.cell? ⟨N,0,none⟩=some (.string a):=λx=>x.h.1
 have l1:∀x:InC (TwoC N a b),x.w.cell? ⟨N,1,none⟩=some (.string b):=λx=>x.h.2
 have HP:=Lib.hid hP
 have HcP:=Lib.hid cP
 have Hrow:=Lib.hid hrow
 have Hm:=Lib.hid hm
 have HN:=Lib.hid hN
 have HZ:=Lib.hid hZ
 have HL0:=Lib.hid L0
 rw[hsz,<-hN]
 clear hP cP hm hrow hN hZ L0 hsz hf hPl Hsp K1
 go_wp2_with fail
 refine wp_region_take (TwoC N a b) [0,1,2,3,4,5,6] [7,8] (by kernel_rfl) (by kernel_rfl) (λc a d v w h=>by cases d<;>exact h) ?_
 simp only[pickL,List.getElem?_toArray,List.getElem?_cons_succ,List.getElem?_cons_zero]
 repeat(refine wpEarlyC_step (λK hK=> ?_);go_simp;first|(refine⟨_,λ_=>rfl,hK _ ?_⟩;clear hK K)|(refine hK _ ?_;clear hK K))
 refine wpEarlyC_nil ?_
 clear l0 l1
 simp only[wpRowC,pickL,List.getElem?_toArray,List.getElem?_cons_succ,List.getElem?_cons_zero]
 refine⟨HL0.out,?_⟩
 go_wp2_with fail
 have KA:Keep NoB w1 (w1.alloc (.cells #[.string ⟨#[]⟩,.string ⟨#[]⟩,.slice none 0 0] 45)).drew:=((Keep.refl _ _).alloc _).drew
 refine⟨⟨(KA.cell (p:=⟨N,0,none⟩) hNlt (λx=>x)).trans HL0.out.1,(KA.cell (p:=⟨N,1,none⟩) hNlt (λx=>x)).trans HL0.out.2⟩,?_⟩
 clear KA
 go_wp2_with fail
 have hX0:(w1.alloc (.cells #[.string a,.string b,.slice none 0 0] 45)).drew.heap[w1.heap.size]? =some (.cells #[.string a,.string b,.slice none 0 0] 45 (0,0)):=heap_alloc_new w1 _
 have KX0:Keep NoB w1 (w1.alloc (.cells #[.string a,.string b,.slice none 0 0] 45)).drew:=((Keep.refl _ _).alloc _).drew
 obtain⟨w2,hw2⟩:∃w2,w2=(w1.alloc (.cells #[.string a,.string b,.slice none 0 0] 45)).drew:=⟨_,rfl⟩
 obtain⟨X,hX⟩:∃X,X=w1.heap.size:=⟨_,rfl⟩
 rw[<-hw2]at hX0 KX0⊢
 rw[<-hX]at hX0⊢
 have HX:=Lib.hid hX
 have HX0:=Lib.hid hX0
 clear hw2 hX hX0
 obtain⟨ws,hws⟩:∃ws:List (List UInt8),ws=(c::R).map (·.data.toList):=⟨_,rfl⟩
 have Hws:=Lib.hid hws
 have hm2:m-2+2=m:=by omega
 clear hws
 go_loopw [26] (λiv wr=>∃(k:Nat) (ns:List Int) (av:Value),iv= .int .i64 k∧k<=m-2∧Hid (allNums (ws.take k)=some ns∧ns.length=k)∧Hid (wr.heap[X]? =some (.cells #[.string a,.string b,av] 45 (0,0)))∧Hid (OwnsN wr w1.heap.size 3 1 av k (intCells ns))∧Keep NoB w1 wr) (λiv _=>m-2-(intOf iv).toNat)
 case atStart=>exact⟨0,[],_,rfl,by omega,Lib.hid ⟨by rw[List.take_zero];rfl,rfl⟩,HX0,Lib.hid (OwnsN.nil _ _ _ _),KX0⟩
 case round=>
  clear KX0 HX0
  obtain⟨k,ns,av,rfl,hk,hns,hXr,hO,K⟩:=hrel
  obtain⟨wo,rfl⟩:∃wo,wo=wr:=⟨_,rfl⟩
  have hwl:ws.length=m-2:=by rw[Hws.out,List.length_map,Hm.out];simp
  have Hwl:=Lib.hid hwl
  clear hwl
  by_cases hlt:k<m-2
  ·have k1:(k:Int)<((m-2:Nat):Int):=by omega
   obtain⟨t,ht⟩:∃t,(c::R)[k]? =some t:=⟨_,List.getElem?_eq_getElem (by have h:=Hm.out;simp at h⊢;omega)⟩
   have ct:wo.cell? ⟨N,2+k,none⟩=some (.string t):=(K.cell (p:=⟨N,2+k,none⟩) hNlt (λx=>x)).trans (HcP.out (2+k) t (by rw[show 2+k=k+1+1 by omega];simpa using ht))
   have hwt:ws[k]? =some t.data.toList:=by rw[Hws.out,List.getElem?_map,ht];rfl
   have htl:t.size<=1000000:=by
    have h1:=pieces_le 32 s.data.toList t.data.toList (by rw[<-HP.out];exact List.mem_map.2 ⟨t,List.mem_cons_of_mem _ (List.mem_cons_of_mem _ (List.mem_of_getElem? ht)),rfl⟩)
    have h2:s.data.toList.length=s.size:=rfl
    have h3:t.data.toList.length=t.size:=rfl
    omega
   have hnum:=number_any t wo htl (HV.out.keep (K0.thenN K)).pow (HV.out.keep (K0.thenN K)).errs
   have Hnum:=Lib.hid hnum
   have Hwt:=Lib.hid hwt
   clear hnum hwt ht
   go_wp2_with fail
   refine Hnum.out.mono ?_
   rintro e w3 ⟨⟨n,B,rfl,hnb⟩,K3⟩
   have Hnb:=Lib.hid hnb
   clear hnb
   cases B with
   | false=>
    have hz3:w3.heap[w.heap.size]? =some (.cells #[.string ⟨#[]⟩,.string ⟨#[]⟩,.slice none 0 0] 45 (0,0)):=by rw[<-HZ.out];exact(K.thenN K3).heap hz (λx=>x)
    have z0:w3.cell? ⟨w.heap.size,0,none⟩=some (.string ⟨#[]⟩):=by rw[cell_of_row _ _ _ _ _ (0,0) hz3];rfl
    have z1:w3.cell? ⟨w.heap.size,1,none⟩=some (.string ⟨#[]⟩):=by rw[cell_of_row _ _ _ _ _ (0,0) hz3];rfl
    have z2:w3.cell? ⟨w.heap.size,2,none⟩=some (.slice none 0 0):=by rw[cell_of_row _ _ _ _ _ (0,0) hz3];rfl
    have f0:∀i,w3.frozen? ⟨w.heap.size,i,none⟩=false:=λi=>Lib.frozen_of_heap hz3 i
    have hnone:numT t.data.toList=none:=by
     have h:=Hnb.out
     cases hn:numT t.data.toList with
     | none=>rfl
     | some v=>rw[hn]at h;cases h.2
    have hone:oneT s.data.toList=none:=by
     have hp:=HP.out
     have h2:=allNums_none ws k _ Hwt.out hnone
     rw[Hws.out]at h2
     rw[oneT,<-hp]
     show Option.map _ (allNums ((c::R).map (·.data.toList)))=none
     rw[h2];rfl
    have hS:∀W,OneSaid s W (.returned (.tuple #[.agg #[.string ⟨#[]⟩,.string ⟨#[]⟩,.slice none 0 0],.bool false])):=λW=>⟨_,_,_,_,_,false,rfl,by rw[hone]⟩
    have HS:=Lib.hid hS
    clear hnone hone hS
    go_wp2_with fail
    have hzz:(((w3.setCell ⟨w.heap.size,0,none⟩ (.string ⟨#[]⟩)).setCell ⟨w.heap.size,1,none⟩ (.string ⟨#[]⟩)).setCell ⟨w.heap.size,2,none⟩ (.slice none 0 0))=w3:=by
     have h1:w3.setCell ⟨w.heap.size,0,none⟩ (.string ⟨#[]⟩)=w3:=setCell_same' hz3 rfl
     rw[h1,setCell_same' hz3 rfl,setCell_same' hz3 rfl]
    rw[hzz]
    refine bodyPost_ret (results_cell2 (x:= .agg #[.string ⟨#[]⟩,.string ⟨#[]⟩,.slice none 0 0]) rfl rfl ?_) rfl ⟨HS.out _,K0.thenN (K.thenN K3)⟩
    go_simp
   | true=>
    have hsome:numT t.data.toList=some n:=by
     have h:=Hnb.out
     cases hn:numT t.data.toList with
     | none=>rw[hn]at h;cases h
     | some v=>rw[hn]at h;rw[h.1]
    have hX3:=K3.heap hXr.out (λx=>x)
    obtain⟨pv,cv,hav⟩:=own_sl1 hO.out
    subst hav
    have x2:w3.cell? ⟨X,2,none⟩=some (.slice pv k cv):=by rw[cell_of_row _ _ _ _ _ (0,0) hX3];rfl
    have hO3:=hO.out.keep K3 (λ_ _ x=>x)
    have hs3:w1.heap.size<=w3.heap.size:=(K.thenN K3).size
    obtain⟨ii,hii,hzi,hsi,hbi⟩:=int_info
    have hkm:k<=1000001:=by
     have h1:=pieces_len 32 s.data.toList
     have h2:m=(pieces 32 s.data.toList).length:=by rw[<-HP.out,List.length_map];exact Hm.out
     have h3:s.data.toList.count 32<=s.data.toList.length:=List.count_le_length
     have h4:s.data.toList.length=s.size:=rfl
     omega
    have hfX:∀w4,(w3.alloc (.cells #[.int .i64 n] 3)).grownBy w4 (Value.slice pv k cv).ownBlock->w4.heap[X]? =some (.cells #[.string a,.string b,.slice pv k cv] 45 (0,0)):=by
     intro w4 hg4
     rw[hg4.block X (by show X<(w3.heap.push _).size;rw[Array.size_push];have:=lt_of_heap hX3;omega) (λe=> ?_)]
     ·rw[Below.heap_alloc _ _ _ (lt_of_heap hX3)];exact hX3
     ·rcases hO3.2 with⟨hv,_⟩|⟨g,cap,cur,fz,hv,_,hgg,_⟩
      ·rw[hv]at e;cases e
      ·rw[hv]at e
       have e2:X=g:=Option.some.inj e
       subst e2
       exact absurd (two_types' hX3 hgg) (by decide)
    have HfX:=Lib.hid hfX
    have HX3:=Lib.hid hX3
    clear hfX
    have Hsome:=Lib.hid hsome
    clear hX3 hsome
    go_wp2_with (at_builtin;refine wpList_append_n _ rfl _ _ 24 rfl w1.heap.size 3 ii _ 1 8 Tryz.underlying24 hii hzi hsi hbi rfl (by decide) (.slice pv k cv) k _ rfl (hO3.alloc _) ⟨w3.heap.size,0,none⟩ 1 1 [.int .i64 n] rfl rfl (cells_new _ _ _) (by intro u hu;rw[List.mem_singleton.1 hu];rfl) (by unfold maxLen;omega) (by omega) (by show w1.heap.size<=(w3.heap.push _).size;rw[Array.size_push];omega) ?_;intro v4 w4 own4 hg4;have hX4:=HfX.out _ hg4;have y2:w4.cell? ⟨X,2,none⟩=some (.slice pv k cv):=(cell_of_row _ _ _ _ _ (0,0) hX4).trans rfl;have fX:w4.frozen? ⟨X,2,none⟩=false:=Lib.frozen_of_heap hX4 2;obtain⟨p4,c4,hv4⟩:=own_sl1 own4;subst hv4)
    have KS:Keep (OneB X) w4 (w4.setCell ⟨X,2,none⟩ (.slice p4 (k+1) c4)):=(Keep.refl (OneB X) w4).set1 2 _
    have hX5:(w4.setCell ⟨X,2,none⟩ (.slice p4 (k+1) c4)).heap[X]? =some (.cells #[.string a,.string b,.slice p4 (k+1) c4] 45 (0,0)):=by
     have hlt:=lt_of_heap hX4
     have h':w4.heap[X]= .cells #[.string a,.string b,.slice pv k cv] 45 (0,0):=by simpa [Array.getElem?_eq_getElem hlt]using hX4
     show(w4.heap.modify X _)[X]? =_
     rw[Array.getElem?_eq_getElem (by simpa using hlt),Array.getElem_modify_self,h']
     rfl
    have own5:=own4.keep KS (λg hg hs=>by
     have h1:g=X:=hs
     subst h1
     rcases own4.2 with⟨hv,_⟩|⟨g',cap,cur,fz,hv,_,hgg,_⟩
     ·rw[hv]at hg;cases hg
     ·rw[hv]at hg
      obtain rfl:g'=g:=Option.some.inj hg
      exact absurd (two_types' hX4 hgg) (by decide))
    have K5:Keep NoB w1 (w4.setCell ⟨X,2,none⟩ (.slice p4 (k+1) c4)):=(((K.thenN K3).alloc _).grown hg4 (λq hq=> .inr (hO3.lt q hq).1)).trans KS (λi hi hs=>by have h:i=X:=hs;have:=HX.out;omega)
    refine⟨⟨k+1,ns++ [n],_,by go_num,by omega,Lib.hid ⟨?_,by rw[List.length_append,hns.out.2];rfl⟩,Lib.hid hX5,Lib.hid ?_,K5⟩,by simp[intOf];omega⟩
    ·have hk2:=(List.getElem?_eq_some_iff.1 Hwt.out)
     rw[List.take_succ_eq_append_getElem hk2.1,hk2.2]
     exact allNums_snoc _ _ _ _ hns.out.1 Hsome.out
    ·rw[show intCells (ns++ [n])=intCells ns++ [.int .i64 n]by simp[intCells]]
     exact own5
  ·obtain⟨pv,cv,hav⟩:=own_sl1 hO.out
   subst hav
   have x0:wo.cell? ⟨X,0,none⟩=some (.string a):=by rw[cell_of_row _ _ _ _ _ (0,0) hXr.out];rfl
   have x1:wo.cell? ⟨X,1,none⟩=some (.string b):=by rw[cell_of_row _ _ _ _ _ (0,0) hXr.out];rfl
   have x2:wo.cell? ⟨X,2,none⟩=some (.slice pv k cv):=by rw[cell_of_row _ _ _ _ _ (0,0) hXr.out];rfl
   have hz3:wo.heap[w.heap.size]? =some (.cells #[.string ⟨#[]⟩,.string ⟨#[]⟩,.slice none 0 0] 45 (0,0)):=by rw[<-HZ.out];exact K.heap hz (λx=>x)
   have z0:wo.cell? ⟨w.heap.size,0,none⟩=some (.string ⟨#[]⟩):=by rw[cell_of_row _ _ _ _ _ (0,0) hz3];rfl
   have z1:wo.cell? ⟨w.heap.size,1,none⟩=some (.string ⟨#[]⟩):=by rw[cell_of_row _ _ _ _ _ (0,0) hz3];rfl
   have z2:wo.cell? ⟨w.heap.size,2,none⟩=some (.slice none 0 0):=by rw[cell_of_row _ _ _ _ _ (0,0) hz3];rfl
   have f0:∀i,wo.frozen? ⟨w.heap.size,i,none⟩=false:=λi=>Lib.frozen_of_heap hz3 i
   have j1:¬((k:Int)<((m-2:Nat):Int)):=by omega
   go_wp2_with fail
   have hZX:w.heap.size<w1.heap.size:=by have:=lt_of_heap hz;have:=HZ.out;omega
   have KZ:Keep (OneB w.heap.size) wo (((wo.setCell ⟨w.heap.size,0,none⟩ (.string a)).setCell ⟨w.heap.size,1,none⟩ (.string b)).setCell ⟨w.heap.size,2,none⟩ (.slice pv k cv)):=(((Keep.refl (OneB w.heap.size) wo).set1 0 _).set1 1 _).set1 2 _
   have hNm:Nums wo (.slice pv k cv) ns:=nums_ofN (by rw[hns.out.2];exact hO.out)
   have hNm2:=hNm.keep KZ (λg hg hs=>by
    have h1:=(hO.out.lt g hg).1
    have h2:g=w.heap.size:=hs
    omega)
   have hIR:IntRow (((wo.setCell ⟨w.heap.size,0,none⟩ (.string a)).setCell ⟨w.heap.size,1,none⟩ (.string b)).setCell ⟨w.heap.size,2,none⟩ (.slice pv k cv)) (.slice pv k cv):=by
    intro g hg
    rcases hO.out.2 with⟨hv,_⟩|⟨g',cap,cur,fz,hv,hbg,hgg,_⟩
    ·rw[hv]at hg;cases hg
    ·rw[hv]at hg
     obtain rfl:g'=g:=Option.some.inj hg
     exact⟨_,_,KZ.heap hgg (λhs=>by have h2:g'=w.heap.size:=hs;omega)⟩
   have hone:oneT s.data.toList=some (a,b,ns):=by
    have h2:=hns.out.1
    rw[List.take_of_length_le (by rw[Hwl.out];exact Nat.le_of_eq (by omega)),Hws.out]at h2
    rw[oneT,<-HP.out]
    show Option.map _ (allNums ((c::R).map (·.data.toList)))=_
    rw[h2]
    rfl
   refine bodyPost_ret (results_cell2 (x:= .agg #[.string a,.string b,.slice pv k cv]) rfl rfl ?_) rfl ⟨⟨a,b,_,_,_,true,rfl,by rw[hone];exact⟨rfl,rfl,rfl,hNm2,hIR⟩⟩,(K0.thenN K).trans KZ (λi hi hs=>by have h:i=w.heap.size:=hs;omega)⟩
   go_simp
end Go.Proofs.YtkjjpcebjcaadaaGreatDoor
namespace Go.Cof
open Go.Lib Go.Proofs.YtkjjpcebjcaadaaGreatDoor
theorem allNums_len:∀(l:List (List UInt8)) (ns:List Int),allNums l=some ns->ns.length=l.length
 | [],ns,h=>by
  obtain rfl: []=ns:=by simpa [allNums]using h
  rfl
 | t::l,ns,h=>by
  rw[allNums]at h
  cases ht:numT t with
  | none=>rw[ht]at h;cases h
  | some n=>
   rw[ht]at h
   cases hl:allNums l with
   | none=>rw[hl]at h;cases h
   | some ms=>
    rw[hl]at h
    obtain rfl:n::ms=ns:=by simpa using h
    rw[List.length_cons,List.length_cons,allNums_len l ms hl]
theorem oneT_len{t:List UInt8}{x:PItem}(h:oneT t=some x):x.2.2.length<=t.length:=by
 have hl:=pieces_len 32 t
 have hc:t.count 32<=t.length:=List.count_le_length
 rw[oneT]at h
 split at h
 ·rename_i a b c r hp
  cases hn:allNums (c::r)with
  | none=>rw[hn]at h;cases h
  | some ns=>
   rw[hn]at h
   have h2:=allNums_len _ _ hn
   have h3:x.2.2=ns:=by rw[<-Option.some.inj h]
   rw[hp]at hl
   simp only[List.length_cons]at hl h2
   rw[h3,h2]
   omega
 ·cases h
theorem allOnes_none:∀(l:List (List UInt8)) (k:Nat) (t:List UInt8),l[k]? =some t->oneT t=none->allOnes l=none
 | [],k,t,h,_=>by simp at h
 | x::l,0,t,h,hn=>by
  obtain rfl:x=t:=by simpa using h
  rw[allOnes,hn]
 | x::l,k+1,t,h,hn=>by
  rw[allOnes]
  cases oneT x with
  | none=>rfl
  | some n=>
   have:=allOnes_none l k t (by simpa using h) hn
   simp[this]
theorem allOnes_snoc:∀(l:List (List UInt8)) (t:List UInt8) (ns:List PItem) (n:PItem),allOnes l=some ns->oneT t=some n->allOnes (l++ [t])=some (ns++ [n])
 | [],t,ns,n,h,hn=>by
  obtain rfl: []=ns:=by simpa [allOnes]using h
  simp[allOnes,hn]
 | x::l,t,ns,n,h,hn=>by
  rw[allOnes]at h
  rw[List.cons_append,allOnes]
  cases hx:oneT x with
  | none=>rw[hx]at h;cases h
  | some v=>
   rw[hx]at h
   cases hl:allOnes l with
   | none=>rw[hl]at h;cases h
   | some ms=>
    rw[hl]at h
    obtain rfl:v::ms=ns:=by simpa using h
    rw[allOnes_snoc l t ms n hl hn]
    rfl
end Go.Cof
namespace Go.Proofs.YtkjjpcebjcaadaaGreatDoor
open Go.RowKit Go.Cof
theorem one_any(s:ByteArray)(w:World)(hs:s.size<=1000000)(V:ItemVars w):
  Calls Tryz.prog 116 #[.string s] w λe w'=>OneSaid s w' e∧Keep NoB w w':=by
 by_cases hf:(pieces 32 s.data.toList).length<3
 ·refine(one_few s w hs V hf).mono ?_
  rintro e w' ⟨rfl,K⟩
  have hone:oneT s.data.toList=none:=by
   rw[oneT]
   match hp:pieces 32 s.data.toList,hf with
   | [],_=>rfl
   | [_],_=>rfl
   | [_,_],_=>rfl
   | _::_::_::_,h=>simp at h;omega
  exact⟨⟨_,_,_,_,_,false,rfl,by rw[hone]⟩,K⟩
 ·exact one_more s w hs V (by omega)
end Go.Proofs.YtkjjpcebjcaadaaGreatDoor
namespace Go.Proofs.YtkjjpcebjcaadaaGreatDoor
open Go.RowKit Go.Cof
def ParseSaid(s:ByteArray)(w':World)(e:Ending):Prop:=match parseT s.data.toList with
 | some (d,l)=>∃(v:Value) (L:List ItemV),e= .returned (.tuple #[.int .i64 d,v,.nilIface])∧L.map plainI=l∧Items w' v L∧∀x∈L,IntRow w' x.av
 | none=>e= .returned (.tuple #[.int .i64 0,.slice none 0 0,errVal 3])
set_option maxRecDepth 100000 in
set_option maxHeartbeats 8000000 in
theorem parse_any(s:ByteArray)(w:World)(hs:s.size<=1000000)(V:ItemVars w):
  Calls Tryz.prog 53 #[.string s] w λe w'=>ParseSaid s w' e∧Keep NoB w w':=by
 have hsp:=split_any s 10 w hs V
 have Hsp:=Lib.hid hsp
 have HV:=Lib.hid V
 clear hsp V
 go_enter Tryz.func53,Tryz.ntmps53
 go_wp2_with fail
 refine Hsp.out.mono ?_
 rintro e w1 ⟨P,hP,rfl,hrow,K1⟩
 have hPne:P≠ []:=λe=>by rw[e]at hP;exact pieces_ne 10 _ hP.symm
 obtain⟨hd,R,rfl⟩:∃hd R,P=hd::R:=by
  cases P with
  | nil=>exact absurd rfl hPne
  | cons a R=>exact⟨a,R,rfl⟩
 obtain⟨m,hm⟩:∃m,m=(hd::R).length:=⟨_,rfl⟩
 have hm1:0<m:=by rw[hm];simp
 obtain⟨N,hN⟩:∃N,N=w.heap.size:=⟨_,rfl⟩
 rw[<-hm]
 rw[<-hN]at hrow⊢
 have cP:∀j t,(hd::R)[j]? =some t->w1.cell? ⟨N,j,none⟩=some (.string t):=λj t ht=>by
  rw[cell_of_row _ _ _ _ _ (0,0) hrow,List.getElem?_toArray,List.getElem?_map,ht];rfl
 have c0:=cP 0 hd rfl
 have hhead:headOf s.data.toList=hd.data.toList:=by rw[headOf,<-hP];rfl
 have hlines:linesOf s.data.toList=(R.map (·.data.toList)).dropLast:=by rw[linesOf,<-hP];rfl
 have hple:∀t∈hd::R,t.size<=1000000:=λt ht=>by
  have h1:=pieces_le 10 s.data.toList t.data.toList (by rw[<-hP];exact List.mem_map.2 ⟨t,ht,rfl⟩)
  have h2:s.data.toList.length=s.size:=rfl
  have h3:t.data.toList.length=t.size:=rfl
  omega
 have hm6:m<=1000001:=by
  have h1:=pieces_len 10 s.data.toList
  have h2:m=(pieces 10 s.data.toList).length:=by rw[<-hP,List.length_map];exact hm
  have h3:s.data.toList.count 10<=s.data.toList.length:=List.count_le_length
  have h4:s.data.toList.length=s.size:=rfl
  omega
 have hcut:∀w,Calls Tryz.prog 114 #[.string hd,.string ⟨#[100,105,109,32]⟩] w λe w'=>e= .returned (.tuple #[.string ⟨(Lib.trimPrefix hd.data.toList dimT).toArray⟩,.bool (Lib.hasPrefix hd.data.toList dimT)])∧w'=w:=λw=>Tryz.strings_CutPrefix hd ⟨#[100,105,109,32]⟩ w
 obtain⟨tp,htp⟩:∃tp:ByteArray,tp=⟨(Lib.trimPrefix hd.data.toList dimT).toArray⟩:=⟨_,rfl⟩
 have htpl:tp.data.toList=Lib.trimPrefix hd.data.toList dimT:=by rw[htp]
 have htps:tp.size<=1000000:=by
  have h1:tp.size=(Lib.trimPrefix hd.data.toList dimT).length:=by rw[<-htpl];rfl
  have h2:(Lib.trimPrefix hd.data.toList dimT).length<=hd.data.toList.length:=by
   unfold Lib.trimPrefix
   split
   ·rw[List.length_drop];omega
   ·exact Nat.le_refl _
  have h3:=hple hd List.mem_cons_self
  have h4:hd.data.toList.length=hd.size:=rfl
  omega
 obtain⟨B,hB⟩:∃B,B=Lib.hasPrefix hd.data.toList dimT:=⟨_,rfl⟩
 rw[<-htp,<-hB]at hcut
 have hnum:=number_any tp w1 htps (HV.out.keep K1).pow (HV.out.keep K1).errs
 have Hcut:=Lib.hid hcut
 have Hnum:=Lib.hid hnum
 have Hhead:=Lib.hid hhead
 have Hlines:=Lib.hid hlines
 have Hple:=Lib.hid hple
 have Htpl:=Lib.hid htpl
 have HB:=Lib.hid hB
 have HcP:=Lib.hid cP
 have Hm:=Lib.hid hm
 have Hrow:=Lib.hid hrow
 have HN:=Lib.hid hN
 clear hcut hnum hhead hlines hple htpl hB cP hm hrow hP hPne htp Hsp hN
 go_wp2_with fail
 refine(Hcut.out _).mono ?_
 rintro e w2 ⟨rfl,hw2⟩
 subst w2
 go_wp2_with fail
 refine Hnum.out.mono ?_
 rintro e w3 ⟨⟨n,G,rfl,hnb⟩,K3⟩
 have Hnb:=Lib.hid hnb
 clear hnb
 have hno:∀W,(B=false∨G=false)->ParseSaid s W (.returned (.tuple #[.int .i64 0,.slice none 0 0,.iface 48 (.int .i64 3)])):=by
  intro W h
  have hp:parseT s.data.toList=none:=by
   rw[parseT,Hhead.out,<-HB.out,<-Htpl.out]
   rcases h with h|h
   ·rw[h];rfl
   ·cases B with
    | false=>rfl
    | true=>
     have h2:=Hnb.out
     cases hx:numT tp.data.toList with
     | none=>rfl
     | some v=>rw[hx]at h2;rw[h2.2]at h;cases h
  rw[ParseSaid,hp]
  rfl
 have Hno:=Lib.hid hno
 clear hno
 cases B with
 | false=>
  go_wp2_with fail
  go_ret3
  exact⟨Hno.out _ (.inl (by first|rfl|trivial)),K1.thenN K3⟩
 | true=>
  cases G with
  | false=>
   go_wp2_with fail
   go_ret3
   exact⟨Hno.out _ (.inr (by first|rfl|trivial)),K1.thenN K3⟩
  | true=>
   obtain⟨M,hM⟩:∃M,M=max (m-1) 1:=⟨_,rfl⟩
   have hM1:(max ((m:Int)-1) 1)=(M:Int):=by omega
   have hMw:IntKind.i64.wrap ((m:Int)-1)=(m:Int)-1:=IntWalk.i64_in _ (by omega)
   have hMl:M<=m:=by omega
   have hMg:1<=M:=by omega
   have HM:=Lib.hid hM
   clear hM
   go_upto_region 7 with(fail)
   go_cut [43,44,45] (λlv nv iv wx=>∃(pp:Addr),lv= .slice (some pp) (M-1) (m-1)∧Hid (1<m->pp=⟨N,1,none⟩)∧nv= .int .i64 ((M-1:Nat):Int)∧iv= .int .i64 0∧wx=w3)
   case first=>
    by_cases hm1e:m=1
    ·have Hm1e:=Lib.hid hm1e
     go_wp2_with fail
     go_meet
     case rel=>
      have hM0:M=1:=by have:=HM.out;have:=Hm1e.out;omega
      exact⟨⟨N,0,none⟩,by rw[hM0,show m-1=0 by have:=Hm1e.out;omega];rfl,Lib.hid (λh=>by have:=Hm1e.out;omega),by rw[hM0];rfl,rfl,rfl⟩
    ·go_wp2_with fail
     go_meet
     case rel=>exact⟨_,rfl,Lib.hid (λh=>rfl),rfl,rfl,rfl⟩
   case rest=>
    obtain⟨pp,rfl,hpp,rfl,rfl,hwx⟩:=hcut
    have hwx2:=hwx.symm
    clear hwx
    subst hwx2
    obtain⟨Q,hQ⟩:∃Q,Q=M-1:=⟨_,rfl⟩
    rw[<-hQ]
    obtain⟨ws,hws⟩:∃ws:List (List UInt8),ws=R.map (·.data.toList):=⟨_,rfl⟩
    have Hws:=Lib.hid hws
    have HQ:=Lib.hid hQ
    have hQ6:Q<=1000001:=by have:=HM.out;omega
    have HK1:=Lib.hid K1
    have HK3:=Lib.hid K3
    clear hws hQ K1 K3 hMl hMg hM1 hMw Hrow
    go_wp2_with fail
    go_loopw [10,45] (λlv iv wr=>∃(k:Nat) (L:List ItemV) (v:Value),iv= .int .i64 k∧v=lv∧k<=Q∧Hid (allOnes (ws.take k)=some (L.map plainI)∧L.length=k)∧Hid (OwnsN wr w3.heap.size 45 3 v k (L.flatMap encItem))∧Hid (∀x∈L,Nums wr x.av x.ns∧IntRow wr x.av∧x.ns.length<=1000000)∧Keep NoB w3 wr) (λ_ iv _=>Q-(intOf iv).toNat)
    case atStart=>exact⟨0,[],_,rfl,rfl,by omega,Lib.hid ⟨by rw[List.take_zero];rfl,rfl⟩,Lib.hid (OwnsN.nil _ _ _ _),Lib.hid (λx hx=>by cases hx),Keep.refl _ _⟩
    case round=>
     obtain⟨k,L,v,rfl,rfl,hk,hL,hO,hN,K⟩:=hrel
     obtain⟨wo,rfl⟩:∃wo,wo=wr:=⟨_,rfl⟩
     by_cases hlt:k<Q
     ·have k1:(k:Int)<(Q:Int):=by omega
      have h1m:1<m:=by have:=HM.out;have:=HQ.out;omega
      obtain rfl:=hpp.out h1m
      have hRl:R.length=m-1:=by have:=Hm.out;simp at this;omega
      obtain⟨t,ht⟩:∃t,R[k]? =some t:=⟨_,List.getElem?_eq_getElem (by have:=HM.out;have:=HQ.out;omega)⟩
      have ct:wo.cell? ⟨N,1+k,none⟩=some (.string t):=by
       have h0:=HcP.out (1+k) t (by rw[show 1+k=k+1 by omega];simpa using ht)
       have h1:=Lib.lt_of_cell h0
       exact((HK3.out.thenN K).cell (p:=⟨N,1+k,none⟩) h1 (λx=>x)).trans h0
      have hwt:ws[k]? =some t.data.toList:=by rw[Hws.out,List.getElem?_map,ht];rfl
      have htl:t.size<=1000000:=Hple.out t (List.mem_cons_of_mem _ (List.mem_of_getElem? ht))
      have hone:=λW (KW:Keep NoB wo W)=>one_any t W htl (HV.out.keep (((HK1.out.thenN HK3.out).thenN K).thenN KW))
      have Hone:=Lib.hid hone
      have Hwt:=Lib.hid hwt
      have Htl:=Lib.hid htl
      clear hone hwt ht hRl htl h1m
      go_wp2_with fail
      refine(Hone.out _ (Keep.refl _ _)).mono ?_
      rintro e w4 ⟨⟨nm,tg,pa,na,ca,B,rfl,hob⟩,K4⟩
      have Hob:=Lib.hid hob
      clear hob
      cases B with
      | false=>
       have hp:parseT s.data.toList=none:=by
        have h1:oneT t.data.toList=none:=by
         have h:=Hob.out
         cases hx:oneT t.data.toList with
         | none=>rfl
         | some v=>rw[hx]at h;cases h.1
        have h2:allOnes (linesOf s.data.toList)=none:=by
         refine allOnes_none _ k t.data.toList ?_ h1
         rw[Hlines.out,List.getElem?_dropLast,if_pos ?_]
         ·have:=Hwt.out;rw[Hws.out]at this;exact this
         ·have:=HM.out;have:=HQ.out;have:=Hm.out;rw[List.length_map];simp at this;omega
        rw[parseT,Hhead.out,<-HB.out,<-Htpl.out]
        have h3:=Hnb.out
        cases hx:numT tp.data.toList with
        | none=>simp
        | some v=>simp[h2]
       have hsaid:∀W,ParseSaid s W (.returned (.tuple #[.int .i64 0,.slice none 0 0,.iface 48 (.int .i64 3)])):=λW=>by rw[ParseSaid,hp];rfl
       have Hsaid:=Lib.hid hsaid
       clear hp hsaid
       go_wp2_with fail
       go_ret3
       exact⟨Hsaid.out _,(((HK1.out.thenN HK3.out).thenN K).thenN K4).alloc _⟩
      | true=>
       obtain⟨x,hx⟩:∃x,oneT t.data.toList=some x:=by
        have h:=Hob.out
        cases hx:oneT t.data.toList with
        | none=>rw[hx]at h;cases h
        | some x=>exact⟨x,rfl⟩
       have hob:=Hob.out
       rw[hx]at hob
       obtain⟨-,rfl,rfl,hnx,hix⟩:=hob
       obtain⟨xn,xt,ns⟩:=x
       simp only at hnx
       have hxl:ns.length<=1000000:=by
        have h1:=oneT_len hx
        have h2:=Htl.out
        have h3:t.data.toList.length=t.size:=rfl
        simp only at h1
        omega
       obtain⟨pv,cv,hav⟩:=own_sl1 hO.out
       subst hav
       obtain⟨ii,hii,hzi,hsi,hbi⟩:=item_info
       have hO4:=((hO.out.keep K4 (λ_ _ x=>x)).alloc (.cells #[.string xn,.string xt,.slice pa na ca] 45)).alloc (.cells #[.string xn,.string xt,.slice pa na ca] 45)
       have hs4:w3.heap.size<=w4.heap.size:=(K.thenN K4).size
       have Hx:=Lib.hid hx
       have Hnx:=Lib.hid hnx
       have Hix:=Lib.hid hix
       have Hxl:=Lib.hid hxl
       have hcn:=cells_new (w4.alloc (.cells #[.string xn,.string xt,.slice pa na ca] 45)) [.string xn,.string xt,.slice pa na ca] 45
       have hsz:(w4.alloc (.cells #[.string xn,.string xt,.slice pa na ca] 45)).heap.size=w4.heap.size+1:=Array.size_push _
       rw[hsz]at hcn
       have Hcn:=Lib.hid hcn
       clear hx hnx hix hxl Hone Hob hcn hsz
       go_wp2_with (at_builtin;refine wpList_append_n _ rfl _ _ 57 rfl w3.heap.size 45 ii _ 3 56 Tryz.underlying57 hii hzi hsi hbi rfl (by decide) (.slice pv k cv) k _ rfl hO4 ⟨w4.heap.size+1,0,none⟩ 1 1 [.string xn,.string xt,.slice pa na ca] rfl rfl Hcn.out (encItem_one3 xn xt pa na ca) (by unfold maxLen;omega) (by omega) (by simp<;>omega) ?_;intro v5 w5 own5 hg5)
       have KV:Keep (λb=>(Value.slice pv k cv).ownBlock=some b) ((w4.alloc (.cells #[.string xn,.string xt,.slice pa na ca] 45)).alloc (.cells #[.string xn,.string xt,.slice pa na ca] 45)) w5:=(Keep.refl _ _).grown hg5 (λq hq=> .inl hq)
       have K45:Keep NoB w4 ((w4.alloc (.cells #[.string xn,.string xt,.slice pa na ca] 45)).alloc (.cells #[.string xn,.string xt,.slice pa na ca] 45)):=((Keep.refl _ _).alloc _).alloc _
       have K35:Keep NoB w3 w5:=((K.thenN K4).thenN K45).grown hg5 (λq hq=> .inr (hO.out.lt q hq).1)
       have hkeep:∀(u:Value) (l:List Int),Nums w4 u l->IntRow w4 u->Nums w5 u l∧IntRow w5 u:=by
        intro u l hn hi
        have hne:∀b,u.ownBlock=some b->¬(Value.slice pv k cv).ownBlock=some b:=by
         intro b hb hv
         obtain⟨cs,fz,hc⟩:=hi b hb
         have hc2:=K45.heap hc (λx=>x)
         rcases hO4.2 with⟨hv0,_⟩|⟨g,cap,cur,fz2,hv0,_,hgg,_⟩
         ·rw[hv0]at hv;cases hv
         ·rw[hv0]at hv
          obtain rfl:g=b:=Option.some.inj hv
          exact absurd (two_types' hc2 hgg) (by decide)
        refine⟨(hn.keep K45 (λ_ _ x=>x)).keep KV hne,λb hb=> ?_⟩
        obtain⟨cs,fz,hc⟩:=hi b hb
        exact⟨cs,fz,KV.heap (K45.heap hc (λx=>x)) (hne b hb)⟩
       refine⟨⟨k+1,L++ [⟨xn,xt,.slice pa na ca,ns⟩],_,by go_num,rfl,by omega,Lib.hid ⟨?_,by rw[List.length_append,hL.out.2];rfl⟩,Lib.hid ?_,Lib.hid ?_,K35⟩,by simp[intOf];omega⟩
       ·have hk2:=(List.getElem?_eq_some_iff.1 Hwt.out)
        rw[List.take_succ_eq_append_getElem hk2.1,hk2.2,List.map_append]
        exact allOnes_snoc _ _ _ _ hL.out.1 Hx.out
       ·rw[List.flatMap_append]
        exact own5
       ·intro y hy
        rcases List.mem_append.1 hy with hy|hy
        ·obtain⟨h1,h2,h3⟩:=hN.out y hy
         have h4:=hkeep y.av y.ns (h1.keep K4 (λ_ _ x=>x)) (λb hb=>by obtain⟨cs,fz,hc⟩:=h2 b hb;exact⟨cs,fz,K4.heap hc (λx=>x)⟩)
         exact⟨h4.1,h4.2,h3⟩
        ·rw[List.mem_singleton.1 hy]
         have h4:=hkeep (.slice pa na ca) ns Hnx.out Hix.out
         exact⟨h4.1,h4.2,Hxl.out⟩
     ·obtain rfl:k=Q:=by omega
      have k1:¬((k:Int)<(k:Int)):=by omega
      obtain⟨pv,cv,hav⟩:=own_sl1 hO.out
      subst hav
      have hlk:=hL.out.2
      have hall:allOnes (linesOf s.data.toList)=some (L.map plainI):=by
       have h:=hL.out.1
       rw[Hlines.out]
       have e:ws.take k=(R.map (·.data.toList)).dropLast:=by
        rw[Hws.out,List.dropLast_eq_take,List.length_map]
        have h1:=HM.out
        have h2:=HQ.out
        have h3:=Hm.out
        simp only[List.length_cons]at h3
        by_cases h4:R.length=0
        ·have:R= []:=List.eq_nil_of_length_eq_zero h4
         subst this
         simp
        ·congr 1
         omega
       rw[<-e]
       exact h
      have hit:Items wo (.slice pv L.length cv) L:=⟨RowsK.ofN encItem_len (by rw[hlk];exact hO.out),λx hx=>(hN.out x hx).1⟩
      have hpr:=print_any n (.slice pv L.length cv) L wo hit (by unfold maxLen;omega) (λx hx=>(hN.out x hx).2.2) (HV.out.keep ((HK1.out.thenN HK3.out).thenN K)).pow
      rw[hlk]at hpr
      obtain⟨PS,hPS⟩:∃p,p=printS n L:=⟨_,rfl⟩
      rw[<-hPS]at hpr
      have hparse:∀d,numT tp.data.toList=some d->parseT s.data.toList=if printOk d (L.map plainI)=true∧printT d (L.map plainI)=s.data.toList then some (d,L.map plainI)else none:=by
       intro d hd
       rw[parseT,Hhead.out,<-HB.out,<-Htpl.out,hd,hall]
       simp
      have hd:numT tp.data.toList=some n:=by
       have h3:=Hnb.out
       cases hx:numT tp.data.toList with
       | none=>rw[hx]at h3;cases h3
       | some v=>rw[hx]at h3;rw[h3.1]
      have hpar:=hparse n hd
      have Hpar:=Lib.hid hpar
      have HPS:=Lib.hid hPS
      have Hpr:=Lib.hid hpr
      have Hlk:=Lib.hid hlk
      have Hit:=Lib.hid hit
      clear hpar hPS hpr hparse hd hall hlk hit
      by_cases hok:printOk n (L.map plainI)=true
      ·have hE:printE n L= .nilIface:=by rw[printE,if_pos hok]
       have hpr:=Hpr.out
       rw[hE]at hpr
       have Hpr2:=Lib.hid hpr
       have Hok:=Lib.hid hok
       clear hpr Hpr hE hok
       by_cases hsame:PS=s
       ·have hb:(@BEq.beq (List UInt8) (@List.instBEq UInt8 instBEqOfDecidableEq) PS.toList s.toList)=true:=by rw[beqB,decide_eq_true hsame]
        have Hsame:=Lib.hid hsame
        clear hsame
        go_wp2_with fail
        refine Hpr2.out.mono ?_
        rintro e w6 ⟨rfl,K6⟩
        go_wp2_with fail
        go_ret3
        refine⟨?_,(((HK1.out.thenN HK3.out).thenN K).thenN K6)⟩
        have hpp:printT n (L.map plainI)=s.data.toList:=by
         have h1:=HPS.out
         rw[printS,if_pos Hok.out,Hsame.out]at h1
         rw[h1]
        rw[ParseSaid,Hpar.out,if_pos ⟨Hok.out,hpp⟩]
        refine⟨_,L,rfl,rfl,?_⟩
        rw[<-Hlk.out]
        exact⟨⟨Hit.out.rows.keep K6 (λ_ _ x=>x),λx hx=>(Hit.out.nums x hx).keep K6 (λ_ _ x=>x)⟩,λx hx b hb=>by obtain⟨cs,fz,hc⟩:=(hN.out x hx).2.1 b hb;exact⟨cs,fz,K6.heap hc (λx=>x)⟩⟩
       ·have hb:(@BEq.beq (List UInt8) (@List.instBEq UInt8 instBEqOfDecidableEq) PS.toList s.toList)=false:=by rw[beqB,decide_eq_false hsame]
        have hnp:parseT s.data.toList=none:=by
         rw[Hpar.out,if_neg]
         rintro⟨_,h⟩
         have h1:=HPS.out
         rw[printS,if_pos Hok.out,h]at h1
         exact hsame h1
        have Hnp:=Lib.hid hnp
        clear hsame hnp
        go_wp2_with fail
        refine Hpr2.out.mono ?_
        rintro e w6 ⟨rfl,K6⟩
        go_wp2_with fail
        go_ret3
        exact⟨by rw[ParseSaid,Hnp.out];rfl,(((HK1.out.thenN HK3.out).thenN K).thenN K6)⟩
      ·have hE:printE n L= .iface 48 (.int .i64 1):=by rw[printE,if_neg hok];rfl
       have hnp:parseT s.data.toList=none:=by
        rw[Hpar.out,if_neg]
        rintro⟨h,_⟩
        exact hok h
       have Hnp:=Lib.hid hnp
       have hpr:=Hpr.out
       rw[hE]at hpr
       have Hpr2:=Lib.hid hpr
       clear hpr Hpr hE hok hnp
       go_wp2_with fail
       refine Hpr2.out.mono ?_
       rintro e w6 ⟨rfl,K6⟩
       go_wp2_with fail
       go_ret3
       exact⟨by rw[ParseSaid,Hnp.out];rfl,(((HK1.out.thenN HK3.out).thenN K).thenN K6)⟩
end Go.Proofs.YtkjjpcebjcaadaaGreatDoor
