import Derived.Test.YtkjjpcebjcaadaaGreatDoorYAB
import Derived.Test.YtkjjpcebjcaadaaGreatDoorYAV
import Derived.Test.YtkjjpcebjcaadaaGreatDoorYAX
import Derived.Test.YtkjjpcebjcaadaaGreatDoorYBB
import Derived.Test.YtkjjpcebjcaadaaGreatDoorYBE
import Derived.Shelf.Strings.SlTrimAscii
import Derived.Lib.SplitLaws
import Derived.Lib.AtoiAllCases
import Derived.Lib.AtoiTie
import Derived.Lib.ItoaNum
import Derived.Deep.RegionWith
set_option linter.unusedSimpArgs false
set_option linter.unusedVariables false
namespace Go.Proofs.YtkjjpcebjcaadaaGreatDoor
open Go.RowKit Go.Cof Go.Sort Go.Shelf
set_option maxRecDepth 100000 in
set_option maxHeartbeats 4000000 in
theorem indexItem_any(g:FuncId)(cb:Array Value)(p:ItemV->Bool)(v:Value)(l:List ItemV)(w:World)(S:RowsK w v 3 encItem l)(hl:l.length<=1000000)
  (hp:∀x,x∈l->∀W,Keep NoB w W->Calls Tryz.prog g (#[.agg (encItem x).toArray]++cb) W λe w'=>e= .returned (.bool (p x))∧Keep NoB W w') (eg:∀args w,(callFunc g args).run Tryz.prog w= .ok (.enter g args) w):
  Calls Tryz.prog 166 #[v,.func (.func g) #[] cb] w λe w'=>(∃i:Int,e= .returned (.int .i64 i)∧decide (0<=i)=l.any p)∧Keep NoB w w':=by
 obtain⟨a,c,rfl⟩:=S.len
 obtain⟨n,hn⟩:∃n,n=l.length:=⟨_,rfl⟩
 rw[<-hn]at S hl
 rw[<-hn]
 have Hn:=Lib.hid hn
 have Hp:=Lib.hid hp
 clear hn hp
 go_enter Tryz.func166,Tryz.ntmps166
 go_wp2_with fail
 go_loopw [8] (λi wr=>∃k:Nat,k<=n∧i= .int .i64 k∧(l.take k).any p=false∧Keep NoB w wr) (λi _=>n-(intOf i).toNat)
 case atStart=>exact⟨0,by omega,rfl,rfl,Keep.refl _ _⟩
 case round=>
  obtain⟨k,hk,rfl,hpre,K⟩:=hrel
  by_cases hlt:k<n
  ·have j1:decide (k<n)=true:=by simp;omega
   have Sr:=S.keep K (λ_ _ x=>x)
   obtain⟨b,off,rfl,-,hb,hcell⟩:=Sr.at (by have:=Hn.out;omega)
   obtain⟨x,hx⟩:∃x,l[k]? =some x:=⟨_,List.getElem?_eq_getElem (by have:=Hn.out;omega)⟩
   have hra:=hcell k x hx
   have hks:(l.take (k+1)).any p=p x:=by
    rw[List.take_succ_eq_append_getElem (by have:=Hn.out;omega),List.any_append,hpre,(List.getElem?_eq_some_iff.1 hx).2]
    simp
   have hxm:x∈l:=List.mem_of_getElem? hx
   have hcx:=Hp.out x hxm wr K
   have Hks:=Lib.hid hks
   have Hpre:=Lib.hid hpre
   have hj:(k:Int)<n:=by omega
   obtain⟨nm,tg,av,ns⟩:=x
   have c0:wr.cell? ⟨b,off+k*3,none⟩=some (.string nm):=hra 0 _ rfl
   have c1:wr.cell? ⟨b,off+k*3+1,none⟩=some (.string tg):=hra 1 _ rfl
   have c2:wr.cell? ⟨b,off+k*3+2,none⟩=some av:=hra 2 _ rfl
   have Hcx:=Lib.hid hcx
   have Hxm:=Lib.hid hxm
   clear hcell hra hks hpre hx hcx Sr hxm
   go_wp2_with fail
   refine Hcx.out.mono ?_
   rintro e w' ⟨rfl,K2⟩
   have K3:=K.thenN K2
   cases hps:p ⟨nm,tg,av,ns⟩with
   | true=>
    rw[hps]at Hks
    have Hps:=Lib.hid hps
    clear hps Hcx
    go_wp2_with fail
    go_ret
    refine⟨⟨(k:Int),rfl,?_⟩,K3⟩
    have h2:l.any p=true:=List.any_eq_true.2 ⟨_,Hxm.out,Hps.out⟩
    rw[h2]
    simp
   | false=>
    rw[hps]at Hks
    clear hps Hcx
    go_wp2_with fail
    exact⟨⟨k+1,by omega,by go_num,Hks.out,K3⟩,by simp[intOf];omega⟩
  ·obtain rfl:k=n:=by omega
   have hall:l.any p=false:=by rw[<-hpre,List.take_of_length_le (by rw[<-Hn.out];exact Nat.le_refl _)]
   have j1:decide (k<k)=false:=by simp
   have Hall:=Lib.hid hall
   clear hall hpre
   go_wp2_with fail
   go_ret
   exact⟨⟨-1,rfl,by rw[Hall.out];rfl⟩,K⟩
set_option maxRecDepth 100000 in
theorem containsItem_any(g:FuncId)(cb:Array Value)(p:ItemV->Bool)(v:Value)(l:List ItemV)(w:World)(S:RowsK w v 3 encItem l)(hl:l.length<=1000000)
  (hp:∀x,x∈l->∀W,Keep NoB w W->Calls Tryz.prog g (#[.agg (encItem x).toArray]++cb) W λe w'=>e= .returned (.bool (p x))∧Keep NoB W w') (eg:∀args w,(callFunc g args).run Tryz.prog w= .ok (.enter g args) w):
  Calls Tryz.prog 105 #[v,.func (.func g) #[] cb] w λe w'=>e= .returned (.bool (l.any p))∧Keep NoB w w':=by
 have hi:=indexItem_any g cb p v l w S hl hp eg
 clear hp
 go_enter Tryz.func105,Tryz.ntmps105
 go_wp2_with fail
 refine hi.mono ?_
 rintro e w' ⟨⟨i,rfl,hii⟩,K⟩
 have Hii:=Lib.hid hii
 clear hii hi
 go_wp2_with fail
 go_ret
 refine⟨congrArg (λb=>Ending.returned (.bool b)) ?_,K⟩
 rw[<-Hii.out]
def wideB(x:ItemV):Bool:=decide (40<x.name.size)||decide (40<x.tag.size)||decide (12<x.ns.length)
theorem held1_any(x:ItemV)(w:World)(hx:∃p c,x.av= .slice p x.ns.length c):Calls Tryz.prog 106 #[.agg (encItem x).toArray] w λe w'=>e= .returned (.bool (wideB x))∧Keep NoB w w':=by
 obtain⟨nm,tg,av,ns⟩:=x
 simp only at hx
 obtain⟨p,c,rfl⟩:=hx
 simp only[encItem,wideB]
 by_cases h1:(40:Int)<nm.size
 ·have e1:decide (40<nm.size)=true:=by simp;omega
  rw[e1]
  clear e1
  go_enter Tryz.func106,Tryz.ntmps106
  go_wp2_with fail
  go_ret
  exact⟨rfl,(Keep.refl _ _).alloc _⟩
 ·have e1:decide (40<nm.size)=false:=by simp;omega
  have d1:decide ((40:Int)<nm.size)=false:=by simpa using h1
  rw[e1]
  clear e1 h1
  by_cases h2:(40:Int)<tg.size
  ·have e1:decide (40<tg.size)=true:=by simp;omega
   rw[e1]
   clear e1
   go_enter Tryz.func106,Tryz.ntmps106
   go_wp2_with fail
   go_ret
   exact⟨rfl,(Keep.refl _ _).alloc _⟩
  ·have e1:decide (40<tg.size)=false:=by simp;omega
   have d2:decide ((40:Int)<tg.size)=false:=by simpa using h2
   rw[e1]
   clear e1 h2
   go_enter Tryz.func106,Tryz.ntmps106
   go_wp2_with fail
   go_ret
   exact⟨by simp;omega,(Keep.refl _ _).alloc _⟩
def heldB(l:List ItemV):Bool:=decide (l.length<=65)&& !l.any wideB
theorem held_any(v:Value)(l:List ItemV)(w:World)(I:Items w v l)(hl:l.length<=maxLen):Calls Tryz.prog 48 #[v] w λe w'=>e= .returned (.bool (heldB l))∧Keep NoB w w':=by
 obtain⟨p,c,rfl⟩:=I.rows.len
 unfold maxLen at hl
 by_cases h:l.length<=65
 ·have hb:heldB l= !l.any wideB:=by rw[heldB,decide_eq_true h,Bool.true_and]
  rw[hb]
  have hc:=containsItem_any 106 #[] wideB _ l w I.rows (by omega) (λx hx W K=>held1_any x W ((I.nums x hx).len)) (enters_of Tryz.func106 (by kernel_rfl) rfl)
  have d1:((l.length:Nat):Int)<=65:=by omega
  generalize l.any wideB=b at hc⊢
  clear hb h
  go_enter Tryz.func48,Tryz.ntmps48
  go_wp2_with fail
  refine hc.mono ?_
  rintro e w' ⟨rfl,K⟩
  go_wp2_with fail
  go_ret
  exact⟨rfl,K⟩
 ·have hb:heldB l=false:=by rw[heldB,decide_eq_false h,Bool.false_and]
  rw[hb]
  have d1:¬((l.length:Nat):Int)<=65:=by omega
  clear hb h
  go_enter Tryz.func48,Tryz.ntmps48
  go_wp2_with fail
  go_ret
  exact⟨rfl,Keep.refl _ _⟩
def lettersT:ByteArray:=⟨#[97,98,99,100,101,102,103,104,105,106,107,108,109,110,111,112,113,114,115,116,117,118,119,120,121,122]⟩
def alnumT:ByteArray:=⟨#[97,98,99,100,101,102,103,104,105,106,107,108,109,110,111,112,113,114,115,116,117,118,119,120,121,122,48,49,50,51,52,53,54,55,56,57]⟩
def nameB(s:ByteArray):Bool:=decide (s≠⟨#[]⟩)&&decide (s.size<=10)&&decide (0<=Lib.indexByte lettersT.data.toList (s.data.toList.headD 0))&&decide (Lib.trimS s.data.toList alnumT.data.toList= [])
set_option maxRecDepth 100000 in
set_option maxHeartbeats 4000000 in
theorem name_any(s:ByteArray)(w:World):Calls Tryz.prog 150 #[.string s] w λe w'=>e= .returned (.bool (nameB s))∧Keep NoB w w':=by
 by_cases h0:s=⟨#[]⟩
 ·subst h0
  go_enter Tryz.func150,Tryz.ntmps150
  go_wp2_with fail
  go_ret
  exact⟨rfl,Keep.refl _ _⟩
 have hs0:0<s.size:=by
  rcases Nat.eq_zero_or_pos s.size with h|h
  ·exact absurd (bs_inj (List.eq_nil_of_length_eq_zero ((bs_len s).trans h))) h0
  ·exact h
 have i1:(0:Int)<s.size:=by omega
 have h0':s.toList.isEmpty=false:=by
  cases h:s.toList with
  | nil=>exact absurd (toList_inj (by rw[h,ByteArray.toList_eq])) h0
  | cons a l=>rfl
 have hn:nameB s=(decide (s.size<=10)&&decide (0<=Lib.indexByte lettersT.data.toList (s.data.toList.headD 0))&&decide (Lib.trimS s.data.toList alnumT.data.toList= [])):=by
  rw[nameB,decide_eq_true h0,Bool.true_and]
 rw[hn]
 clear hn
 by_cases h1:s.size<=10
 ·rw[decide_eq_true h1,Bool.true_and]
  have d1:((s.size:Nat):Int)<=10:=by omega
  have hix:=λw=>Tryz.strings_IndexByte lettersT (s[0].toNat:Int) w
  have e0:((s[0].toNat:Nat):Int).toNat.toUInt8=s.data.toList.headD 0:=by
   rw[Int.toNat_natCast]
   have:s.data.toList.headD 0=s[0]:=by
    have h:=hs0
    obtain⟨⟨d⟩⟩:=s
    cases d with
    | nil=>simp[ByteArray.size]at h
    | cons a l=>rfl
   rw[this]
   exact UInt8.ofNat_toNat
  rw[e0]at hix
  have htr:=λw=>Any.strings_Trim_laid Tryz.lays160 (by kernel_rfl) s alnumT w (by omega) (by decide) (ascii_of_all (by decide))
  change∀w,Calls Tryz.prog 222 _ _ _ at htr
  obtain⟨I,hI⟩:∃I,I=Lib.indexByte lettersT.data.toList (s.data.toList.headD 0):=⟨_,rfl⟩
  obtain⟨T,hT⟩:∃T,T=Lib.trimS s.data.toList alnumT.data.toList:=⟨_,rfl⟩
  rw[<-hI]at hix⊢
  rw[<-hT]at htr⊢
  simp only[lettersT,alnumT]at hix htr
  have Hix:=Lib.hid hix
  have Htr:=Lib.hid htr
  clear h0 h1 e0 hI hT hix htr
  by_cases hI:0<=I
  ·rw[decide_eq_true hI,Bool.true_and]
   have hT2:(⟨T.toArray⟩:ByteArray).toList.isEmpty=decide (T= []):=by
    rw[ByteArray.toList_eq]
    cases T<;>simp
   go_enter Tryz.func150,Tryz.ntmps150
   go_wp2_with fail
   refine(Hix.out _).mono ?_
   rintro e w' ⟨rfl,hw⟩
   subst w'
   go_wp2_with fail
   refine(Htr.out _).mono ?_
   rintro e w' ⟨rfl,hB⟩
   go_wp2_with fail
   go_ret
   exact⟨by simp[hT2];cases T<;>rfl,Keep.ofBelow hB⟩
  ·rw[decide_eq_false hI,Bool.false_and]
   go_enter Tryz.func150,Tryz.ntmps150
   go_wp2_with fail
   refine(Hix.out _).mono ?_
   rintro e w' ⟨rfl,hw⟩
   subst w'
   go_wp2_with fail
   go_ret
   exact⟨rfl,Keep.refl _ _⟩
 ·rw[decide_eq_false h1,Bool.false_and,Bool.false_and]
  have d1:¬((s.size:Nat):Int)<=10:=by omega
  clear h0 h1
  go_enter Tryz.func150,Tryz.ntmps150
  go_wp2_with fail
  go_ret
  exact⟨rfl,Keep.refl _ _⟩
def itemB(x:ItemV)(dim:Int):Bool:=nameB x.name&&(decide (x.tag=⟨#[]⟩)||nameB x.tag)&&decide (1<=dim)&&decide (dim<=8)&&decide ((x.ns.length:Int)=dim)&& !x.ns.any farB
theorem farI_any(n:Int)(w:World):Calls Tryz.prog 149 #[.int .i64 n] w λe w'=>e= .returned (.bool (farB n))∧w'=w:=by
 by_cases h:n< -1000
 ·have hb:farB n=true:=by simp[farB,h]
  rw[hb]
  go_enter Tryz.func149,Tryz.ntmps149
  go_wp2_with fail
  go_ret
  exact⟨rfl,rfl⟩
 ·have hb:farB n=decide (1000<n):=by simp[farB,h]
  rw[hb]
  have hd:decide (n< -1000)=false:=by simpa using h
  clear h hb
  go_enter Tryz.func149,Tryz.ntmps149
  go_wp2_with fail
  go_ret
  exact⟨rfl,rfl⟩
set_option maxRecDepth 100000 in
set_option maxHeartbeats 4000000 in
theorem itemRight_any(x:ItemV)(dim:Int)(w:World)(N:Nums w x.av x.ns)(hl:x.ns.length<=1000000):
  Calls Tryz.prog 81 #[.agg (encItem x).toArray,.int .i64 dim] w λe w'=>e= .returned (.bool (itemB x dim))∧Keep NoB w w':=by
 obtain⟨nm,tg,av,ns⟩:=x
 simp only at N hl
 obtain⟨p,c,rfl⟩:=N.len
 simp only[encItem,itemB]
 have hn1:=λw=>name_any nm w
 have hn2:=λw=>name_any tg w
 have hc:=λ(W:World) (K:Keep NoB w W)=>containsInt_any 149 farB farI_any (enters_of Tryz.func149 (by kernel_rfl) rfl) _ ns W (N.keep K (λ_ _ x=>x)) hl
 obtain⟨B1,hB1⟩:∃b,b=nameB nm:=⟨_,rfl⟩
 obtain⟨B2,hB2⟩:∃b,b=nameB tg:=⟨_,rfl⟩
 obtain⟨B3,hB3⟩:∃b,b=ns.any farB:=⟨_,rfl⟩
 have ht:tg.toList.isEmpty=decide (tg=⟨#[]⟩):=by
  by_cases h:tg=⟨#[]⟩
  ·rw[decide_eq_true h,h,ByteArray.toList_eq];rfl
  ·rw[decide_eq_false h]
   cases h2:tg.toList with
   | nil=>exact absurd (toList_inj (by rw[h2,ByteArray.toList_eq])) h
   | cons a l=>rfl
 obtain⟨B4,hB4⟩:∃b,b=decide (tg=(⟨#[]⟩:ByteArray)):=⟨_,rfl⟩
 rw[<-hB1]at hn1
 rw[<-hB2]at hn2
 rw[<-hB3]at hc
 rw[<-hB4]at ht
 rw[<-hB1,<-hB2,<-hB3,<-hB4]
 obtain⟨nl,hnl⟩:∃n,n=ns.length:=⟨_,rfl⟩
 rw[<-hnl]at hc⊢
 have H1:=Lib.hid hn1
 have H2:=Lib.hid hn2
 have HC:=Lib.hid hc
 have HT:=Lib.hid ht
 clear hn1 hn2 hc ht hB1 hB2 hB3 hB4 hnl N
 have hT:=HT.out
 cases B1 with
 | false=>
  simp only[Bool.false_and]
  clear hT
  go_enter Tryz.func81,Tryz.ntmps81
  go_wp2_with fail
  refine(H1.out _).mono ?_
  rintro e w1 ⟨rfl,K1⟩
  go_wp2_with fail
  go_ret
  exact⟨rfl,((Keep.refl NoB w).alloc _).thenN K1⟩
 | true=>
  have h4:(1<=dim∧dim<=8∧(nl:Int)=dim)∨(¬1<=dim)∨(1<=dim∧¬dim<=8)∨(1<=dim∧dim<=8∧¬(nl:Int)=dim):=by omega
  rcases h4 with⟨d1,d2,d3⟩|d1|⟨d1,d2⟩|⟨d1,d2,d3⟩
  ·have er:(true&&(B4||B2)&&decide (1<=dim)&&decide (dim<=8)&&decide ((nl:Int)=dim)&& !B3)=((B4||B2)&& !B3):=by
    rw[decide_eq_true d1,decide_eq_true d2,decide_eq_true d3];simp
   have e3:((nl:Int)==dim)=true:=by simpa using d3
   rw[er]
   clear er d3
   cases B4 with
   | true=>
    go_enter Tryz.func81,Tryz.ntmps81
    go_wp2_with fail
    refine(H1.out _).mono ?_
    rintro e w1 ⟨rfl,K1⟩
    have K1':=((Keep.refl NoB w).alloc (.cells #[.string nm,.string tg,.slice p nl c] 45)).thenN K1
    have c1:w1.cell? ⟨w.heap.size,1,none⟩=some (.string tg):=(K1.cell (p:=⟨w.heap.size,1,none⟩) (by simp) (λx=>x)).trans (by rw[cell_of_row _ _ _ _ 45 (0,0) (heap_alloc_new w _)];rfl)
    have c2:w1.cell? ⟨w.heap.size,2,none⟩=some (.slice p nl c):=(K1.cell (p:=⟨w.heap.size,2,none⟩) (by simp) (λx=>x)).trans (by rw[cell_of_row _ _ _ _ 45 (0,0) (heap_alloc_new w _)];rfl)
    have hX1:w.heap.size<w1.heap.size:=by have:=K1.size;simp at this;omega
    go_wp2_with fail
    refine(HC.out _ K1').mono ?_
    rintro e w5 ⟨rfl,hw⟩
    subst w5
    go_wp2_with fail
    go_ret
    exact⟨rfl,K1'⟩
   | false=>
    go_enter Tryz.func81,Tryz.ntmps81
    go_wp2_with fail
    refine(H1.out _).mono ?_
    rintro e w1 ⟨rfl,K1⟩
    have K1':=((Keep.refl NoB w).alloc (.cells #[.string nm,.string tg,.slice p nl c] 45)).thenN K1
    have c1:w1.cell? ⟨w.heap.size,1,none⟩=some (.string tg):=(K1.cell (p:=⟨w.heap.size,1,none⟩) (by simp) (λx=>x)).trans (by rw[cell_of_row _ _ _ _ 45 (0,0) (heap_alloc_new w _)];rfl)
    have c2:w1.cell? ⟨w.heap.size,2,none⟩=some (.slice p nl c):=(K1.cell (p:=⟨w.heap.size,2,none⟩) (by simp) (λx=>x)).trans (by rw[cell_of_row _ _ _ _ 45 (0,0) (heap_alloc_new w _)];rfl)
    have hX1:w.heap.size<w1.heap.size:=by have:=K1.size;simp at this;omega
    go_wp2_with fail
    refine(H2.out _).mono ?_
    rintro e w2 ⟨rfl,K2⟩
    have K2':=K1'.thenN K2
    have c3:w2.cell? ⟨w.heap.size,2,none⟩=some (.slice p nl c):=(K2.cell (p:=⟨w.heap.size,2,none⟩) hX1 (λx=>x)).trans c2
    cases B2 with
    | false=>
     go_wp2_with fail
     go_ret
     exact⟨rfl,K2'⟩
    | true=>
     go_wp2_with fail
     refine(HC.out _ K2').mono ?_
     rintro e w5 ⟨rfl,hw⟩
     subst w5
     go_wp2_with fail
     go_ret
     exact⟨rfl,K2'⟩
  ·have er:(true&&(B4||B2)&&decide (1<=dim)&&decide (dim<=8)&&decide ((nl:Int)=dim)&& !B3)=false:=by
    rw[decide_eq_false d1];simp
   rw[er]
   clear er
   cases B4 with
   | true=>
    go_enter Tryz.func81,Tryz.ntmps81
    go_wp2_with fail
    refine(H1.out _).mono ?_
    rintro e w1 ⟨rfl,K1⟩
    have K1':=((Keep.refl NoB w).alloc (.cells #[.string nm,.string tg,.slice p nl c] 45)).thenN K1
    have c1:w1.cell? ⟨w.heap.size,1,none⟩=some (.string tg):=(K1.cell (p:=⟨w.heap.size,1,none⟩) (by simp) (λx=>x)).trans (by rw[cell_of_row _ _ _ _ 45 (0,0) (heap_alloc_new w _)];rfl)
    have c2:w1.cell? ⟨w.heap.size,2,none⟩=some (.slice p nl c):=(K1.cell (p:=⟨w.heap.size,2,none⟩) (by simp) (λx=>x)).trans (by rw[cell_of_row _ _ _ _ 45 (0,0) (heap_alloc_new w _)];rfl)
    have hX1:w.heap.size<w1.heap.size:=by have:=K1.size;simp at this;omega
    go_wp2_with fail
    go_ret
    exact⟨rfl,K1'⟩
   | false=>
    go_enter Tryz.func81,Tryz.ntmps81
    go_wp2_with fail
    refine(H1.out _).mono ?_
    rintro e w1 ⟨rfl,K1⟩
    have K1':=((Keep.refl NoB w).alloc (.cells #[.string nm,.string tg,.slice p nl c] 45)).thenN K1
    have c1:w1.cell? ⟨w.heap.size,1,none⟩=some (.string tg):=(K1.cell (p:=⟨w.heap.size,1,none⟩) (by simp) (λx=>x)).trans (by rw[cell_of_row _ _ _ _ 45 (0,0) (heap_alloc_new w _)];rfl)
    have c2:w1.cell? ⟨w.heap.size,2,none⟩=some (.slice p nl c):=(K1.cell (p:=⟨w.heap.size,2,none⟩) (by simp) (λx=>x)).trans (by rw[cell_of_row _ _ _ _ 45 (0,0) (heap_alloc_new w _)];rfl)
    have hX1:w.heap.size<w1.heap.size:=by have:=K1.size;simp at this;omega
    go_wp2_with fail
    refine(H2.out _).mono ?_
    rintro e w2 ⟨rfl,K2⟩
    have K2':=K1'.thenN K2
    have c3:w2.cell? ⟨w.heap.size,2,none⟩=some (.slice p nl c):=(K2.cell (p:=⟨w.heap.size,2,none⟩) hX1 (λx=>x)).trans c2
    cases B2 with
    | false=>
     go_wp2_with fail
     go_ret
     exact⟨rfl,K2'⟩
    | true=>
     go_wp2_with fail
     go_ret
     exact⟨rfl,K2'⟩
  ·have er:(true&&(B4||B2)&&decide (1<=dim)&&decide (dim<=8)&&decide ((nl:Int)=dim)&& !B3)=false:=by
    rw[decide_eq_false d2];simp
   rw[er]
   clear er
   cases B4 with
   | true=>
    go_enter Tryz.func81,Tryz.ntmps81
    go_wp2_with fail
    refine(H1.out _).mono ?_
    rintro e w1 ⟨rfl,K1⟩
    have K1':=((Keep.refl NoB w).alloc (.cells #[.string nm,.string tg,.slice p nl c] 45)).thenN K1
    have c1:w1.cell? ⟨w.heap.size,1,none⟩=some (.string tg):=(K1.cell (p:=⟨w.heap.size,1,none⟩) (by simp) (λx=>x)).trans (by rw[cell_of_row _ _ _ _ 45 (0,0) (heap_alloc_new w _)];rfl)
    have c2:w1.cell? ⟨w.heap.size,2,none⟩=some (.slice p nl c):=(K1.cell (p:=⟨w.heap.size,2,none⟩) (by simp) (λx=>x)).trans (by rw[cell_of_row _ _ _ _ 45 (0,0) (heap_alloc_new w _)];rfl)
    have hX1:w.heap.size<w1.heap.size:=by have:=K1.size;simp at this;omega
    go_wp2_with fail
    go_ret
    exact⟨rfl,K1'⟩
   | false=>
    go_enter Tryz.func81,Tryz.ntmps81
    go_wp2_with fail
    refine(H1.out _).mono ?_
    rintro e w1 ⟨rfl,K1⟩
    have K1':=((Keep.refl NoB w).alloc (.cells #[.string nm,.string tg,.slice p nl c] 45)).thenN K1
    have c1:w1.cell? ⟨w.heap.size,1,none⟩=some (.string tg):=(K1.cell (p:=⟨w.heap.size,1,none⟩) (by simp) (λx=>x)).trans (by rw[cell_of_row _ _ _ _ 45 (0,0) (heap_alloc_new w _)];rfl)
    have c2:w1.cell? ⟨w.heap.size,2,none⟩=some (.slice p nl c):=(K1.cell (p:=⟨w.heap.size,2,none⟩) (by simp) (λx=>x)).trans (by rw[cell_of_row _ _ _ _ 45 (0,0) (heap_alloc_new w _)];rfl)
    have hX1:w.heap.size<w1.heap.size:=by have:=K1.size;simp at this;omega
    go_wp2_with fail
    refine(H2.out _).mono ?_
    rintro e w2 ⟨rfl,K2⟩
    have K2':=K1'.thenN K2
    have c3:w2.cell? ⟨w.heap.size,2,none⟩=some (.slice p nl c):=(K2.cell (p:=⟨w.heap.size,2,none⟩) hX1 (λx=>x)).trans c2
    cases B2 with
    | false=>
     go_wp2_with fail
     go_ret
     exact⟨rfl,K2'⟩
    | true=>
     go_wp2_with fail
     go_ret
     exact⟨rfl,K2'⟩
  ·have er:(true&&(B4||B2)&&decide (1<=dim)&&decide (dim<=8)&&decide ((nl:Int)=dim)&& !B3)=false:=by
    rw[decide_eq_false d3];simp
   have e3:((nl:Int)==dim)=false:=by simpa using d3
   rw[er]
   clear er d3
   cases B4 with
   | true=>
    go_enter Tryz.func81,Tryz.ntmps81
    go_wp2_with fail
    refine(H1.out _).mono ?_
    rintro e w1 ⟨rfl,K1⟩
    have K1':=((Keep.refl NoB w).alloc (.cells #[.string nm,.string tg,.slice p nl c] 45)).thenN K1
    have c1:w1.cell? ⟨w.heap.size,1,none⟩=some (.string tg):=(K1.cell (p:=⟨w.heap.size,1,none⟩) (by simp) (λx=>x)).trans (by rw[cell_of_row _ _ _ _ 45 (0,0) (heap_alloc_new w _)];rfl)
    have c2:w1.cell? ⟨w.heap.size,2,none⟩=some (.slice p nl c):=(K1.cell (p:=⟨w.heap.size,2,none⟩) (by simp) (λx=>x)).trans (by rw[cell_of_row _ _ _ _ 45 (0,0) (heap_alloc_new w _)];rfl)
    have hX1:w.heap.size<w1.heap.size:=by have:=K1.size;simp at this;omega
    go_wp2_with fail
    go_ret
    exact⟨rfl,K1'⟩
   | false=>
    go_enter Tryz.func81,Tryz.ntmps81
    go_wp2_with fail
    refine(H1.out _).mono ?_
    rintro e w1 ⟨rfl,K1⟩
    have K1':=((Keep.refl NoB w).alloc (.cells #[.string nm,.string tg,.slice p nl c] 45)).thenN K1
    have c1:w1.cell? ⟨w.heap.size,1,none⟩=some (.string tg):=(K1.cell (p:=⟨w.heap.size,1,none⟩) (by simp) (λx=>x)).trans (by rw[cell_of_row _ _ _ _ 45 (0,0) (heap_alloc_new w _)];rfl)
    have c2:w1.cell? ⟨w.heap.size,2,none⟩=some (.slice p nl c):=(K1.cell (p:=⟨w.heap.size,2,none⟩) (by simp) (λx=>x)).trans (by rw[cell_of_row _ _ _ _ 45 (0,0) (heap_alloc_new w _)];rfl)
    have hX1:w.heap.size<w1.heap.size:=by have:=K1.size;simp at this;omega
    go_wp2_with fail
    refine(H2.out _).mono ?_
    rintro e w2 ⟨rfl,K2⟩
    have K2':=K1'.thenN K2
    have c3:w2.cell? ⟨w.heap.size,2,none⟩=some (.slice p nl c):=(K2.cell (p:=⟨w.heap.size,2,none⟩) hX1 (λx=>x)).trans c2
    cases B2 with
    | false=>
     go_wp2_with fail
     go_ret
     exact⟨rfl,K2'⟩
    | true=>
     go_wp2_with fail
     go_ret
     exact⟨rfl,K2'⟩
end Go.Proofs.YtkjjpcebjcaadaaGreatDoor
namespace Go.Cof
open Go.Lib Go.Proofs.YtkjjpcebjcaadaaGreatDoor
def pieces(c:UInt8):List UInt8->List (List UInt8)
 | []=> [[]]
 | b::l=>if b=c then []::pieces c l else match pieces c l with
  | []=> [[b]]
  | p::r=>(b::p)::r
theorem pieces_ne(c:UInt8):∀l,pieces c l≠ []
 | []=>by simp[pieces]
 | b::l=>by
  rw[pieces]
  split
  ·simp
  ·split<;>simp
theorem splitK_pieces(c:UInt8):∀l:List UInt8,splitK [c] 0 (count l [c]) l=pieces c l
 | []=>by rw[count_one];rfl
 | b::l=>by
  have ih:=splitK_pieces c l
  by_cases h:b=c
  ·subst h
   have hix:index (b::l) [b]=0:=by rw[index];simp[List.isPrefixOf]
   rw[count_cons_eq,Nat.add_comm,splitK,hix,pieces,if_pos rfl]
   simpa using ih
  ·have hp:([c]:List UInt8).isPrefixOf (b::l)=false:=by simp[List.isPrefixOf,Ne.symm h]
   have hix:index (b::l) [c]=if index l [c]== -1 then-1 else index l [c]+1:=by rw[index,hp];simp
   rw[count_cons_ne b c l h,pieces,if_neg h]
   cases hk:count l [c]with
   | zero=>
    rw[hk,splitK]at ih
    rw[splitK,<-ih]
   | succ k=>
    have hm:index l [c]≠-1:=λe=>by rw[count_miss e]at hk;cases hk
    have hge:=index_ge l [c]
    obtain⟨j,hj⟩:∃j:Nat,index l [c]=j:=⟨(index l [c]).toNat,by omega⟩
    have hix':index (b::l) [c]=((j+1:Nat):Int):=by rw[hix,if_neg (λe=>hm (beq_iff_eq.1 e)),hj];omega
    rw[hk,splitK,hj,if_neg (by simp)]at ih
    rw[splitK,hix',if_neg (by simp;omega),<-ih]
    have e1:((j+1:Nat):Int).toNat+0=j+1:=by omega
    have e2:((j:Nat):Int).toNat+0=j:=by omega
    have e3:((j+1:Nat):Int).toNat+ [c].length=j+1+1:=rfl
    have e4:((j:Nat):Int).toNat+ [c].length=j+1:=rfl
    rw[e1,e2,e3,e4]
    rfl
theorem splitB_pieces(c:UInt8)(s:ByteArray):(splitB ⟨#[c]⟩ 0 (countB s ⟨#[c]⟩) s).map (·.data.toList)=pieces c s.data.toList:=by
 rw[splitB_data]
 exact splitK_pieces c s.data.toList
theorem pieces_len(c:UInt8)(l:List UInt8):(pieces c l).length=l.count c+1:=by
 induction l with
 | nil=>rfl
 | cons b l ih=>
  rw[pieces]
  by_cases h:b=c
  ·rw[if_pos h,List.length_cons,ih,h,List.count_cons_self]
  ·rw[if_neg h,List.count_cons_of_ne (by simpa using h),<-ih]
   have:=pieces_ne c l
   split
   ·rename_i e;exact absurd e this
   ·rename_i e;rw[e];rfl
theorem pieces_self(c:UInt8):∀l:List UInt8,c∉l->pieces c l= [l]
 | [],_=>rfl
 | b::l,h=>by
  rw[pieces,if_neg (λe=>h (by rw[e];exact List.mem_cons_self)),pieces_self c l (λe=>h (List.mem_cons_of_mem _ e))]
theorem pieces_cut(c:UInt8)(r:List UInt8):∀p:List UInt8,c∉p->pieces c (p++c::r)=p::pieces c r
 | [],_=>by rw[List.nil_append,pieces,if_pos rfl]
 | b::p,h=>by
  rw[List.cons_append,pieces,if_neg (λe=>h (by rw[e];exact List.mem_cons_self)),pieces_cut c r p (λe=>h (List.mem_cons_of_mem _ e))]
theorem pieces_rows(c:UInt8):∀(ls:List (List UInt8)) (r:List UInt8),(∀p∈ls,c∉p)->pieces c (ls.flatMap (λp=>p++ [c])++r)=ls++pieces c r
 | [],r,_=>rfl
 | p::ls,r,h=>by
  rw[List.flatMap_cons,List.append_assoc,List.append_assoc,List.singleton_append,pieces_cut c _ p (h p List.mem_cons_self),pieces_rows c ls r (λq hq=>h q (List.mem_cons_of_mem _ hq))]
  rfl
theorem pieces_behind(c:UInt8):∀(ls:List (List UInt8)) (p:List UInt8),c∉p->(∀q∈ls,c∉q)->pieces c (p++ls.flatMap (λq=>c::q))=p::ls
 | [],p,hp,_=>by rw[List.flatMap_nil,List.append_nil,pieces_self c p hp]
 | q::ls,p,hp,h=>by
  rw[List.flatMap_cons,List.cons_append,pieces_cut c _ p hp,pieces_behind c ls q (h q List.mem_cons_self) (λx hx=>h x (List.mem_cons_of_mem _ hx))]
def numT(s:List UInt8):Option Int:=match atoiAll s with
 | .ok v=>if itoa v=s then some v else none
 | _=>none
theorem decFrom_app:∀(l r:List UInt8) (a:Nat),decFrom a (l++r)=(decFrom a l).bind λm=>decFrom m r
 | [],r,a=>rfl
 | b::l,r,a=>by
  rw[List.cons_append,decFrom,decFrom]
  cases digitVal b with
  | none=>rfl
  | some d=>exact decFrom_app l r _
theorem digitVal_of(d:Nat)(h:d<10):digitVal (UInt8.ofNat (48+d))=some d:=by
 have e:(UInt8.ofNat (48+d)).toNat=48+d:=by rw[UInt8.toNat_ofNat'];omega
 rw[digitVal,e,if_pos (by omega)]
 congr 1
 omega
theorem decFrom_digits:∀(u:Nat),decFrom 0 (decDigits u)=some u:=by
 intro u
 induction u using Nat.strongRecOn with
 | ind u ih=>
  rw[decDigits]
  split
  ·rename_i h
   rw[decFrom,digitVal_of u h]
   show some (0*10+u)=some u
   rw[Nat.zero_mul,Nat.zero_add]
  ·rename_i h
   rw[decFrom_app,ih (u/10) (by omega)]
   show decFrom (u/10) _=_
   rw[decFrom,digitVal_of (u % 10) (by omega)]
   show some (u/10*10+u % 10)=some u
   congr 1
   omega
theorem digits_mem:∀(u:Nat),∀c∈decDigits u,48<=c.toNat∧c.toNat<=57:=by
 intro u
 induction u using Nat.strongRecOn with
 | ind u ih=>
  intro c hc
  have one:∀d,d<10->c=UInt8.ofNat (48+d)->48<=c.toNat∧c.toNat<=57:=by
   rintro d hd rfl
   rw[UInt8.toNat_ofNat'];omega
  rw[decDigits]at hc
  split at hc
  ·rename_i h
   exact one u h (List.mem_singleton.1 hc)
  ·rename_i h
   rcases List.mem_append.1 hc with hc|hc
   ·exact ih (u/10) (by omega) c hc
   ·exact one _ (by omega) (List.mem_singleton.1 hc)
theorem digits_ne(u:Nat):decDigits u≠ []:=by
 rw[decDigits]
 split<;>simp
theorem digits_len(u:Nat)(h:u<10000):(decDigits u).length<=4:=by
 have h1:∀u,u<10->(decDigits u).length=1:=λu h=>by rw[decDigits,dif_pos h];rfl
 have h2:∀u,u<100->(decDigits u).length<=2:=λu h=>by
  by_cases h0:u<10
  ·have:=h1 u h0;omega
  ·rw[decDigits,dif_neg h0,List.length_append,h1 _ (by omega)];simp
 have h3:∀u,u<1000->(decDigits u).length<=3:=λu h=>by
  by_cases h0:u<10
  ·have:=h1 u h0;omega
  ·have:=h2 (u/10) (by omega)
   rw[decDigits,dif_neg h0,List.length_append];simp;omega
 by_cases h0:u<10
 ·have:=h1 u h0;omega
 ·have:=h3 (u/10) (by omega)
  rw[decDigits,dif_neg h0,List.length_append];simp;omega
theorem itoa_mem(n:Int):∀c∈itoa n,(48<=c.toNat∧c.toNat<=57)∨c.toNat=45:=by
 intro c hc
 unfold itoa at hc
 split at hc
 ·rcases List.mem_cons.1 hc with rfl|hc
  ·exact .inr rfl
  ·exact .inl (digits_mem _ c hc)
 ·exact .inl (digits_mem _ c hc)
theorem itoa_len(n:Int)(h: -10000<n∧n<10000):(itoa n).length<=5:=by
 unfold itoa
 split
 ·have:=digits_len n.natAbs (by omega)
  simp;omega
 ·have:=digits_len n.toNat (by omega)
  omega
theorem atoi_itoa(n:Int)(h: -10000<n∧n<10000):atoiAll (itoa n)= .ok n:=by
 have hl:=itoa_len n h
 have hd:∀u,decNat (decDigits u)=some u:=λu=>by
  have hne:=digits_ne u
  rw[decNat,decFrom_digits]
  cases hx:decDigits u with
  | nil=>exact absurd hx hne
  | cons a l=>rfl
 have key:atoi (itoa n)=some n:=by
  unfold itoa
  by_cases hn:n<0
  ·rw[if_pos hn,atoi,if_pos (by rfl),hd]
   show some (-(n.natAbs:Int))=some n
   congr 1
   omega
  ·rw[if_neg hn]
   have hm:=digits_mem n.toNat
   have hdd:=hd n.toNat
   cases hx:decDigits n.toNat with
   | nil=>exact absurd hx (digits_ne _)
   | cons a l=>
    rw[hx]at hm hdd
    have ha:=hm a List.mem_cons_self
    rw[atoi,if_neg (by intro e;have:=beq_iff_eq.1 e;subst this;exact absurd ha.1 (by decide)),if_neg (by intro e;have:=beq_iff_eq.1 e;subst this;exact absurd ha.1 (by decide)),hdd]
    show some ((n.toNat:Nat):Int)=some n
    congr 1
    omega
 rw[atoiAll_short _ (by omega),key]
 rfl
theorem numT_of(n:Int)(h: -10000<n∧n<10000):numT (itoa n)=some n:=by
 rw[numT,atoi_itoa n h]
 show(if itoa n=itoa n then some n else none)=some n
 rw[if_pos rfl]
abbrev alnumC(c:UInt8):Prop:=(97<=c.toNat∧c.toNat<=122)∨(48<=c.toNat∧c.toNat<=57)
theorem alnum_of{c:UInt8}(h:alnumT.data.toList.contains c=true):alnumC c:=by
 have key:∀i:Fin 256,alnumT.data.toList.contains (UInt8.ofNat i.val)=true->alnumC (UInt8.ofNat i.val):=by decide+kernel
 have:=key ⟨c.toNat,c.toNat_lt⟩
 rw[UInt8.ofNat_toNat]at this
 exact this h
theorem drop_nil(p:UInt8->Bool):∀l:List UInt8,l.dropWhile p= []->∀c∈l,p c=true
 | [],_,c,hc=>by cases hc
 | b::l,h,c,hc=>by
  rw[List.dropWhile_cons]at h
  split at h
  ·rename_i hb
   rcases List.mem_cons.1 hc with rfl|hc
   ·exact hb
   ·exact drop_nil p l h c hc
  ·cases h
theorem drop_head(p:UInt8->Bool):∀l:List UInt8,l.dropWhile p= []∨∃b r,l.dropWhile p=b::r∧p b=false
 | []=> .inl rfl
 | b::l=>by
  rw[List.dropWhile_cons]
  split
  ·exact drop_head p l
  ·rename_i hb;exact .inr ⟨b,l,rfl,by simpa using hb⟩
theorem name_mem{s:ByteArray}(h:nameB s=true):∀c∈s.data.toList,alnumC c:=by
 simp only[nameB,Bool.and_eq_true,decide_eq_true_eq]at h
 have ht:=h.2
 unfold trimS trimLeftS trimRightS at ht
 intro c hc
 rcases drop_head (alnumT.data.toList.contains ·) s.data.toList.reverse with h2|⟨b,r,h2,hb⟩
 ·exact alnum_of (drop_nil _ _ h2 c (List.mem_reverse.2 hc))
 ·have h3:=drop_nil _ _ ht b (List.mem_reverse.2 (by rw[h2];exact List.mem_cons_self))
  rw[hb]at h3
  cases h3
abbrev PItem:=ByteArray×ByteArray×List Int
def plainI(x:ItemV):PItem:=(x.name,x.tag,x.ns)
def pitemB(x:PItem)(dim:Int):Bool:=nameB x.1&&(decide (x.2.1=⟨#[]⟩)||nameB x.2.1)&&decide (1<=dim)&&decide (dim<=8)&&decide ((x.2.2.length:Int)=dim)&& !x.2.2.any farB
theorem pitemB_of(x:ItemV)(dim:Int):pitemB (plainI x) dim=itemB x dim:=rfl
def bodyT(x:PItem):List UInt8:=x.1.data.toList++(x.2.1.data.toList::x.2.2.map itoa).flatMap (λq=>32::q)
def lineT(x:PItem):List UInt8:=bodyT x++ [10]
def dimT:List UInt8:= [100,105,109,32]
def printT(dim:Int)(l:List PItem):List UInt8:=(dimT++itoa dim++ [10])++l.flatMap lineT
def risesB:List PItem->Bool
 | []=>true
 | x::r=>(match r with
  | []=>true
  | y::_=>decide (x.1.data.toList<y.1.data.toList))&&risesB r
def printOk(dim:Int)(l:List PItem):Bool:=decide (1<=dim)&&decide (dim<=8)&&decide (l.length<=60)&&l.all (pitemB · dim)&&risesB l
def allNums:List (List UInt8)->Option (List Int)
 | []=>some []
 | t::r=>match numT t with
  | none=>none
  | some n=>(allNums r).map (n:: ·)
def oneT(t:List UInt8):Option PItem:=match pieces 32 t with
 | a::b::c::r=>(allNums (c::r)).map λns=>(⟨a.toArray⟩,⟨b.toArray⟩,ns)
 | _=>none
def allOnes:List (List UInt8)->Option (List PItem)
 | []=>some []
 | t::r=>match oneT t with
  | none=>none
  | some x=>(allOnes r).map (x:: ·)
def linesOf(s:List UInt8):List (List UInt8):=(pieces 10 s).tail.dropLast
def headOf(s:List UInt8):List UInt8:=(pieces 10 s).headD []
def parseT(s:List UInt8):Option (Int×List PItem):=
 if hasPrefix (headOf s) dimT then
  match numT (trimPrefix (headOf s) dimT)with
  | none=>none
  | some dim=>match allOnes (linesOf s)with
   | none=>none
   | some l=>if printOk dim l=true∧printT dim l=s then some (dim,l)else none
 else none
theorem parseT_back{s:List UInt8}{dim:Int}{l:List PItem}(h:parseT s=some (dim,l)):printOk dim l=true∧printT dim l=s:=by
 unfold parseT at h
 split at h
 ·split at h
  ·cases h
  ·split at h
   ·cases h
   ·split at h
    ·rename_i e
     simp only[Option.some.injEq,Prod.mk.injEq]at h
     rw[h.1,h.2]at e
     exact e
    ·cases h
 ·cases h
theorem allNums_of:∀ns:List Int,(∀n∈ns,-10000<n∧n<10000)->allNums (ns.map itoa)=some ns
 | [],_=>rfl
 | n::ns,h=>by
  rw[List.map_cons,allNums,numT_of n (h n List.mem_cons_self),allNums_of ns (λm hm=>h m (List.mem_cons_of_mem _ hm))]
  rfl
theorem far_bound{ns:List Int}(h:ns.any farB=false):∀n∈ns,-10000<n∧n<10000:=by
 intro n hn
 rw[List.any_eq_false]at h
 have:=h n hn
 simp only[farB,Bool.or_eq_true,decide_eq_true_eq,not_or]at this
 omega
structure ItemOk(x:PItem):Prop where
 name:∀c∈x.1.data.toList,alnumC c
 tag:∀c∈x.2.1.data.toList,alnumC c
 ns:∀n∈x.2.2,-10000<n∧n<10000
 some:x.2.2≠ []
theorem itemOk_of{x:PItem}{dim:Int}(h:pitemB x dim=true):ItemOk x:=by
 simp only[pitemB,Bool.and_eq_true,Bool.or_eq_true,decide_eq_true_eq,Bool.not_eq_true']at h
 obtain⟨⟨⟨⟨⟨h1,h2⟩,h3⟩,h4⟩,h5⟩,h6⟩:=h
 refine⟨name_mem h1,?_,far_bound h6,λe=>by rw[e]at h5;simp at h5;omega⟩
 rcases h2 with h2|h2
 ·rw[h2];intro c hc;cases hc
 ·exact name_mem h2
theorem itoa_no{c:UInt8}(n:Int)(hc:c.toNat=10∨c.toNat=32):c∉itoa n:=by
 intro h
 have:=itoa_mem n c h
 omega
theorem alnum_no{c:UInt8}{l:List UInt8}(h:∀c∈l,alnumC c)(hc:c.toNat=10∨c.toNat=32):c∉l:=by
 intro hm
 have:=h c hm
 unfold alnumC at this
 omega
theorem body_pieces{x:PItem}(h:ItemOk x):pieces 32 (bodyT x)=x.1.data.toList::x.2.1.data.toList::x.2.2.map itoa:=by
 rw[bodyT,pieces_behind 32 _ _ (alnum_no h.name (.inr rfl))]
 intro q hq
 rcases List.mem_cons.1 hq with rfl|hq
 ·exact alnum_no h.tag (.inr rfl)
 ·obtain⟨n,_,rfl⟩:=List.mem_map.1 hq
  exact itoa_no n (.inr rfl)
theorem body_no{x:PItem}(h:ItemOk x):(10:UInt8)∉bodyT x:=by
 rw[bodyT,List.mem_append,not_or]
 refine⟨alnum_no h.name (.inl rfl),λhm=> ?_⟩
 obtain⟨q,hq,hm⟩:=List.mem_flatMap.1 hm
 rcases List.mem_cons.1 hm with e|hm
 ·exact absurd e (by decide)
 rcases List.mem_cons.1 hq with rfl|hq
 ·exact alnum_no h.tag (.inl rfl) hm
 ·obtain⟨n,_,rfl⟩:=List.mem_map.1 hq
  exact itoa_no n (.inl rfl) hm
theorem one_body{x:PItem}(h:ItemOk x):oneT (bodyT x)=some x:=by
 rw[oneT,body_pieces h]
 cases hns:x.2.2 with
 | nil=>exact absurd hns h.some
 | cons n ns=>
  rw[List.map_cons]
  show Option.map _ (allNums ((n::ns).map itoa))=_
  rw[<-hns,allNums_of x.2.2 h.ns]
  rfl
theorem ones_bodies:∀l:List PItem,(∀x∈l,ItemOk x)->allOnes (l.map bodyT)=some l
 | [],_=>rfl
 | x::l,h=>by
  rw[List.map_cons,allOnes,one_body (h x List.mem_cons_self),ones_bodies l (λy hy=>h y (List.mem_cons_of_mem _ hy))]
  rfl
theorem dim_no(dim:Int):(10:UInt8)∉dimT++itoa dim:=by
 rw[List.mem_append,not_or]
 exact⟨by decide,itoa_no dim (.inl rfl)⟩
theorem print_pieces{dim:Int}{l:List PItem}(h:∀x∈l,ItemOk x):pieces 10 (printT dim l)=(dimT++itoa dim)::(l.map bodyT++ [[]]):=by
 have e:printT dim l=(((dimT++itoa dim)::l.map bodyT).flatMap λp=>p++ [10])++ []:=by
  rw[List.append_nil,List.flatMap_cons,List.flatMap_map]
  rfl
 rw[e,pieces_rows 10 _ _ ?_]
 ·rfl
 ·intro p hp
  rcases List.mem_cons.1 hp with rfl|hp
  ·exact dim_no dim
  ·obtain⟨x,hx,rfl⟩:=List.mem_map.1 hp
   exact body_no (h x hx)
theorem parse_print{dim:Int}{l:List PItem}(h:printOk dim l=true):parseT (printT dim l)=some (dim,l):=by
 have h0:=h
 simp only[printOk,Bool.and_eq_true,decide_eq_true_eq]at h
 obtain⟨⟨⟨⟨h1,h2⟩,h3⟩,h4⟩,h5⟩:=h
 have hok:∀x∈l,ItemOk x:=λx hx=>itemOk_of (List.all_eq_true.1 h4 x hx)
 have hh:headOf (printT dim l)=dimT++itoa dim:=by rw[headOf,print_pieces hok];rfl
 have hl:linesOf (printT dim l)=l.map bodyT:=by
  rw[linesOf,print_pieces hok,List.tail_cons,List.dropLast_append_of_ne_nil (by simp)]
  simp
 have hp:hasPrefix (dimT++itoa dim) dimT=true:=by
  simp[hasPrefix,dimT]
 have ht:trimPrefix (dimT++itoa dim) dimT=itoa dim:=by
  unfold trimPrefix
  rw[hp]
  simp[dimT]
 rw[parseT,hh,hp,if_pos rfl,ht,numT_of dim (by omega)]
 simp only[hl,ones_bodies l hok]
 exact if_pos ⟨h0,trivial⟩
theorem risesB_take:∀(l:List PItem) (k:Nat),risesB l=true->risesB (l.take k)=true
 | [],k,_=>by rw[List.take_nil];rfl
 | x::r,0,_=>rfl
 | [x],k+1,h=>by rw[List.take_succ_cons,List.take_nil];rfl
 | x::y::r,k+1,h=>by
  rw[risesB,Bool.and_eq_true]at h
  have ih:=risesB_take (y::r) k h.2
  cases k with
  | zero=>rfl
  | succ k=>
   rw[List.take_succ_cons]at ih
   rw[List.take_succ_cons,List.take_succ_cons,risesB,Bool.and_eq_true]
   exact⟨h.1,ih⟩
end Go.Cof
namespace Go.Cof
open Go.RowKit Go.Sort Go.Shelf
open Go.Proofs (ltOf)
def numOk(l:List Int):Prop:=∀n∈l,-1000<=n∧n<=1000
theorem numOk_getD{l:List Int}(h:numOk l)(k:Nat): -1000<=l.getD k 0∧l.getD k 0<=1000:=by
 rw[List.getD_eq_getElem?_getD]
 cases e:l[k]? with
 | none=>simp
 | some n=>exact h n (List.mem_of_getElem? e)
def sqd(x y:Int):Int:=(x-y)*(x-y)
theorem sq_bound{d:Int}{B:Nat}(h1: -(B:Int)<=d)(h2:d<=B):0<=d*d∧d*d<=(B:Int)*B:=by
 constructor
 ·rcases Int.le_total 0 d with h|h
  ·exact Int.mul_nonneg h h
  ·have:=Int.mul_nonneg (show 0≤-d by omega) (show 0≤-d by omega)
   rwa [Int.neg_mul_neg]at this
 ·rcases Int.le_total 0 d with h|h
  ·exact Int.mul_le_mul h2 h2 h (by omega)
  ·have:=Int.mul_le_mul (show-d<=B by omega) (show-d<=B by omega) (show 0≤-d by omega) (by omega)
   rwa [Int.neg_mul_neg]at this
theorem farStep_ok(n x y:Int)(hn:0<=n)(hn2:n<=1000000000000)(hx: -1000<=x∧x<=1000)(hy: -1000<=y∧y<=1000):farStep n x y=n+sqd x y∧0<=sqd x y∧sqd x y<=4000000:=by
 have hd:wrap64 (x-y)=x-y:=by unfold wrap64;omega
 have hb:=sq_bound (d:=x-y) (B:=2000) (by omega) (by omega)
 refine⟨?_,hb⟩
 unfold farStep
 rw[hd]
 have hs:wrap64 ((x-y)*(x-y))=(x-y)*(x-y):=by
  obtain⟨q,hq⟩:∃q,q=(x-y)*(x-y):=⟨_,rfl⟩
  rw[<-hq]at hb⊢
  unfold wrap64
  omega
 rw[hs]
 show wrap64 (n+sqd x y)=_
 obtain⟨q,hq⟩:∃q,q=sqd x y:=⟨_,rfl⟩
 have hq2:q=(x-y)*(x-y):=hq
 rw[<-hq2]at hb
 rw[<-hq]
 unfold wrap64
 omega
theorem farK_ok(a b:List Int)(ha:numOk a)(hb:numOk b):∀k,k<=a.length->k<=b.length->k<=100->0<=farK a b k∧farK a b k<=4000000*k
 | 0,_,_,_=>by rw[farK_zero];omega
 | k+1,h1,h2,h3=>by
  have ih:=farK_ok a b ha hb k (by omega) (by omega) (by omega)
  rw[farK_succ a b k (by omega) (by omega)]
  have:=farStep_ok (farK a b k) (a.getD k 0) (b.getD k 0) ih.1 (by omega) (numOk_getD ha k) (numOk_getD hb k)
  rw[this.1]
  omega
theorem farK_next(a b:List Int)(ha:numOk a)(hb:numOk b)(k:Nat)(h1:k<a.length)(h2:k<b.length)(h3:k<100):farK a b (k+1)=farK a b k+sqd (a.getD k 0) (b.getD k 0):=by
 have ih:=farK_ok a b ha hb k (by omega) (by omega) (by omega)
 rw[farK_succ a b k (by omega) (by omega)]
 exact(farStep_ok (farK a b k) (a.getD k 0) (b.getD k 0) ih.1 (by omega) (numOk_getD ha k) (numOk_getD hb k)).1
def downI(n:Int):Int:=(n+1000)/250-4
theorem downI_low(n:Int)(h: -1000<=n):downI n*250<=n∧n<=downI n*250+249:=by unfold downI;omega
theorem downI_in(n:Int)(h: -1000<=n∧n<=1000): -4<=downI n∧downI n<=4:=by unfold downI;omega
def atK(ns:List Int)(k:Nat):List Int:=(ns.take k).map downI++List.replicate (8-k) 0
def cellAt(x:ItemV):List Int:=atK x.ns x.ns.length
theorem atK_len(ns:List Int)(k:Nat)(h:k<=ns.length)(h8:k<=8):(atK ns k).length=8:=by
 rw[atK,List.length_append,List.length_map,List.length_take,List.length_replicate];omega
theorem atK_set(ns:List Int)(k:Nat)(h:k<ns.length)(h8:k<8):(atK ns k).set k (downI (ns.getD k 0))=atK ns (k+1):=by
 have e:(ns.take k).map downI++List.replicate (8-k) 0=(ns.take k).map downI++(0::List.replicate (8-(k+1)) 0):=by
  rw[show 8-k=(8-(k+1))+1 by omega,List.replicate_succ]
 have hl:((ns.take k).map downI).length=k:=by rw[List.length_map,List.length_take];omega
 rw[atK,e,List.set_append_right _ _ (by omega),hl,Nat.sub_self,List.set_cons_zero,atK,List.take_succ_eq_append_getElem h,List.map_append,List.append_assoc,List.getD_eq_getElem?_getD,List.getElem?_eq_getElem h]
 rfl
theorem atK_get(ns:List Int)(k i:Nat)(h:i<k)(hk:k<=ns.length):(atK ns k).getD i 0=downI (ns.getD i 0):=by
 rw[atK,List.getD_eq_getElem?_getD,List.getElem?_append_left (by rw[List.length_map,List.length_take];omega),List.getElem?_map,List.getElem?_take,if_pos h,List.getD_eq_getElem?_getD,List.getElem?_eq_getElem (by omega)]
 rfl
def gapI(low a:Int):Int:=max (max (low-a) (a-(low+250-1))) 0
def leastK(c at_:List Int):Nat->Int
 | 0=>0
 | k+1=>leastK c at_ k+gapI (c.getD k 0*250) (at_.getD k 0)*gapI (c.getD k 0*250) (at_.getD k 0)
theorem gap_le(n a:Int)(h: -1000<=n):gapI (downI n*250) a*gapI (downI n*250) a<=sqd n a:=by
 have hl:=downI_low n h
 obtain⟨g,hg⟩:∃g,g=gapI (downI n*250) a:=⟨_,rfl⟩
 rw[<-hg]
 unfold sqd
 unfold gapI at hg
 have h0:0<=g:=by omega
 rcases Int.le_total n a with h|h
 ·have h2:g<=a-n:=by omega
  have:=Int.mul_le_mul h2 h2 h0 (by omega)
  have e:(n-a)*(n-a)=(a-n)*(a-n):=by
   rw[<-Int.neg_mul_neg]
   congr 1<;>omega
  rwa [e]
 ·have h2:g<=n-a:=by omega
  exact Int.mul_le_mul h2 h2 h0 (by omega)
theorem leastK_le(x:ItemV)(at_:List Int)(hx:numOk x.ns)(ha:numOk at_)(h8:x.ns.length<=8):∀k,k<=x.ns.length->k<=at_.length->leastK (cellAt x) at_ k<=farK x.ns at_ k
 | 0,_,_=>by rw[farK_zero];exact Int.le_refl _
 | k+1,h1,h2=>by
  have ih:=leastK_le x at_ hx ha h8 k (by omega) (by omega)
  rw[leastK,farK_next x.ns at_ hx ha k (by omega) (by omega) (by omega),cellAt,atK_get _ _ _ (by omega) (Nat.le_refl _)]
  have:=gap_le (x.ns.getD k 0) (at_.getD k 0) (numOk_getD hx k).1
  rw[cellAt]at ih
  omega
theorem leastK_ok(c at_:List Int)(hc:∀k,-4<=c.getD k 0∧c.getD k 0<=4)(ha:numOk at_):∀k,k<=100->0<=leastK c at_ k∧leastK c at_ k<=16000000*k
 | 0,_=>by show(0:Int)<=0∧_;simp[leastK]
 | k+1,h=>by
  have ih:=leastK_ok c at_ hc ha k (by omega)
  have h1:=hc k
  have h2:=numOk_getD ha k
  have hg:=sq_bound (d:=gapI (c.getD k 0*250) (at_.getD k 0)) (B:=4000) (by unfold gapI;omega) (by unfold gapI;omega)
  rw[leastK]
  omega
abbrev Cell:=List Int×List ItemV
def hasC(cs:List Cell)(a:List Int):Bool:=cs.any λc=>decide (c.1=a)
def withC(cs:List Cell)(a:List Int):List Cell:=if hasC cs a then cs else cs++ [(a,[])]
def idxC(cs:List Cell)(a:List Int):Nat:=cs.findIdx λc=>decide (c.1=a)
def putC(cs:List Cell)(k:Nat)(x:ItemV):List Cell:=cs.modify k λc=>(c.1,c.2++ [x])
def stepC(cs:List Cell)(x:ItemV):List Cell:=putC (withC cs (cellAt x)) (idxC cs (cellAt x)) x
def cellsL(l:List ItemV):List Cell:=l.foldl stepC []
theorem cellsL_succ(l:List ItemV)(j:Nat)(x:ItemV)(hx:l[j]? =some x):cellsL (l.take (j+1))=stepC (cellsL (l.take j)) x:=by
 have hj:=(List.getElem?_eq_some_iff.1 hx).1
 rw[List.take_succ_eq_append_getElem hj,(List.getElem?_eq_some_iff.1 hx).2,cellsL,cellsL,List.foldl_append]
 rfl
structure CellsOk(cs:List Cell)(l:List ItemV):Prop where
 perm:(cs.flatMap (·.2)).Perm l
 at_:∀c∈cs,∃x∈l,c.1=cellAt x
 in_:∀c∈cs,∀x∈c.2,cellAt x=c.1
 len:cs.length<=l.length
theorem idxC_lt(cs:List Cell)(a:List Int):idxC cs a<(withC cs a).length∧(withC cs a)[idxC cs a]?.map (·.1)=some a:=by
 unfold withC idxC
 by_cases h:hasC cs a=true
 ·rw[if_pos h]
  have h2:=List.findIdx_lt_length.2 (List.any_eq_true.1 h)
  refine⟨h2,?_⟩
  rw[List.getElem?_eq_getElem h2]
  have:=List.findIdx_getElem (p:=λc:Cell=>decide (c.1=a)) (w:=h2)
  simpa using this
 ·rw[if_neg h]
  have h2:cs.findIdx (λc=>decide (c.1=a))=cs.length:=by
   rw[List.findIdx_eq_length]
   intro c hc
   have h3:hasC cs a=false:=by simpa using h
   rw[hasC,List.any_eq_false]at h3
   simpa using h3 c hc
  rw[h2]
  simp
theorem stepC_ok{cs:List Cell}{l:List ItemV}(h:CellsOk cs l)(x:ItemV):CellsOk (stepC cs x) (l++ [x]):=by
 have hi:=idxC_lt cs (cellAt x)
 have hw:CellsOk (withC cs (cellAt x)) (l++ [x])->True:=λ_=>trivial
 have w1:((withC cs (cellAt x)).flatMap (·.2)).Perm l:=by
  unfold withC
  split
  ·exact h.perm
  ·rw[List.flatMap_append];simpa using h.perm
 have w2:∀c∈withC cs (cellAt x),∃y∈l++ [x],c.1=cellAt y:=by
  intro c hc
  unfold withC at hc
  split at hc
  ·obtain⟨y,hy,e⟩:=h.at_ c hc;exact⟨y,List.mem_append_left _ hy,e⟩
  ·rcases List.mem_append.1 hc with hc|hc
   ·obtain⟨y,hy,e⟩:=h.at_ c hc;exact⟨y,List.mem_append_left _ hy,e⟩
   ·rw[List.mem_singleton.1 hc];exact⟨x,by simp,rfl⟩
 have w3:∀c∈withC cs (cellAt x),∀y∈c.2,cellAt y=c.1:=by
  intro c hc
  unfold withC at hc
  split at hc
  ·exact h.in_ c hc
  ·rcases List.mem_append.1 hc with hc|hc
   ·exact h.in_ c hc
   ·rw[List.mem_singleton.1 hc];intro y hy;cases hy
 have w4:(withC cs (cellAt x)).length<=l.length+1:=by
  have:=h.len
  unfold withC
  split
  ·omega
  ·rw[List.length_append,List.length_singleton];omega
 obtain⟨W,hW⟩:∃W,W=withC cs (cellAt x):=⟨_,rfl⟩
 obtain⟨k,hk⟩:∃k,k=idxC cs (cellAt x):=⟨_,rfl⟩
 rw[<-hW]at hi w1 w2 w3 w4
 rw[<-hk]at hi
 rw[stepC,putC,<-hW,<-hk]
 have hsplit:W.modify k (λc=>(c.1,c.2++ [x]))=W.take k++(W[k].1,W[k].2++ [x])::W.drop (k+1):=by
  rw[List.modify_eq_take_cons_drop hi.1]
 have hW2:W=W.take k++W[k]::W.drop (k+1):=by
  rw[<-List.drop_eq_getElem_cons hi.1,List.take_append_drop]
 have hk1:W[k].1=cellAt x:=by
  have:=hi.2
  rw[List.getElem?_eq_getElem hi.1]at this
  simpa using this
 have hmem:∀c,c∈W.modify k (λc=>(c.1,c.2++ [x]))->c∈W∨c=(W[k].1,W[k].2++ [x]):=by
  intro c hc
  rw[hsplit]at hc
  rcases List.mem_append.1 hc with hc|hc
  ·exact .inl (List.mem_of_mem_take hc)
  ·rcases List.mem_cons.1 hc with hc|hc
   ·exact .inr hc
   ·exact .inl (List.mem_of_mem_drop hc)
 refine⟨?_,λc hc=> ?_,λc hc=> ?_,by rw[List.length_modify,List.length_append,List.length_singleton];exact w4⟩
 ·rw[hsplit]
  rw[hW2]at w1
  simp only[List.flatMap_append,List.flatMap_cons,List.append_assoc]at w1⊢
  have e1:((W.take k).flatMap (·.2)++(W[k].2++([x]++(W.drop (k+1)).flatMap (·.2)))).Perm (((W.take k).flatMap (·.2)++(W[k].2++(W.drop (k+1)).flatMap (·.2)))++ [x]):=by
   simp only[List.append_assoc]
   exact((List.perm_append_comm).append_left _).append_left _
  exact e1.trans (w1.append_right [x])
 ·rcases hmem c hc with hc|rfl
  ·exact w2 c hc
  ·exact⟨x,by simp,hk1⟩
 ·rcases hmem c hc with hc|rfl
  ·exact w3 c hc
  ·intro y hy
   rcases List.mem_append.1 hy with hy|hy
   ·exact w3 W[k] (List.getElem_mem _) y hy
   ·rw[List.mem_singleton.1 hy];exact hk1.symm
theorem cellsL_ok(l:List ItemV):CellsOk (cellsL l) l:=by
 have key:∀n,n<=l.length->CellsOk (cellsL (l.take n)) (l.take n):=by
  intro n
  induction n with
  | zero=>intro _;rw[List.take_zero];exact⟨List.Perm.refl _,λ_ h=>(by cases h),λ_ h=>(by cases h),Nat.le_refl _⟩
  | succ n ih=>
   intro hn
   have hx:l[n]? =some l[n]:=List.getElem?_eq_getElem (by omega)
   rw[cellsL_succ l n _ hx,List.take_succ_eq_append_getElem (by omega)]
   exact stepC_ok (ih (by omega)) _
 have:=key l.length (Nat.le_refl _)
 rwa [List.take_length]at this
theorem totF:Tot (λx y=> !(ltOf cmpF) y x) where
 trans:=leF_trans
 total:=leF_total
 anti:=λa b h1 h2=>by
  rw[Bool.not_eq_true']at h1 h2
  exact total_cmpF a b h2 h1
theorem foundL_append(l l':List ItemV)(at_:List Int)(tag:ByteArray):foundL (l++l') at_ tag=foundL l at_ tag++foundL l' at_ tag:=by
 rw[foundL,foundL,foundL,List.filter_append,List.map_append]
theorem top_step(V C:List ItemV)(at_:List Int)(k:Int)(tag:ByteArray):(sortF (topV V at_ k tag++topV C at_ k tag)).take k.toNat=topV (V++C) at_ k tag:=by
 have h1:=totF.first (foundL V at_ tag) (topV C at_ k tag) k.toNat
 have h2:=totF.first (foundL C at_ tag) (foundL V at_ tag) k.toNat
 have e1:(sortF (topV V at_ k tag++topV C at_ k tag)).take k.toNat=(sortF (foundL V at_ tag++topV C at_ k tag)).take k.toNat:=h1
 have e2:sortF (foundL V at_ tag++topV C at_ k tag)=sortF (topV C at_ k tag++foundL V at_ tag):=sortF_perm List.perm_append_comm
 have e3:(sortF (topV C at_ k tag++foundL V at_ tag)).take k.toNat=(sortF (foundL C at_ tag++foundL V at_ tag)).take k.toNat:=h2
 rw[e1,e2,e3,sortF_perm List.perm_append_comm,<-foundL_append]
 rfl
theorem top_break(V R:List ItemV)(at_:List Int)(k:Int)(tag:ByteArray)(hk:0<k.toNat)(hlen:(topV V at_ k tag).length=k.toNat)(y:FoundV)(hy:(topV V at_ k tag)[k.toNat-1]? =some y)(hR:∀x∈R,y.2<farW x.ns at_):topV (V++R) at_ k tag=topV V at_ k tag:=by
 have hl:k.toNat<=(foundL V at_ tag).length:=by
  rw[topV,List.length_take,sortF_len]at hlen;omega
 have h:=totF.absorb (foundL V at_ tag) (foundL R at_ tag) k.toNat hl ?_
 ·rw[topV,foundL_append]
  exact h
 ·intro x hx r hr
  have hx2:x.2<=y.2:=by
   have hS:=totF.sorted (foundL V at_ tag)
   have hy2:(sortF (foundL V at_ tag))[k.toNat-1]? =some y:=by
    rw[topV,List.getElem?_take,if_pos (by omega)]at hy
    exact hy
   obtain⟨i,hi,he⟩:=List.getElem_of_mem hx
   have hi2:i<k.toNat:=by rw[List.length_take]at hi;omega
   rw[List.getElem_take]at he
   obtain⟨hb,hb2⟩:=List.getElem?_eq_some_iff.1 hy2
   by_cases e:i=k.toNat-1
   ·subst e
    rw[<-he,<-hb2]
    exact Int.le_refl _
   ·have:=List.pairwise_iff_getElem.1 hS i (k.toNat-1) (by rw[List.length_take]at hi;omega) hb (by omega)
    rw[he]at this
    have h3:(!(ltOf cmpF) y x)=true:=by rw[<-hb2];exact this
    rw[Bool.not_eq_true',ltOf_cmpF_false]at h3
    have:¬y.2<x.2:=λe=>h3 (.inl e)
    omega
  obtain⟨z,hz,rfl⟩:=List.mem_map.1 hr
  have hz2:=hR z (List.mem_filter.1 hz).1
  have hz3:(foundV at_ z).2=farW z.ns at_:=rfl
  rw[Bool.not_eq_true',ltOf_cmpF_false]
  rintro(h|h)
  ·omega
  ·omega
end Go.Cof
namespace Go.Proofs.YtkjjpcebjcaadaaGreatDoor
open Go.RowKit Go.Cof Go.Sort Go.Shelf
structure RightOk(l out:List ItemV):Prop where
 sub:∀x∈out,x∈l
 ok:∀x∈out,itemB x 2=true
 nodup:(out.map (·.name)).Nodup
 len:out.length<=l.length
theorem item_info:∃i,Tryz.prog.info? 45=some i∧i.zero=some (.agg #[.string ⟨#[]⟩,.string ⟨#[]⟩,.slice none 0 0])∧i.size=3∧i.bytes=56:=by
 have h:(Tryz.prog.info? 45).map (λi=>(i.zero,i.size,i.bytes))=some (some (.agg #[.string ⟨#[]⟩,.string ⟨#[]⟩,.slice none 0 0]),3,56):=by kernel_rfl
 cases hi:Tryz.prog.info? 45 with
 | none=>rw[hi]at h;cases h
 | some i=>
  rw[hi]at h
  simp only[Option.map_some,Option.some.injEq,Prod.mk.injEq]at h
  exact⟨i,rfl,h.1,h.2.1,h.2.2⟩
theorem encItem_one3(nm tg:ByteArray)(pa:Option Addr)(nl ca:Nat):∀u∈ [Value.string nm,.string tg,.slice pa nl ca],u.oneCell'=true:=by
 intro u hu
 simp only[List.mem_cons,List.not_mem_nil,or_false]at hu
 rcases hu with rfl|rfl|rfl<;>rfl
theorem encItem_len(x:ItemV):(encItem x).length=3:=rfl
end Go.Proofs.YtkjjpcebjcaadaaGreatDoor
namespace Go.Proofs.YtkjjpcebjcaadaaGreatDoor
open Go.RowKit Go.Cof
theorem tab_keep{P:Program}{w w':World}{name:String}{k:IntKind}{zs:List Int}{g:Nat}(h:Lib.TabIs P w name k zs)(hg:P.globalNamed name=some g)(hh:w'.heap[g]? =w.heap[g]?):Lib.TabIs P w' name k zs:=by
 unfold Lib.TabIs World.var? at*
 rw[hg]at h⊢
 simp only[Option.bind_some,hh]at h⊢
 exact h
theorem powName:Tryz.prog.globalNamed "internal/strconv.uint64pow10" =some 5:=by kernel_rfl
def PowVar(w:World):Prop:=Lib.TabIs Tryz.prog w "internal/strconv.uint64pow10" .u64 Lib.pow10Tab
theorem PowVar.lt{w:World}(h:PowVar w):5<w.heap.size:=by
 have h0:(0:Nat)<Lib.pow10Tab.length:=by decide
 have:=Lib.TabIs.cell h powName 0 h0
 exact Lib.lt_of_cell this
theorem PowVar.keep{w w':World}(h:PowVar w){S:Nat->Prop}(hk:Keep S w w')(hn:¬S 5):PowVar w':=tab_keep h powName (hk.block _ h.lt hn)
theorem itoa_any(n:Int)(h0: -9223372036854775808<=n)(h1:n<=9223372036854775807)(w:World)(T:PowVar w):Calls Tryz.prog 123 #[.int .i64 n] w λe w'=>e= .returned (.string ⟨(Lib.itoa n).toArray⟩)∧Keep NoB w w':=by
 refine(Tryz.strconv_Itoa n h0 h1 w T).mono ?_
 rintro e w' ⟨he,k,os,hw⟩
 exact⟨he,Gr.keep ⟨k,os,hw⟩⟩
end Go.Proofs.YtkjjpcebjcaadaaGreatDoor
namespace Go.Proofs.YtkjjpcebjcaadaaGreatDoor
open Go.RowKit Go.Cof Go.Sort Go.Shelf
set_option maxRecDepth 100000 in
set_option maxHeartbeats 4000000 in
theorem equalInt_any(vx vy:Value)(xs ys:List Int)(w:World)(X:Nums w vx xs)(Y:Nums w vy ys)(hx:xs.length<=1000000)(hy:ys.length<=1000000):
  Calls Tryz.prog 62 #[vx,vy] w λe w'=>e= .returned (.bool (decide (xs=ys)))∧Keep NoB w w':=by
 obtain⟨px,cx,rfl⟩:=X.len
 obtain⟨py,cy,rfl⟩:=Y.len
 by_cases hl:xs.length=ys.length
 ·obtain⟨n,hn⟩:∃n,n=xs.length:=⟨_,rfl⟩
  have hn2:n=ys.length:=hn.trans hl
  rw[<-hn]at X hx
  rw[<-hn2]at Y hy
  rw[<-hn,<-hn2]
  have Hn:=Lib.hid hn
  have Hn2:=Lib.hid hn2
  clear hn hn2 hl
  go_enter Tryz.func62,Tryz.ntmps62
  go_wp2_with fail
  go_loopw [13] (λi wr=>∃k:Nat,k<=n∧i= .int .i64 k∧Hid (xs.take k=ys.take k)∧∃q,wr=w.drewN q) (λi _=>n-(intOf i).toNat)
  case atStart=>exact⟨0,by omega,rfl,Lib.hid rfl,0,rfl⟩
  case round=>
   obtain⟨k,hk,rfl,hpre,q,rfl⟩:=hrel
   by_cases hlt:k<n
   ·have j1:(k:Int)<n:=by omega
    obtain⟨bx,ox,rfl,-,hbx,hcx⟩:=X.at (by have:=Hn.out;omega)
    obtain⟨by_,oy,rfl,-,hby,hcy⟩:=Y.at (by have:=Hn2.out;omega)
    obtain⟨x,hx1⟩:∃x,xs[k]? =some x:=⟨_,List.getElem?_eq_getElem (by have:=Hn.out;omega)⟩
    obtain⟨y,hy1⟩:∃y,ys[k]? =some y:=⟨_,List.getElem?_eq_getElem (by have:=Hn2.out;omega)⟩
    have hs:=take_snoc_eq xs ys k x y hx1 hy1 hpre.out
    have c0:w.cell? ⟨bx,ox+k,none⟩=some (.int .i64 x):=by rw[hcx k (by have:=Hn.out;omega),List.getD_eq_getElem?_getD,hx1];rfl
    have d0:w.cell? ⟨by_,oy+k,none⟩=some (.int .i64 y):=by rw[hcy k (by have:=Hn2.out;omega),List.getD_eq_getElem?_getD,hy1];rfl
    obtain⟨B,hB⟩:∃B,B=decide (x=y):=⟨_,rfl⟩
    have hB2:(x==y)=B:=by rw[hB];rfl
    have hB3:(x !=y)= !B:=by rw[<-hB2];rfl
    have HB:=Lib.hid hB
    have Hs:=Lib.hid hs
    have Hx1:=Lib.hid hx1
    have Hy1:=Lib.hid hy1
    clear hcx hcy hs hB hx1 hy1
    cases B with
    | true=>
     rw[Bool.not_true]at hB3
     go_wp2_with fail
     go_quiet (fail)
     go_wp2_with fail
     refine⟨⟨k+1,by omega,by go_num,Lib.hid ?_,_,rfl⟩,by simp[intOf];omega⟩
     exact Hs.out.2 (of_decide_eq_true HB.out.symm)
    | false=>
     rw[Bool.not_false]at hB3
     have hne:xs≠ys:=λe=>by
      have h1:=Hx1.out
      have h2:=Hy1.out
      rw[e,h2]at h1
      have:=HB.out
      rw[Option.some.inj h1]at this
      simp at this
     have Hne:=Lib.hid (decide_eq_false hne)
     clear hne
     go_wp2_with fail
     go_quiet (fail)
     go_wp2_with fail
     go_ret
     exact⟨by rw[Hne.out];rfl,((Keep.refl _ _).drewN _).drewN _⟩
   ·have hall:xs=ys:=by
     have h:=hpre.out
     rw[List.take_of_length_le (by have:=Hn.out;omega),List.take_of_length_le (by have:=Hn2.out;omega)]at h
     exact h
    have j1:¬((k:Int)<n):=by omega
    have Hall:=Lib.hid (decide_eq_true hall)
    clear hall
    go_wp2_with fail
    go_ret
    exact⟨by rw[Hall.out];rfl,(Keep.refl _ _).drewN _⟩
 ·have hne:xs≠ys:=λe=>hl (by rw[e])
  rw[decide_eq_false hne]
  have j1:((xs.length:Int) !=ys.length)=true:=by simp;omega
  clear hl hne
  go_enter Tryz.func62,Tryz.ntmps62
  go_wp2_with fail
  go_ret
  exact⟨rfl,Keep.refl _ _⟩
def sameI(x y:ItemV):Bool:=decide (x.name=y.name)&&decide (x.tag=y.tag)&&decide (x.ns=y.ns)
theorem beqB(a b:ByteArray):(@BEq.beq (List UInt8) (@List.instBEq UInt8 instBEqOfDecidableEq) a.toList b.toList)=decide (a=b):=by
 by_cases h:a=b
 ·rw[decide_eq_true h,h];exact beq_self_eq_true _
 ·rw[decide_eq_false h];exact beq_eq_false_iff_ne.2 λe=>h (toList_inj e)
set_option maxRecDepth 100000 in
set_option maxHeartbeats 4000000 in
theorem alike1_any(x y:ItemV)(w:World)(X:Nums w x.av x.ns)(Y:Nums w y.av y.ns)(hx:x.ns.length<=1000000)(hy:y.ns.length<=1000000):
  Calls Tryz.prog 72 #[.agg (encItem x).toArray,.agg (encItem y).toArray] w λe w'=>e= .returned (.bool (sameI x y))∧Keep NoB w w':=by
 obtain⟨n1,t1,a1,s1⟩:=x
 obtain⟨n2,t2,a2,s2⟩:=y
 simp only at X Y hx hy
 obtain⟨p1,c1,rfl⟩:=X.len
 obtain⟨p2,c2,rfl⟩:=Y.len
 have hq:=λ(W:World) (K:Keep NoB w W)=>equalInt_any _ _ s1 s2 W (X.keep K (λ_ _ x=>x)) (Y.keep K (λ_ _ x=>x)) hx hy
 simp only[encItem,sameI]
 have b1:=beqB n1 n2
 have b2:=beqB t1 t2
 obtain⟨B1,hB1⟩:∃b,b=decide (n1=n2):=⟨_,rfl⟩
 obtain⟨B2,hB2⟩:∃b,b=decide (t1=t2):=⟨_,rfl⟩
 obtain⟨B3,hB3⟩:∃b,b=decide (s1=s2):=⟨_,rfl⟩
 rw[<-hB1]at b1
 rw[<-hB2]at b2
 rw[<-hB3]at hq
 rw[<-hB1,<-hB2,<-hB3]
 obtain⟨l1,hl1⟩:∃n,n=s1.length:=⟨_,rfl⟩
 obtain⟨l2,hl2⟩:∃n,n=s2.length:=⟨_,rfl⟩
 rw[<-hl1,<-hl2]at hq
 rw[<-hl1,<-hl2]
 have Hq:=Lib.hid hq
 clear hq hB1 hB2 hB3 hl1 hl2 X Y
 cases B1 with
 | false=>
  simp only[Bool.false_and]
  go_enter Tryz.func72,Tryz.ntmps72
  go_wp2_with fail
  go_ret
  exact⟨rfl,((Keep.refl NoB w).alloc _).alloc _⟩
 | true=>
  cases B2 with
  | false=>
   simp only[Bool.true_and,Bool.false_and]
   go_enter Tryz.func72,Tryz.ntmps72
   go_wp2_with fail
   go_ret
   exact⟨rfl,((Keep.refl NoB w).alloc _).alloc _⟩
  | true=>
   simp only[Bool.true_and]
   go_enter Tryz.func72,Tryz.ntmps72
   go_wp2_with fail
   refine(Hq.out _ (((Keep.refl NoB w).alloc _).alloc _)).mono ?_
   rintro e w' ⟨rfl,K⟩
   go_wp2_with fail
   go_ret
   exact⟨rfl,(((Keep.refl NoB w).alloc _).alloc _).thenN K⟩
def alikeB(xs ys:List ItemV):Bool:=decide (xs.map plainX=ys.map plainX)
 where plainX (x:ItemV):ByteArray×ByteArray×List Int:=(x.name,x.tag,x.ns)
theorem sameI_iff(x y:ItemV):sameI x y=true↔alikeB.plainX x=alikeB.plainX y:=by
 simp only[sameI,alikeB.plainX,Bool.and_eq_true,decide_eq_true_eq,Prod.mk.injEq,and_assoc]
set_option maxRecDepth 100000 in
set_option maxHeartbeats 4000000 in
theorem equalItems_any(vx vy:Value)(xs ys:List ItemV)(w:World)(X:Items w vx xs)(Y:Items w vy ys)(hx:xs.length<=1000000)(hy:ys.length<=1000000)(hxn:∀x∈xs,x.ns.length<=1000000)(hyn:∀x∈ys,x.ns.length<=1000000):
  Calls Tryz.prog 71 #[vx,vy,.func (.func 72) #[] #[]] w λe w'=>e= .returned (.bool (alikeB xs ys))∧Keep NoB w w':=by
 obtain⟨px,cx,rfl⟩:=X.rows.len
 obtain⟨py,cy,rfl⟩:=Y.rows.len
 have eg:=enters_of (args:= #[]) Tryz.func72 (by kernel_rfl) rfl
 by_cases hl:xs.length=ys.length
 ·obtain⟨n,hn⟩:∃n,n=xs.length:=⟨_,rfl⟩
  have hn2:n=ys.length:=hn.trans hl
  rw[<-hn]at X hx
  rw[<-hn2]at Y hy
  rw[<-hn,<-hn2]
  have Hn:=Lib.hid hn
  have Hn2:=Lib.hid hn2
  clear hn hn2 hl
  go_enter Tryz.func71,Tryz.ntmps71
  go_wp2_with fail
  go_loopw [17] (λi wr=>∃k:Nat,k<=n∧i= .int .i64 k∧Hid ((xs.map alikeB.plainX).take k=(ys.map alikeB.plainX).take k)∧Keep NoB w wr) (λi _=>n-(intOf i).toNat)
  case atStart=>exact⟨0,by omega,rfl,Lib.hid rfl,Keep.refl _ _⟩
  case round=>
   obtain⟨k,hk,rfl,hpre,K⟩:=hrel
   by_cases hlt:k<n
   ·have j1:(k:Int)<n:=by omega
    have Xr:=X.rows.keep K (λ_ _ x=>x)
    have Yr:=Y.rows.keep K (λ_ _ x=>x)
    obtain⟨bx,ox,rfl,-,hbx,hcx⟩:=Xr.at (by have:=Hn.out;omega)
    obtain⟨by_,oy,rfl,-,hby,hcy⟩:=Yr.at (by have:=Hn2.out;omega)
    obtain⟨x,hx1⟩:∃x,xs[k]? =some x:=⟨_,List.getElem?_eq_getElem (by have:=Hn.out;omega)⟩
    obtain⟨y,hy1⟩:∃y,ys[k]? =some y:=⟨_,List.getElem?_eq_getElem (by have:=Hn2.out;omega)⟩
    have rx:=hcx k x hx1
    have ry:=hcy k y hy1
    have hxm:=List.mem_of_getElem? hx1
    have hym:=List.mem_of_getElem? hy1
    have hs:=take_snoc_eq (xs.map alikeB.plainX) (ys.map alikeB.plainX) k _ _ (by rw[List.getElem?_map,hx1];rfl) (by rw[List.getElem?_map,hy1];rfl) hpre.out
    have Nx:=(X.nums x hxm).keep K (λ_ _ x=>x)
    have Ny:=(Y.nums y hym).keep K (λ_ _ x=>x)
    have hcall:=λ(W:World) (K:Keep NoB wr W)=>alike1_any x y W (Nx.keep K (λ_ _ x=>x)) (Ny.keep K (λ_ _ x=>x)) (hxn x hxm) (hyn y hym)
    obtain⟨B,hB⟩:∃B,B=sameI x y:=⟨_,rfl⟩
    rw[<-hB]at hcall
    have hsm:=sameI_iff x y
    rw[<-hB]at hsm
    have hne:B=false->alikeB xs ys=false:=λhb=>decide_eq_false λe=>by
     have h1:(xs.map alikeB.plainX)[k]? =some (alikeB.plainX x):=by rw[List.getElem?_map,hx1];rfl
     have h2:(ys.map alikeB.plainX)[k]? =some (alikeB.plainX y):=by rw[List.getElem?_map,hy1];rfl
     rw[e,h2]at h1
     have:=hsm.2 (Option.some.inj h1).symm
     rw[hb]at this
     cases this
    obtain⟨n1,t1,a1,s1⟩:=x
    obtain⟨n2,t2,a2,s2⟩:=y
    have x0:wr.cell? ⟨bx,ox+k*3,none⟩=some (.string n1):=rx 0 _ rfl
    have x1:wr.cell? ⟨bx,ox+k*3+1,none⟩=some (.string t1):=rx 1 _ rfl
    have x2:wr.cell? ⟨bx,ox+k*3+2,none⟩=some a1:=rx 2 _ rfl
    have y0:wr.cell? ⟨by_,oy+k*3,none⟩=some (.string n2):=ry 0 _ rfl
    have y1:wr.cell? ⟨by_,oy+k*3+1,none⟩=some (.string t2):=ry 1 _ rfl
    have y2:wr.cell? ⟨by_,oy+k*3+2,none⟩=some a2:=ry 2 _ rfl
    simp only at Nx Ny
    obtain⟨p1,c1,rfl⟩:=Nx.len
    obtain⟨p2,c2,rfl⟩:=Ny.len
    simp only[encItem]at hcall
    obtain⟨l1,hl1⟩:∃n,n=s1.length:=⟨_,rfl⟩
    obtain⟨l2,hl2⟩:∃n,n=s2.length:=⟨_,rfl⟩
    rw[<-hl1,<-hl2]at hcall
    rw[<-hl1]at x2
    rw[<-hl2]at y2
    have Hs:=Lib.hid hs
    have Hsm:=Lib.hid hsm
    have Hne:=Lib.hid hne
    have Hcall:=Lib.hid hcall
    clear hcx hcy rx ry hs hB hx1 hy1 hsm hne hcall Nx Ny hxm hym hl1 hl2 Xr Yr
    have hbx2:bx<(wr.alloc (.cells #[.string n1,.string t1,.slice p1 l1 c1] 45)).heap.size:=by show _<(wr.heap.push _).size;rw[Array.size_push];omega
    go_wp2_with fail
    refine(Hcall.out _ (((Keep.refl NoB wr).alloc _).alloc _)).mono ?_
    rintro e w' ⟨rfl,K2⟩
    have K3:=K.thenN ((((Keep.refl NoB wr).alloc _).alloc _).thenN K2)
    cases B with
    | true=>
     go_wp2_with fail
     refine⟨⟨k+1,by omega,by go_num,Lib.hid ?_,K3⟩,by simp[intOf];omega⟩
     exact Hs.out.2 (Hsm.out.1 (by first|rfl|trivial))
    | false=>
     go_wp2_with fail
     go_ret
     exact⟨by rw[Hne.out (by first|rfl|trivial)];rfl,K3⟩
   ·have hall:alikeB xs ys=true:=by
     have h:=hpre.out
     rw[List.take_of_length_le (by rw[List.length_map];have:=Hn.out;omega),List.take_of_length_le (by rw[List.length_map];have:=Hn2.out;omega)]at h
     exact decide_eq_true h
    have j1:¬((k:Int)<n):=by omega
    have Hall:=Lib.hid hall
    clear hall
    go_wp2_with fail
    go_ret
    exact⟨by rw[Hall.out];rfl,K⟩
 ·have hne:alikeB xs ys=false:=decide_eq_false λe=>hl (by have:=congrArg List.length e;simpa using this)
  rw[hne]
  have j1:((xs.length:Int) !=ys.length)=true:=by simp;omega
  clear hl hne
  go_enter Tryz.func71,Tryz.ntmps71
  go_wp2_with fail
  go_ret
  exact⟨rfl,Keep.refl _ _⟩
theorem alike_any(vx vy:Value)(xs ys:List ItemV)(w:World)(X:Items w vx xs)(Y:Items w vy ys)(hx:xs.length<=1000000)(hy:ys.length<=1000000)(hxn:∀x∈xs,x.ns.length<=1000000)(hyn:∀x∈ys,x.ns.length<=1000000):
  Calls Tryz.prog 25 #[vx,vy] w λe w'=>e= .returned (.bool (alikeB xs ys))∧Keep NoB w w':=by
 have hi:=equalItems_any vx vy xs ys w X Y hx hy hxn hyn
 obtain⟨B,hB⟩:∃B,B=alikeB xs ys:=⟨_,rfl⟩
 rw[<-hB]at hi⊢
 have Hi:=Lib.hid hi
 clear hi hB
 go_enter Tryz.func25,Tryz.ntmps25
 go_wp2_with fail
 refine Hi.out.mono ?_
 rintro e w' ⟨rfl,K⟩
 go_wp2_with fail
 go_ret
 exact⟨rfl,K⟩
end Go.Proofs.YtkjjpcebjcaadaaGreatDoor
namespace Go.Cof
open Go.RowKit Go.Sort Go.Shelf
structure DeedV where
 what:Int
 name:ByteArray
 tag:ByteArray
 av:Value
 ns:List Int
instance:Inhabited DeedV:=⟨⟨0,⟨#[]⟩,⟨#[]⟩,.slice none 0 0,[]⟩⟩
def encDeed(x:DeedV):List Value:= [.int .i64 x.what,.string x.name,.string x.tag,x.av]
def DeedV.item(x:DeedV):ItemV:=⟨x.name,x.tag,x.av,x.ns⟩
structure Deeds(w:World)(v:Value)(l:List DeedV):Prop where
 rows:RowsK w v 4 encDeed l
 nums:∀x∈l,Nums w x.av x.ns
end Go.Cof
namespace Go.Proofs.YtkjjpcebjcaadaaGreatDoor
open Go.RowKit Go.Cof Go.Sort Go.Shelf
set_option maxRecDepth 100000 in
set_option maxHeartbeats 4000000 in
theorem indexDeed_any(g:FuncId)(cb:Array Value)(p:DeedV->Bool)(v:Value)(l:List DeedV)(w:World)(S:RowsK w v 4 encDeed l)(hl:l.length<=1000000)
  (hp:∀x,x∈l->∀W,Keep NoB w W->Calls Tryz.prog g (#[.agg (encDeed x).toArray]++cb) W λe w'=>e= .returned (.bool (p x))∧Keep NoB W w') (eg:∀args w,(callFunc g args).run Tryz.prog w= .ok (.enter g args) w):
  Calls Tryz.prog 104 #[v,.func (.func g) #[] cb] w λe w'=>(∃i:Int,e= .returned (.int .i64 i)∧decide (0<=i)=l.any p)∧Keep NoB w w':=by
 obtain⟨a,c,rfl⟩:=S.len
 obtain⟨n,hn⟩:∃n,n=l.length:=⟨_,rfl⟩
 rw[<-hn]at S hl
 rw[<-hn]
 have Hn:=Lib.hid hn
 have Hp:=Lib.hid hp
 clear hn hp
 go_enter Tryz.func104,Tryz.ntmps104
 go_wp2_with fail
 go_loopw [8] (λi wr=>∃k:Nat,k<=n∧i= .int .i64 k∧(l.take k).any p=false∧Keep NoB w wr) (λi _=>n-(intOf i).toNat)
 case atStart=>exact⟨0,by omega,rfl,rfl,Keep.refl _ _⟩
 case round=>
  obtain⟨k,hk,rfl,hpre,K⟩:=hrel
  by_cases hlt:k<n
  ·have j1:decide (k<n)=true:=by simp;omega
   have Sr:=S.keep K (λ_ _ x=>x)
   obtain⟨b,off,rfl,-,hb,hcell⟩:=Sr.at (by have:=Hn.out;omega)
   obtain⟨x,hx⟩:∃x,l[k]? =some x:=⟨_,List.getElem?_eq_getElem (by have:=Hn.out;omega)⟩
   have hra:=hcell k x hx
   have hks:(l.take (k+1)).any p=p x:=by
    rw[List.take_succ_eq_append_getElem (by have:=Hn.out;omega),List.any_append,hpre,(List.getElem?_eq_some_iff.1 hx).2]
    simp
   have hxm:x∈l:=List.mem_of_getElem? hx
   have hcx:=Hp.out x hxm wr K
   have Hks:=Lib.hid hks
   have Hpre:=Lib.hid hpre
   have hj:(k:Int)<n:=by omega
   obtain⟨wh,nm,tg,av,ns⟩:=x
   have c0:wr.cell? ⟨b,off+k*4,none⟩=some (.int .i64 wh):=hra 0 _ rfl
   have c1:wr.cell? ⟨b,off+k*4+1,none⟩=some (.string nm):=hra 1 _ rfl
   have c2:wr.cell? ⟨b,off+k*4+2,none⟩=some (.string tg):=hra 2 _ rfl
   have c3:wr.cell? ⟨b,off+k*4+3,none⟩=some av:=hra 3 _ rfl
   have Hcx:=Lib.hid hcx
   have Hxm:=Lib.hid hxm
   clear hcell hra hks hpre hx hcx Sr hxm
   go_wp2_with fail
   refine Hcx.out.mono ?_
   rintro e w' ⟨rfl,K2⟩
   have K3:=K.thenN K2
   cases hps:p ⟨wh,nm,tg,av,ns⟩with
   | true=>
    rw[hps]at Hks
    have Hps:=Lib.hid hps
    clear hps Hcx
    go_wp2_with fail
    go_ret
    refine⟨⟨(k:Int),rfl,?_⟩,K3⟩
    have h2:l.any p=true:=List.any_eq_true.2 ⟨_,Hxm.out,Hps.out⟩
    rw[h2]
    simp
   | false=>
    rw[hps]at Hks
    clear hps Hcx
    go_wp2_with fail
    exact⟨⟨k+1,by omega,by go_num,Hks.out,K3⟩,by simp[intOf];omega⟩
  ·obtain rfl:k=n:=by omega
   have hall:l.any p=false:=by rw[<-hpre,List.take_of_length_le (by rw[<-Hn.out];exact Nat.le_refl _)]
   have j1:decide (k<k)=false:=by simp
   have Hall:=Lib.hid hall
   clear hall hpre
   go_wp2_with fail
   go_ret
   exact⟨⟨-1,rfl,by rw[Hall.out];rfl⟩,K⟩
set_option maxRecDepth 100000 in
theorem containsDeed_any(g:FuncId)(cb:Array Value)(p:DeedV->Bool)(v:Value)(l:List DeedV)(w:World)(S:RowsK w v 4 encDeed l)(hl:l.length<=1000000)
  (hp:∀x,x∈l->∀W,Keep NoB w W->Calls Tryz.prog g (#[.agg (encDeed x).toArray]++cb) W λe w'=>e= .returned (.bool (p x))∧Keep NoB W w') (eg:∀args w,(callFunc g args).run Tryz.prog w= .ok (.enter g args) w):
  Calls Tryz.prog 46 #[v,.func (.func g) #[] cb] w λe w'=>e= .returned (.bool (l.any p))∧Keep NoB w w':=by
 have hi:=indexDeed_any g cb p v l w S hl hp eg
 clear hp
 go_enter Tryz.func46,Tryz.ntmps46
 go_wp2_with fail
 refine hi.mono ?_
 rintro e w' ⟨⟨i,rfl,hii⟩,K⟩
 have Hii:=Lib.hid hii
 clear hii hi
 go_wp2_with fail
 go_ret
 refine⟨congrArg (λb=>Ending.returned (.bool b)) ?_,K⟩
 rw[<-Hii.out]
def wideD(x:DeedV):Bool:=wideB x.item
def deedsB(l:List DeedV):Bool:=decide (l.length<=40)&& !l.any wideD
set_option maxRecDepth 100000 in
theorem deeds1_any(x:DeedV)(w:World)(N:Nums w x.av x.ns)(hx:x.ns.length<=maxLen):Calls Tryz.prog 47 #[.agg (encDeed x).toArray] w λe w'=>e= .returned (.bool (wideD x))∧Keep NoB w w':=by
 obtain⟨wh,nm,tg,av,ns⟩:=x
 simp only at N hx
 obtain⟨p,c,rfl⟩:=N.len
 simp only[encDeed]
 have KA:Keep NoB w (w.alloc (.cells #[.int .i64 wh,.string nm,.string tg,.slice p ns.length c] 47)):=(Keep.refl _ _).alloc _
 have hh:=held_any (.slice (some ⟨w.heap.size+1,0,none⟩) 1 1) [⟨nm,tg,.slice p ns.length c,ns⟩] ((w.alloc (.cells #[.int .i64 wh,.string nm,.string tg,.slice p ns.length c] 47)).alloc (.cells #[.string nm,.string tg,.slice p ns.length c] 45)) ⟨by
  have h:=RowsK.lit (w:=w.alloc (.cells #[.int .i64 wh,.string nm,.string tg,.slice p ns.length c] 47)) (E:=45) (enc:=encItem) (k:=3) (λ_=>rfl) [⟨nm,tg,.slice p ns.length c,ns⟩]
  have e:(w.alloc (.cells #[.int .i64 wh,.string nm,.string tg,.slice p ns.length c] 47)).heap.size=w.heap.size+1:=by simp
  rw[e]at h
  exact h,λy hy=>by
   rw[List.mem_singleton.1 hy]
   exact N.keep (KA.alloc _) (λ_ _ x=>x)⟩ (by simp[maxLen])
 have hb:heldB [⟨nm,tg,.slice p ns.length c,ns⟩]= !wideD ⟨wh,nm,tg,.slice p ns.length c,ns⟩:=by simp[heldB,wideD,DeedV.item]
 rw[hb]at hh
 obtain⟨R,hR⟩:∃R,R=wideD ⟨wh,nm,tg,.slice p ns.length c,ns⟩:=⟨_,rfl⟩
 rw[<-hR]at hh⊢
 obtain⟨nl,hnl⟩:∃n,n=ns.length:=⟨_,rfl⟩
 rw[<-hnl]at hh KA⊢
 have Hh:=Lib.hid hh
 clear hh hb hR hnl N
 go_enter Tryz.func47,Tryz.ntmps47
 go_wp2_with fail
 refine Hh.out.mono ?_
 rintro e w' ⟨rfl,K⟩
 go_wp2_with fail
 go_ret
 exact⟨by simp,(KA.alloc _).thenN K⟩
set_option maxRecDepth 100000 in
theorem deeds_any(v:Value)(l:List DeedV)(w:World)(I:Deeds w v l)(hl:l.length<=maxLen)(hns:∀x∈l,x.ns.length<=maxLen):Calls Tryz.prog 7 #[v] w λe w'=>e= .returned (.bool (deedsB l))∧Keep NoB w w':=by
 obtain⟨p,c,rfl⟩:=I.rows.len
 unfold maxLen at hl
 by_cases h:l.length<=40
 ·have hb:deedsB l= !l.any wideD:=by rw[deedsB,decide_eq_true h,Bool.true_and]
  rw[hb]
  have hc:=containsDeed_any 47 #[] wideD _ l w I.rows (by omega) (λx hx W K=>deeds1_any x W ((I.nums x hx).keep K (λ_ _ x=>x)) (hns x hx)) (enters_of Tryz.func47 (by kernel_rfl) rfl)
  have d1:((l.length:Nat):Int)<=40:=by omega
  generalize l.any wideD=b at hc⊢
  clear hb h
  go_enter Tryz.func7,Tryz.ntmps7
  go_wp2_with fail
  refine hc.mono ?_
  rintro e w' ⟨rfl,K⟩
  go_wp2_with fail
  go_ret
  exact⟨rfl,K⟩
 ·have hb:deedsB l=false:=by rw[deedsB,decide_eq_false h,Bool.false_and]
  rw[hb]
  have d1:¬((l.length:Nat):Int)<=40:=by omega
  clear hb h
  go_enter Tryz.func7,Tryz.ntmps7
  go_wp2_with fail
  go_ret
  exact⟨rfl,Keep.refl _ _⟩
end Go.Proofs.YtkjjpcebjcaadaaGreatDoor
namespace Go.Proofs.YtkjjpcebjcaadaaGreatDoor
open Go.RowKit Go.Cof Go.Sort Go.Shelf
structure ROk(x:ItemV)(dim:Int):Prop where
 lo:1<=dim
 hi:dim<=8
 len:(x.ns.length:Int)=dim
 num:numOk x.ns
end Go.Proofs.YtkjjpcebjcaadaaGreatDoor
